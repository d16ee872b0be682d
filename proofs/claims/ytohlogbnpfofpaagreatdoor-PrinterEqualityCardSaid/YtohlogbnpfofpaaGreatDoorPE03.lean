/- Part 3 of the proof of equality: Structs, Shelf, Dec, FnLexB, FnLexN, FnLexNum, FnLexS, FnLexQ, FnLexD, FnLex, FnPm, FnPa, FnPb, FnPc. -/
import Derived.Shelf.Strconv.Atoi
import Derived.Shelf.Small.Strs
import Derived.Shelf.Strings.Prefix
import Derived.Shelf.Strings.Search1
import Derived.Ground.Names2Prog
import Derived.Shelf.Strings.Count
import Derived.Shelf.LaysM
import Derived.Shelf.LaysC
import Derived.Shelf.Strconv.Itoa3
import Derived.Shelf.Strings.Builder1
import Derived.Test.YtohlogbnpfofpaaGreatDoorProg
import Derived.Lib.ItoaMem
import Derived.Lib.AtoiErrMem
import Derived.Test.YtohlogbnpfofpaaGreatDoorPE02
set_option linter.all false
set_option maxHeartbeats 100000000
set_option maxRecDepth 100000
namespace Go.Proofs.YtohlogbnpfofpaaGreatDoor
open Go StillVC
set_option maxRecDepth 100000
theorem u8_5:U8I Tryz.prog 5:=by unfold U8I;kernel_rfl
theorem aBu:Tryz.prog.underlying 20=some (.interface (Tryz.prog.methodsAt 20)):=by kernel_rfl
theorem mP:StructT Tryz.prog 24 [(0,1)] [false] [.slice none 0 0]:=.mk' (by kernel_rfl) oT
theorem aM:StructT Tryz.prog 42 [(0,1),(1,1),(2,1),(3,1),(4,1),(5,1),(6,1),(7,1),(8,1)] [false,false,false,false,false,false,false,false,false] [.int .i64 0,.string ⟨⟨[]⟩⟩,.slice none 0 0,.slice none 0 0,.slice none 0 0,.string ⟨⟨[]⟩⟩,.string ⟨⟨[]⟩⟩,.int .i64 0,.int .i64 0]:=.mk' (by kernel_rfl) aT
theorem aC:StructT Tryz.prog 44 [(0,1),(1,1),(2,1),(3,1),(4,1),(5,1),(6,1),(7,1),(8,1),(9,1),(10,1),(11,1),(12,1),(13,1),(14,1),(15,1),(16,9)] [false,false,false,false,false,false,false,false,false,false,false,false,false,false,false,false,true] [.int .i64 0,.string ⟨⟨[]⟩⟩,.int .i64 0,.string ⟨⟨[]⟩⟩,.string ⟨⟨[]⟩⟩,.slice none 0 0,.slice none 0 0,.int .i64 0,.int .i64 0,.int .i64 0,.slice none 0 0,.string ⟨⟨[]⟩⟩,.string ⟨⟨[]⟩⟩,.slice none 0 0,.slice none 0 0,.slice none 0 0,.int .i64 0,.string ⟨⟨[]⟩⟩,.slice none 0 0,.slice none 0 0,.slice none 0 0,.string ⟨⟨[]⟩⟩,.string ⟨⟨[]⟩⟩,.int .i64 0,.int .i64 0]:=.mk' (by kernel_rfl) fR
theorem vF:StructT Tryz.prog 54 [(0,1),(1,1)] [false,false] [.pointer none,.slice none 0 0]:=.mk' (by kernel_rfl) ty54
theorem yY:StructT Tryz.prog 56 [(0,2),(2,1)] [true,false] [.pointer none,.slice none 0 0,.int .i64 0]:=.mk' (by kernel_rfl) ty56
theorem bO:StructT Tryz.prog 58 [(0,3)] [true] [.pointer none,.slice none 0 0,.int .i64 0]:=.mk' (by kernel_rfl) ty58
theorem st68:StructT Tryz.prog 68 [(0,1),(1,1)] [false,false] [.int .i64 0,.int .i64 0]:=.mk' (by kernel_rfl) ty68
theorem con68:jX Tryz.prog 68=true:=by kernel_rfl
theorem fH:StructT Tryz.prog 72 [(0,1),(1,1)] [false,false] [.slice none 0 0,.int .i64 0]:=.mk' (by kernel_rfl) ty72
theorem arr80:ArrT Tryz.prog 80 79 11 (.nilFunc) 8:=⟨Tryz.underlying80,ty79⟩
theorem qG:vM Tryz.prog 93 [(0,2),(1,2),(2,3)]=true:=by kernel_rfl
theorem cN:StructT Tryz.prog 93 [(0,1),(1,1),(2,1)] [false,false,false] [.int .i64 0,.int .i64 0,.string ⟨⟨[]⟩⟩]:=.mk' (by kernel_rfl) bS
theorem aBT:StructT Tryz.prog 95 [(0,1),(1,3)] [false,true] [.string ⟨⟨[]⟩⟩,.int .i64 0,.int .i64 0,.string ⟨⟨[]⟩⟩]:=.mk' (by kernel_rfl) pI
theorem pl98:vM Tryz.prog 98 [(0,3),(1,3)]=true:=by kernel_rfl
theorem st98:StructT Tryz.prog 98 [(0,1),(1,1)] [false,false] [.string ⟨⟨[]⟩⟩,.string ⟨⟨[]⟩⟩]:=.mk' (by kernel_rfl) lW
theorem st102:StructT Tryz.prog 102 [(0,1),(1,1)] [false,false] [.int .i64 0,.int .i64 0]:=.mk' (by kernel_rfl) ty102
theorem con102:jX Tryz.prog 102=true:=by kernel_rfl
theorem dC:StructT Tryz.prog 106 [(0,1),(1,1)] [false,false] [.string ⟨⟨[]⟩⟩,.int .i64 0]:=.mk' (by kernel_rfl) ty106
theorem arr108:ArrT Tryz.prog 108 107 4 (.nilFunc) 8:=⟨Tryz.underlying108,ty107⟩
theorem st110:StructT Tryz.prog 110 [(0,4)] [true] [.nilFunc,.nilFunc,.nilFunc,.nilFunc]:=.mk' (by kernel_rfl) ty110
theorem eP:StructT Tryz.prog 112 [(0,1),(1,1),(2,1),(3,1)] [false,false,false,false] [.int .i64 0,.string ⟨⟨[]⟩⟩,.int .i64 0,.int .i64 0]:=.mk' (by kernel_rfl) bB
theorem arr115:ArrT Tryz.prog 115 9 10 (.string ⟨⟨[]⟩⟩) 16:=⟨Tryz.underlying115,aL⟩
theorem kO:StructT Tryz.prog 132 [(0,1),(1,1),(2,3)] [false,false,true] [.string ⟨⟨[]⟩⟩,.int .i64 0,.int .i64 0,.int .i64 0,.string ⟨⟨[]⟩⟩]:=.mk' (by kernel_rfl) fB
theorem jS:StructT Tryz.prog 134 [(0,1),(1,1)] [false,false] [.int .i64 0,.int .i64 0]:=.mk' (by kernel_rfl) ty134
theorem bQ:StructT Tryz.prog 136 [(0,1),(1,1),(2,1),(3,2),(5,1),(6,1)] [false,false,false,true,false,false] [.string ⟨⟨[]⟩⟩,.int .i64 0,.int .i64 0,.int .i64 0,.int .i64 0,.int .i64 0,.int .i64 0]:=.mk' (by kernel_rfl) cL
theorem fO:StructT Tryz.prog 140 [(0,1),(1,1),(2,1),(3,3)] [false,false,false,true] [.string ⟨⟨[]⟩⟩,.string ⟨⟨[]⟩⟩,.bool false,.int .i64 0,.int .i64 0,.string ⟨⟨[]⟩⟩]:=.mk' (by kernel_rfl) mK
theorem kN:StructT Tryz.prog 142 [(0,6),(6,1),(7,6),(13,1)] [true,false,true,false] [.string ⟨⟨[]⟩⟩,.string ⟨⟨[]⟩⟩,.bool false,.int .i64 0,.int .i64 0,.string ⟨⟨[]⟩⟩,.int .i64 0,.string ⟨⟨[]⟩⟩,.string ⟨⟨[]⟩⟩,.bool false,.int .i64 0,.int .i64 0,.string ⟨⟨[]⟩⟩,.int .i64 0]:=.mk' (by kernel_rfl) eV
theorem cC:StructT Tryz.prog 188 [(0,1),(1,1),(2,1)] [false,false,false] [.string ⟨⟨[]⟩⟩,.bool false,.nilFunc]:=.mk' (by kernel_rfl) aV
theorem qN:StructT Tryz.prog 194 [(0,1),(1,1)] [false,false] [.string ⟨⟨[]⟩⟩,.int .i64 0]:=.mk' (by kernel_rfl) qA
theorem st210:StructT Tryz.prog 210 [(0,0),(0,1)] [true,false] [.int .u32 0]:=.mk' (by kernel_rfl) ty210
theorem st212:StructT Tryz.prog 212 [(0,1),(1,1)] [false,false] [.int .i32 0,.int .u32 0]:=.mk' (by kernel_rfl) ty212
theorem st214:StructT Tryz.prog 214 [(0,0),(0,2)] [true,true] [.int .i32 0,.int .u32 0]:=.mk' (by kernel_rfl) ty214
theorem st216:StructT Tryz.prog 216 [(0,0),(0,1),(1,2)] [true,true,true] [.int .u32 0,.int .i32 0,.int .u32 0]:=.mk' (by kernel_rfl) ty216
theorem aA5:StructT Tryz.prog 220 [(0,3),(3,1),(4,1)] [true,false,false] [.int .u32 0,.int .i32 0,.int .u32 0,.nilIface,.slice none 0 0]:=.mk' (by kernel_rfl) ty220
end Go.Proofs.YtohlogbnpfofpaaGreatDoor
namespace Go.Proofs.YtohlogbnpfofpaaGreatDoor
open Go Go.Proofs
open Go.Shelf
def Tryz.lays137_ren:Go.Shelf.Ren:=⟨fun|137=>99|217=>139|266=>157|n=>n,fun|9=>9|5=>5|3=>3|n=>n,fun|n=>n⟩
theorem Tryz.lays137:Go.Proofs.Lays.n137 Tryz.prog Tryz.lays137_ren:={
 mixed:=by kernel_rfl
 f137:=Tryz.func99.trans (congrArg some (by kernel_rfl))
 f217:=Tryz.func139.trans (congrArg some (by kernel_rfl))
 f266:=Tryz.func157.trans (congrArg some (by kernel_rfl))
 t3:=Tryz.underlying3
 a3:=Tryz.isAgg3
 z3:=Tryz.sizeOf3
 v3:=Tryz.zeroValue3
 t5:=Tryz.underlying5
 a5:=Tryz.isAgg5
 z5:=Tryz.sizeOf5
 v5:=Tryz.zeroValue5
 t9:=Tryz.underlying9
 a9:=Tryz.isAgg9
 z9:=Tryz.sizeOf9
 v9:=Tryz.zeroValue9 }
open Go.RowKit in
theorem Tryz.strings_IndexByte (s:ByteArray)(c:Int)(w:World) :
  Calls Tryz.prog 99 #[.string s,.int .u8 c] w fun e w'=>e=.returned (.int .i64 (Lib.indexByte s.data.toList c.toNat.toUInt8))∧w'=w:=Any.strings_IndexByte Tryz.lays137 s c w
def Tryz.lays172_ren:Go.Shelf.Ren:=⟨fun|172=>98|244=>137|245=>138|247=>152|279=>153|280=>154|281=>155|282=>156|287=>169|316=>170|171=>150|205=>171|321=>177|322=>178|243=>167|246=>175|283=>185|284=>186|285=>187|286=>188|129=>196|317=>195|318=>197|319=>198|320=>199|337=>209|338=>210|n=>n,fun|9=>9|3=>3|75=>84|76=>120|4=>4|5=>5|167=>196|37=>52|0=>0|85=>197|2=>2|168=>199|53=>178|175=>223|46=>225|210=>227|127=>86|145=>236|143=>234|21=>21|171=>251|173=>254|212=>271|51=>208|20=>20|213=>272|232=>289|233=>290|80=>61|n=>n,fun|15=>2|16=>3|17=>5|18=>6|19=>7|n=>n⟩
theorem Tryz.lays172:Go.Proofs.Lays.n172 Tryz.prog Tryz.lays172_ren:={
 mixed:=by kernel_rfl
 f129:=Tryz.func196.trans (congrArg some (by kernel_rfl))
 f171:=Tryz.func150.trans (congrArg some (by kernel_rfl))
 f172:=Tryz.func98.trans (congrArg some (by kernel_rfl))
 f205:=Tryz.func171.trans (congrArg some (by kernel_rfl))
 f243:=Tryz.func167.trans (congrArg some (by kernel_rfl))
 f244:=Tryz.func137.trans (congrArg some (by kernel_rfl))
 f245:=Tryz.func138.trans (congrArg some (by kernel_rfl))
 f246:=Tryz.func175.trans (congrArg some (by kernel_rfl))
 f247:=Tryz.func152.trans (congrArg some (by kernel_rfl))
 f279:=Tryz.func153.trans (congrArg some (by kernel_rfl))
 f280:=Tryz.func154.trans (congrArg some (by kernel_rfl))
 f281:=Tryz.func155.trans (congrArg some (by kernel_rfl))
 f282:=Tryz.func156.trans (congrArg some (by kernel_rfl))
 f283:=Tryz.func185.trans (congrArg some (by kernel_rfl))
 f284:=Tryz.func186.trans (congrArg some (by kernel_rfl))
 f285:=Tryz.func187.trans (congrArg some (by kernel_rfl))
 f286:=Tryz.func188.trans (congrArg some (by kernel_rfl))
 f287:=Tryz.func169.trans (congrArg some (by kernel_rfl))
 f316:=Tryz.func170.trans (congrArg some (by kernel_rfl))
 f317:=Tryz.func195.trans (congrArg some (by kernel_rfl))
 f318:=Tryz.func197.trans (congrArg some (by kernel_rfl))
 f319:=Tryz.func198.trans (congrArg some (by kernel_rfl))
 f320:=Tryz.func199.trans (congrArg some (by kernel_rfl))
 f321:=Tryz.func177.trans (congrArg some (by kernel_rfl))
 f322:=Tryz.func178.trans (congrArg some (by kernel_rfl))
 f337:=Tryz.func209.trans (congrArg some (by kernel_rfl))
 f338:=Tryz.func210.trans (congrArg some (by kernel_rfl))
 t0:=Tryz.underlying0
 a0:=Tryz.isAgg0
 z0:=Tryz.sizeOf0
 v0:=Tryz.zeroValue0
 t2:=Tryz.underlying2
 a2:=Tryz.isAgg2
 z2:=Tryz.sizeOf2
 v2:=Tryz.zeroValue2
 t3:=Tryz.underlying3
 a3:=Tryz.isAgg3
 z3:=Tryz.sizeOf3
 v3:=Tryz.zeroValue3
 t4:=Tryz.underlying4
 a4:=Tryz.isAgg4
 z4:=Tryz.sizeOf4
 v4:=Tryz.zeroValue4
 t5:=Tryz.underlying5
 a5:=Tryz.isAgg5
 z5:=Tryz.sizeOf5
 v5:=Tryz.zeroValue5
 t9:=Tryz.underlying9
 a9:=Tryz.isAgg9
 z9:=Tryz.sizeOf9
 v9:=Tryz.zeroValue9
 t20:=Tryz.underlying20
 a20:=Tryz.isAgg20
 z20:=Tryz.sizeOf20
 v20:=Tryz.zeroValue20
 t21:=Tryz.underlying21
 a21:=Tryz.isAgg21
 z21:=Tryz.sizeOf21
 v21:=Tryz.zeroValue21
 t37:=Tryz.underlying52
 a37:=Tryz.isAgg52
 z37:=Tryz.sizeOf52
 v37:=Tryz.zeroValue52
 t46:=Tryz.underlying225
 a46:=Tryz.isAgg225
 z46:=Tryz.sizeOf225
 v46:=Tryz.zeroValue225
 t51:=Tryz.underlying208
 a51:=Tryz.isAgg208
 z51:=Tryz.sizeOf208
 v51:=Tryz.zeroValue208
 t53:=Tryz.underlying178
 a53:=Tryz.isAgg178
 z53:=Tryz.sizeOf178
 v53:=Tryz.zeroValue178
 t75:=Tryz.underlying84
 a75:=Tryz.isAgg84
 z75:=Tryz.sizeOf84
 v75:=Tryz.zeroValue84
 t76:=Tryz.underlying120
 a76:=Tryz.isAgg120
 z76:=Tryz.sizeOf120
 v76:=Tryz.zeroValue120
 t85:=Tryz.underlying197
 a85:=Tryz.isAgg197
 z85:=Tryz.sizeOf197
 v85:=Tryz.zeroValue197
 t127:=Tryz.underlying86
 a127:=Tryz.isAgg86
 z127:=Tryz.sizeOf86
 v127:=Tryz.zeroValue86
 t143:=Tryz.underlying234
 a143:=Tryz.isAgg234
 z143:=Tryz.sizeOf234
 v143:=Tryz.zeroValue234
 t145:=Tryz.underlying236
 a145:=Tryz.isAgg236
 z145:=Tryz.sizeOf236
 v145:=Tryz.zeroValue236
 t167:=Tryz.underlying196
 a167:=Tryz.isAgg196
 z167:=Tryz.sizeOf196
 v167:=Tryz.zeroValue196
 t168:=Tryz.underlying199
 a168:=Tryz.isAgg199
 z168:=Tryz.sizeOf199
 v168:=Tryz.zeroValue199
 t171:=Tryz.underlying251
 a171:=Tryz.isAgg251
 z171:=Tryz.sizeOf251
 v171:=Tryz.zeroValue251
 t173:=Tryz.underlying254
 a173:=Tryz.isAgg254
 z173:=Tryz.sizeOf254
 v173:=Tryz.zeroValue254
 t175:=Tryz.underlying223
 a175:=Tryz.isAgg223
 z175:=Tryz.sizeOf223
 v175:=Tryz.zeroValue223
 t210:=Tryz.underlying227
 a210:=Tryz.isAgg227
 z210:=Tryz.sizeOf227
 v210:=Tryz.zeroValue227
 t212:=Tryz.underlying271
 a212:=Tryz.isAgg271
 z212:=Tryz.sizeOf271
 v212:=Tryz.zeroValue271
 t213:=Tryz.underlying272
 a213:=Tryz.isAgg272
 z213:=Tryz.sizeOf272
 t232:=Tryz.underlying289
 a232:=Tryz.isAgg289
 z232:=Tryz.sizeOf289
 v232:=Tryz.zeroValue289
 t233:=Tryz.underlying290
 a233:=Tryz.isAgg290
 z233:=Tryz.sizeOf290
 v233:=Tryz.zeroValue290
 g15:=by kernel_rfl
 g16:=by kernel_rfl
 g17:=by kernel_rfl
 g18:=by kernel_rfl
 g19:=by kernel_rfl }
open Go.RowKit in
theorem Tryz.strconv_Atoi (s:ByteArray)(n:Int)(hl:s.size≤18)(h:Lib.atoi s.data.toList=some n)(w:World) :
  Calls Tryz.prog 98 #[.string s] w fun e w'=>e=.returned (.tuple #[.int .i64 n,.nilIface])∧∃ t,w'=Lib.bytesWorld w 5 t:=Any.strconv_Atoi Tryz.lays172 s n hl h w
def Tryz.laysM171_ren:Go.Shelf.Ren:=⟨fun|171=>150|243=>167|246=>175|283=>185|284=>186|285=>187|286=>188|129=>196|317=>195|318=>197|319=>198|320=>199|337=>209|338=>210|n=>n,fun|3=>3|9=>9|2=>2|4=>4|171=>251|0=>0|53=>178|37=>52|5=>5|173=>254|212=>271|51=>208|20=>20|213=>272|46=>225|232=>289|233=>290|n=>n,fun|17=>5|18=>6|19=>7|n=>n⟩
theorem Tryz.laysM171:Go.Proofs.LaysM.n171 Tryz.prog Tryz.laysM171_ren:={
 mixed:=by kernel_rfl
 f129:=Tryz.func196.trans (congrArg some (by kernel_rfl))
 f171:=Tryz.func150.trans (congrArg some (by kernel_rfl))
 f243:=Tryz.func167.trans (congrArg some (by kernel_rfl))
 f246:=Tryz.func175.trans (congrArg some (by kernel_rfl))
 f283:=Tryz.func185.trans (congrArg some (by kernel_rfl))
 f284:=Tryz.func186.trans (congrArg some (by kernel_rfl))
 f285:=Tryz.func187.trans (congrArg some (by kernel_rfl))
 f286:=Tryz.func188.trans (congrArg some (by kernel_rfl))
 f317:=Tryz.func195.trans (congrArg some (by kernel_rfl))
 f318:=Tryz.func197.trans (congrArg some (by kernel_rfl))
 f319:=Tryz.func198.trans (congrArg some (by kernel_rfl))
 f320:=Tryz.func199.trans (congrArg some (by kernel_rfl))
 f337:=Tryz.func209.trans (congrArg some (by kernel_rfl))
 f338:=Tryz.func210.trans (congrArg some (by kernel_rfl))
 t0:=Tryz.underlying0
 a0:=Tryz.isAgg0
 z0:=Tryz.sizeOf0
 v0:=Tryz.zeroValue0
 t2:=Tryz.underlying2
 a2:=Tryz.isAgg2
 z2:=Tryz.sizeOf2
 v2:=Tryz.zeroValue2
 t3:=Tryz.underlying3
 a3:=Tryz.isAgg3
 z3:=Tryz.sizeOf3
 v3:=Tryz.zeroValue3
 t4:=Tryz.underlying4
 a4:=Tryz.isAgg4
 z4:=Tryz.sizeOf4
 v4:=Tryz.zeroValue4
 t5:=Tryz.underlying5
 a5:=Tryz.isAgg5
 z5:=Tryz.sizeOf5
 v5:=Tryz.zeroValue5
 t9:=Tryz.underlying9
 a9:=Tryz.isAgg9
 z9:=Tryz.sizeOf9
 v9:=Tryz.zeroValue9
 t20:=Tryz.underlying20
 a20:=Tryz.isAgg20
 z20:=Tryz.sizeOf20
 v20:=Tryz.zeroValue20
 t37:=Tryz.underlying52
 a37:=Tryz.isAgg52
 z37:=Tryz.sizeOf52
 v37:=Tryz.zeroValue52
 t46:=Tryz.underlying225
 a46:=Tryz.isAgg225
 z46:=Tryz.sizeOf225
 v46:=Tryz.zeroValue225
 t51:=Tryz.underlying208
 a51:=Tryz.isAgg208
 z51:=Tryz.sizeOf208
 v51:=Tryz.zeroValue208
 t53:=Tryz.underlying178
 a53:=Tryz.isAgg178
 z53:=Tryz.sizeOf178
 v53:=Tryz.zeroValue178
 t171:=Tryz.underlying251
 a171:=Tryz.isAgg251
 z171:=Tryz.sizeOf251
 v171:=Tryz.zeroValue251
 t173:=Tryz.underlying254
 a173:=Tryz.isAgg254
 z173:=Tryz.sizeOf254
 v173:=Tryz.zeroValue254
 t212:=Tryz.underlying271
 a212:=Tryz.isAgg271
 z212:=Tryz.sizeOf271
 v212:=Tryz.zeroValue271
 t213:=Tryz.underlying272
 a213:=Tryz.isAgg272
 z213:=Tryz.sizeOf272
 t232:=Tryz.underlying289
 a232:=Tryz.isAgg289
 z232:=Tryz.sizeOf289
 v232:=Tryz.zeroValue289
 t233:=Tryz.underlying290
 a233:=Tryz.isAgg290
 z233:=Tryz.sizeOf290
 v233:=Tryz.zeroValue290
 g17:=by kernel_rfl
 g18:=by kernel_rfl
 g19:=by kernel_rfl
 i0:=by kernel_rfl
 i2:=by kernel_rfl
 i3:=by kernel_rfl
 i4:=by kernel_rfl
 i5:=by kernel_rfl
 i9:=by kernel_rfl
 i20:=by kernel_rfl
 i37:=by kernel_rfl
 i46:=by kernel_rfl
 i51:=by kernel_rfl
 i53:=by kernel_rfl
 i171:=by kernel_rfl
 i173:=by kernel_rfl
 i212:=by kernel_rfl
 i232:=by kernel_rfl
 i233:=by kernel_rfl
 m17:=by kernel_rfl
 m18:=by kernel_rfl
 m19:=by kernel_rfl }
open Go.RowKit Go.Sort Go.Lib in
theorem Tryz.strconv_Itoa (n:Int)(h0:-9223372036854775808≤n)(h1:n≤9223372036854775807)(w:World)(htab:Lib.TabIs Tryz.prog w "internal/strconv.uint64pow10" .u64 Lib.pow10Tab) :
  Calls Tryz.prog 150 #[.int .i64 n] w fun e w'=>e=.returned (.string ⟨(Lib.itoa n).toArray⟩)∧∃ k os,w'=grow (w.drewN k) os:=Any.strconv_Itoa Tryz.laysM171 n h0 h1 w htab
def Tryz.lays138_ren:Go.Shelf.Ren:=⟨fun|138=>251|195=>252|218=>253|143=>254|219=>255|217=>139|225=>256|224=>257|267=>258|266=>157|314=>259|n=>n,fun|9=>9|3=>3|4=>4|5=>5|0=>0|46=>225|146=>320|51=>208|n=>n,fun|1=>4|n=>n⟩
theorem Tryz.lays138:Go.Proofs.Lays.n138 Tryz.prog Tryz.lays138_ren:={
 mixed:=by kernel_rfl
 f138:=Tryz.func251.trans (congrArg some (by kernel_rfl))
 f143:=Tryz.func254.trans (congrArg some (by kernel_rfl))
 f195:=Tryz.func252.trans (congrArg some (by kernel_rfl))
 f217:=Tryz.func139.trans (congrArg some (by kernel_rfl))
 f218:=Tryz.func253.trans (congrArg some (by kernel_rfl))
 f219:=Tryz.func255.trans (congrArg some (by kernel_rfl))
 f224:=Tryz.func257.trans (congrArg some (by kernel_rfl))
 f225:=Tryz.func256.trans (congrArg some (by kernel_rfl))
 f266:=Tryz.func157.trans (congrArg some (by kernel_rfl))
 f267:=Tryz.func258.trans (congrArg some (by kernel_rfl))
 f314:=Tryz.func259.trans (congrArg some (by kernel_rfl))
 t0:=Tryz.underlying0
 a0:=Tryz.isAgg0
 z0:=Tryz.sizeOf0
 v0:=Tryz.zeroValue0
 t3:=Tryz.underlying3
 a3:=Tryz.isAgg3
 z3:=Tryz.sizeOf3
 v3:=Tryz.zeroValue3
 t4:=Tryz.underlying4
 a4:=Tryz.isAgg4
 z4:=Tryz.sizeOf4
 v4:=Tryz.zeroValue4
 t5:=Tryz.underlying5
 a5:=Tryz.isAgg5
 z5:=Tryz.sizeOf5
 v5:=Tryz.zeroValue5
 t9:=Tryz.underlying9
 a9:=Tryz.isAgg9
 z9:=Tryz.sizeOf9
 v9:=Tryz.zeroValue9
 t46:=Tryz.underlying225
 a46:=Tryz.isAgg225
 z46:=Tryz.sizeOf225
 v46:=Tryz.zeroValue225
 t51:=Tryz.underlying208
 a51:=Tryz.isAgg208
 z51:=Tryz.sizeOf208
 v51:=Tryz.zeroValue208
 t146:=Tryz.underlying320
 a146:=Tryz.isAgg320
 z146:=Tryz.sizeOf320
 v146:=Tryz.zeroValue320
 g1:=by kernel_rfl }
open Go.RowKit Go.Lib in
theorem Tryz.strings_Count_one (s:ByteArray)(c:UInt8)(w:World) :
  Calls Tryz.prog 251 #[.string s,.string ⟨#[c]⟩] w fun e w'=>e=.returned (.int .i64 (Lib.countByte s.data.toList c))∧w'=w:=Any.strings_Count_one Tryz.lays138 s c w
def Tryz.lays99_ren:Go.Shelf.Ren:=⟨fun|99=>100|206=>140|n=>n,fun|9=>9|4=>4|3=>3|n=>n,fun|n=>n⟩
theorem Tryz.lays99:Go.Proofs.Lays.n99 Tryz.prog Tryz.lays99_ren:={
 mixed:=by kernel_rfl
 f99:=Tryz.func100.trans (congrArg some (by kernel_rfl))
 f206:=Tryz.func140.trans (congrArg some (by kernel_rfl))
 t3:=Tryz.underlying3
 a3:=Tryz.isAgg3
 z3:=Tryz.sizeOf3
 v3:=Tryz.zeroValue3
 t4:=Tryz.underlying4
 a4:=Tryz.isAgg4
 z4:=Tryz.sizeOf4
 v4:=Tryz.zeroValue4
 t9:=Tryz.underlying9
 a9:=Tryz.isAgg9
 z9:=Tryz.sizeOf9
 v9:=Tryz.zeroValue9 }
open Go.RowKit Go.Lib in
theorem Tryz.strings_HasPrefix (s p:ByteArray)(w:World) :
  Calls Tryz.prog 100 #[.string s,.string p] w fun e w'=>e=.returned (.bool (Lib.hasPrefix s.data.toList p.data.toList))∧w'=w:=Any.strings_HasPrefix Tryz.lays99 s p w
end Go.Proofs.YtohlogbnpfofpaaGreatDoor
namespace Go.Proofs.YtohlogbnpfofpaaGreatDoor
open Go StillVC
theorem oH {d:Nat}(h:d<10):(UInt8.ofNat (48+d)).toNat=48+d:=by
 rw[UInt8.toNat_ofNat'];omega
theorem dec_digits (u:Nat):∀ c∈Lib.decDigits u,48≤c.toNat∧c.toNat≤57:=by
 induction u using Nat.strongRecOn with
 | _ u ih =>
  intro c hc
  rw[Lib.decDigits]at hc
  split at hc
  ·rename_i h
   simp only[aDg]at hc;subst hc
   rw[oH h];omega
  ·rcases aDS.1 hc with hc|hc
   ·exact ih _ (by omega) c hc
   ·simp only[aDg]at hc;subst hc
    rw[oH (by omega)];omega
def undec (l:aBs):Nat:=l.foldl (fun n c=>n*10+(c.toNat - 48)) 0
theorem undec_dec (u:Nat):undec (Lib.decDigits u)=u:=by
 induction u using Nat.strongRecOn with
 | _ u ih =>
  rw[Lib.decDigits]
  split
  ·rename_i h
   simp only[undec,List.foldl_cons,List.foldl_nil,oH h];omega
  ·have:=ih (u / 10) (by omega)
   unfold undec at this ⊢
   rw[List.foldl_append,this]
   simp only[List.foldl_cons,List.foldl_nil,oH (show u % 10<10 by omega)];omega
theorem dec_ne_nil (u:Nat):Lib.decDigits u≠[]:=by
 intro h
 have:=Lib.decDigits_length u
 rw[h]at this
 rw[Lib.decDigits]at h
 split at h<;>simp at h
def cP (c:UInt8):Bool:=decide (97≤c.toNat∧c.toNat≤122∨65≤c.toNat∧c.toNat≤90)
def bU (c:UInt8):Bool:=decide (48≤c.toNat∧c.toNat≤57)
def cK (c:UInt8):Bool:=cP c||bU c||decide (c.toNat=95)
theorem lowered:∀ n:Fin 256,(97≤bits .or .u8 (n.val:Int) 32∧bits .or .u8 (n.val:Int) 32≤122)↔(97≤n.val∧n.val≤122∨65≤n.val∧n.val≤90):=by decide +kernel
theorem letterB_iff (c:UInt8):cP c=true↔(97≤bits .or .u8 (c.toNat:Int) 32∧bits .or .u8 (c.toNat:Int) 32≤122):=by
 rw[lowered ⟨c.toNat,c.toNat_lt⟩]
 simp[cP]
theorem aAx (c:UInt8)(h:Heap):bZ Tryz.prog 97 [.int .u8 c.toNat] h fun r h'=>r=.bool (bU c)∧Own h [] h':=by
 refine aC1 Tryz.func97 rfl Tryz.ntmps97 (by kernel_rfl) ?_;have o0:=Own.refl h;refine aCV (fun c10=>?_) (fun c10=>?_);refine aC3 rfl ?_
 rotate_left
 refine aC3 rfl ?_
 ·exact⟨congrArg Value.bool (decide_eq_false (by omega)).symm,o0⟩
 ·exact⟨congrArg Value.bool (decide_eq_decide.2 (by omega)),o0⟩
theorem xK (c:UInt8)(h:Heap):bZ Tryz.prog 94 [.int .u8 c.toNat] h fun r h'=>r=.bool (cP c)∧Own h [] h':=by
 have hl:=letterB_iff c;refine aC1 Tryz.func94 rfl Tryz.ntmps94 (by kernel_rfl) ?_;have o0:=Own.refl h;refine rR (bit rfl rfl rfl ?_);refine aCV (fun c11=>?_) (fun c11=>?_);refine rR (bit rfl rfl rfl ?_);refine aC3 rfl ?_
 rotate_left
 refine aC3 rfl ?_
 ·refine⟨congrArg Value.bool ?_,o0⟩
  cases hb:cP c with
  | false=>rfl
  | true=>exact absurd (hl.1 hb).1 ‹_›
 ·refine⟨congrArg Value.bool ?_,o0⟩
  rw[Bool.eq_iff_iff,hl,decide_eq_true_iff]
  exact⟨fun e=>⟨by assumption,e⟩,fun e=>e.2⟩
theorem aAl (c:UInt8)(h:Heap):bZ Tryz.prog 96 [.int .u8 c.toNat] h fun r h'=>r=.bool (cK c)∧Own h [] h':=by
 unfold cK;refine aC1 Tryz.func96 rfl Tryz.ntmps96 (by kernel_rfl) ?_;have o0:=Own.refl h;refine aCZ (xK c _) ?_;rintro _ h1 ⟨rfl,oa⟩;have o1:=o0.ext' oa;cases hb:cP c with
 | true =>
  refine aCW ?_;refine aC3 rfl ?_
  exact⟨rfl,o1⟩
 | false =>
  refine aCX ?_;refine aCZ (aAx c _) ?_;rintro _ h2 ⟨rfl,ob⟩;have o2:=o1.ext' ob;cases hd:bU c with
  | true =>
   refine aCW ?_;refine aC3 rfl ?_
   exact⟨rfl,o2⟩
  | false =>
   refine aCX ?_;refine aC3 rfl ?_
   refine⟨congrArg Value.bool ?_,o2⟩
   simp only[Bool.or_self,Bool.false_or]
   exact decide_eq_decide.2 (by omega)
def jG (c:UInt8):Bool:=decide (c.toNat≠10)
theorem skip1_spec (c:UInt8)(h:Heap):bZ Tryz.prog 101 [.int .u8 c.toNat] h fun r h'=>r=.bool (jG c)∧Own h [] h':=by
 refine aC1 Tryz.func101 rfl Tryz.ntmps101 (by kernel_rfl) ?_;have o0:=Own.refl h;refine aC3 rfl ?_
 refine⟨congrArg Value.bool ?_,o0⟩
 unfold jG
 rw[← decide_not]
 exact decide_eq_decide.2 (by omega)
def bM (p:UInt8→Bool)(l:aBs):Nat:=(l.takeWhile p).length
theorem nG (p:UInt8→Bool)(l:aBs):bM p l≤l.length:=by
 unfold bM
 exact(List.takeWhile_sublist p).length_le
theorem sD {p:UInt8→Bool}:∀ {l:aBs}{n:Nat},(∀ c∈l.take n,p c=true)→n≤l.length→(∀ c,l[n]?=some c→p c=false)→bM p l=n
 | [],n,_,hn,_=>by simp at hn;subst hn;rfl
 | c::l,0,_,_,h=>by
  have:=h c rfl
  unfold bM
  rw[aDx,this]
  rfl
 | c::l,n+1,ha,hn,h=>by
  have hc:=ha c (by simp);have ih:=sD (p:=p) (l:=l) (n:=n) (fun d hd=>ha d (by simp[hd])) (by simpa using hn) (fun d hd=>h d (by simpa using hd));unfold bM at ih ⊢
  rw[aDx,hc,if_pos rfl,aDe,ih]
theorem tU (p:UInt8→Bool)(g:Nat)(cap:aVs)(b:Nat)(t:aBs)(i:Nat)(h:Heap)(hi:i≤t.length)(hl:t.length≤1000000)
  (h0:aY h ⟨b,0,none⟩=some (.string ⟨⟨t⟩⟩)) (h1:aY h ⟨b,1,none⟩=some (.int .i64 i))
  (hp:∀(c:UInt8) (h':Heap),Ext h h'→bZ Tryz.prog g (.int .u8 c.toNat::cap) h' fun r h''=>r=.bool (p c)∧Own h' [] h'') :
  bZ Tryz.prog 95 [.pointer (some ⟨b,0,none⟩),.func (.func g) ⟨[]⟩ ⟨cap⟩] h fun r h'=>r=.int .i64 (bM p (t.drop i))∧Own h [] h':=by
 refine aC1 Tryz.func95 rfl Tryz.ntmps95 (by kernel_rfl) ?_;have o0:=Own.refl h;refine aC5 [5,6,7,8,9,10,11,12,13,14,15,16,17,18,19,20,21,22,23,24,25,26,27,28,29,30,31,32,33,34] [5] (fun vs hh=>∃(n:Nat),i+n≤t.length∧vs=[.int .i64 n]∧(∀ c∈(t.drop i).take n,p c=true)∧Own h [] hh) (fun vs _=>match vs with|[.int _ n]=>t.length - n.toNat|_=>0) ?_ ?_
 ·exact⟨0,by omega,rfl,by simp,o0⟩
 ·rintro vs junk hh ⟨n,hn,rfl,ha,oh⟩
  by_cases hlt:i+n<t.length
  ·obtain⟨c,hc⟩:=getx hlt
   have hc':(t.drop i)[n]?=some c:=by rw[aDG];exact hc
   refine aCY [0,1,2,4,5,6,7,8,10,11,12,13,14,15,16,18,19,20,22,23,24,26] [3,9,17,21] [25] [0,1,2,3,4,5,6,7,8,9,10,11,12,13,14,15,16,17,18,19,20,21,22,23,24,25,26] mixed (by kernel_rfl) rfl (fun _ _ _ _ h=>h) ?_;refine nC rfl ?_;refine fA dC rfl rfl rfl ?_;refine load1 aS rfl (oh.old h1) ?_;refine aC2 (by omega) (by omega) ?_;refine nC rfl ?_;refine fA dC rfl rfl rfl ?_;refine load1 aL rfl (oh.old h0) ?_;refine aCE rfl cT ?_;refine aCV (fun c27=>?_) (fun hc=>absurd (by omega) hc);refine nC rfl ?_;refine fA dC rfl rfl rfl ?_;refine load1 aL rfl (oh.old h0) ?_;refine nC rfl ?_;refine fA dC rfl rfl rfl ?_;refine load1 aS rfl (oh.old h1) ?_;refine aC2 (by omega) (by omega) ?_;refine aCA rfl rfl cT (by omega) ‹_› ?_;refine aCZ (hp c _ (Own.ext ‹_›)) ?_;rintro _ h2 ⟨rfl,ob⟩;have o2:=oh.ext' ob;cases hb:p c with
   | true =>
    refine aCW ?_;refine aC2 (by omega) (by omega) ?_
    refine⟨rfl,?_⟩
    refine⟨⟨n+1,by omega,rfl,fun d hd=>?_,o2⟩,by simp;omega⟩
    rw[aDQ,hc']at hd
    rcases aDS.1 hd with hd|hd
    ·exact ha d hd
    ·simp at hd;subst hd;exact hb
   | false =>
    have:bM p (t.drop i)=n:=sD ha (by simp;omega) (fun d hd=>by rw[hc']at hd;cases hd;exact hb)
    rw[this]
    refine aCX ?_;refine aC3 rfl ?_
    exact⟨rfl,o2⟩
  ·have:bM p (t.drop i)=n:=sD ha (by simp;omega) (fun d hd=>by
    obtain⟨hd',_⟩:=aC9.1 hd
    simp at hd'
    omega)
   rw[this]
   refine aCY [0,1,2,4,5,6,7,8,10,11,12,13,14,15,16,18,19,20,22,23,24,26] [3,9,17,21] [25] [0,1,2,3,4,5,6,7,8,9,10,11,12,13,14,15,16,17,18,19,20,21,22,23,24,25,26] mixed (by kernel_rfl) rfl (fun _ _ _ _ h=>h) ?_;refine nC rfl ?_;refine fA dC rfl rfl rfl ?_;refine load1 aS rfl (oh.old h1) ?_;refine aC2 (by omega) (by omega) ?_;refine nC rfl ?_;refine fA dC rfl rfl rfl ?_;refine load1 aL rfl (oh.old h0) ?_;refine aCE rfl cT ?_;refine aCV (fun hc=>absurd hc (by omega)) (fun c87=>?_);refine aCX ?_;refine aC3 rfl ?_
   exact⟨rfl,oh⟩
def Ends (Post:Value→Heap→Prop)(Pan:List PanicEntry→Heap→Prop):Ending→Heap→Prop
 | .returned v,h=>Post v h
 | .panicked c,h=>Pan c h
 | .outgrown,_=>False
theorem StillVC.aC0 {P:Program}{g:FuncId}{args s:aVs}{h:Heap}{K:KK}{Q:QQ}{Post:Value→Heap→Prop}{Pan:List PanicEntry→Heap→Prop}
  (sp:Spec P g args h (Ends Post Pan)) (hk:∀ v h',Post v h'→K v false h') (hq:∀ c h',Pan c h'→Q (.panic c) s h'):CallVC P g args s h K Q where
 spec:=⟨_,.inl sp,hk,hq,fun _ h=>h.elim⟩
def faultC (e:Int)(i:Nat):List PanicEntry:=[{ v:=.iface 102 (.agg ⟨[.int .i64 e,.int .i64 i]⟩),recovered:=false }]
inductive Rd where
 | tok (kind:Int) (text:aBs) (num:Int) (len:Nat)
 | none
 | err (e:Int)
def tokV (k:Int)(x:aBs)(n a:Int):Value:=.agg ⟨[.int .i64 k,.string ⟨⟨x⟩⟩,.int .i64 n,.int .i64 a]⟩
def RdE (h:Heap)(i:Nat)(r:Rd):Ending→Heap→Prop :=
 Ends (fun v h'=>(match r with
   | .tok k x n l=>v=.tuple ⟨[tokV k x n 0,.int .i64 l]⟩
   | .none=>∃ k x n a,v=.tuple ⟨[tokV k x n a,.int .i64 0]⟩
   | .err _=>False)∧Own h [] h')
  (fun c h'=>(match r with
   | .err e=>c=faultC e i
   | _=>False)∧Own h [] h')
theorem gU (e:Int)(b:Nat)(t:aBs)(i:Nat)(h:Heap)(h1:aY h ⟨b,1,none⟩=some (.int .i64 i)) :
  Spec Tryz.prog 54 [.pointer (some ⟨b,0,none⟩),.int .i64 e] h (Ends (fun _ _=>False) fun c h'=>c=faultC e i∧Own h [] h'):=by
 refine aC1 Tryz.func54 rfl Tryz.ntmps54 (by kernel_rfl) ?_;have o0:=Own.refl h;refine rR (nC rfl ?_);refine rR (fA dC rfl rfl rfl ?_);refine rR (load1 aS rfl ‹_› ?_);refine rR (aCr st102 ?_);refine aI rfl ?_;refine aI rfl ?_;refine rR (aCQ con102 rfl ?_);refine RunVC.panicI rfl ?_
 exact⟨rfl,o0⟩
def xF (l:aBs):Rd :=
 match l with
 | []=>.none
 | c::_=>if cP c=true then(if 24<bM cK l then .err 3 else .tok 1 (l.take (bM cK l)) 0 (bM cK l)) else .none
theorem nameR_at {t:aBs}{i:Nat}{c:UInt8}(hc:t[i]?=some c):xF (t.drop i)=if cP c=true then(if 24<bM cK (t.drop i) then .err 3 else .tok 1 ((t.drop i).take (bM cK (t.drop i))) 0 (bM cK (t.drop i))) else .none:=by
 obtain⟨hi,rfl⟩:=aC9.1 hc
 rw[aDi hi]
 rfl
theorem name_spec (b:Nat)(t:aBs)(i:Nat)(h:Heap)(hi:i<t.length)(hl:t.length≤1000000)
  (h0:aY h ⟨b,0,none⟩=some (.string ⟨⟨t⟩⟩)) (h1:aY h ⟨b,1,none⟩=some (.int .i64 i)) :
  Spec Tryz.prog 49 [.pointer (some ⟨b,0,none⟩)] h (RdE h i (xF (t.drop i))):=by
 obtain⟨c,hc⟩:=getx hi
 rw[nameR_at hc]
 have hsl:=nG cK (t.drop i);have hdl:(t.drop i).length=t.length - i:=by simp
 refine aC1 Tryz.func49 rfl Tryz.ntmps49 (by kernel_rfl) ?_;have o0:=Own.refl h;(refine aCT o0 bB ?_;intro b10 m10 o10);refine aCY [0,1,2,4,5,6,8,10] [3,7] [9] [0,1,2,3,4,5,6,7,8,9,10] mixed (by kernel_rfl) rfl (fun _ _ _ _ h=>h) ?_;refine nC rfl ?_;refine fA dC rfl rfl rfl ?_;refine load1 aL rfl (o10.old h0) ?_;refine nC rfl ?_;refine fA dC rfl rfl rfl ?_;refine load1 aS rfl (o10.old h1) ?_;refine aCA rfl rfl cT (by omega) ‹_› ?_;refine aCZ (xK c _) ?_;rintro _ h2 ⟨rfl,oa⟩;have o2:=oa.thenE ‹_›;cases hb:cP c with
 | false =>
  rw[if_neg (by decide)]
  refine aCW ?_;refine rR (aCr eP ?_);(refine aCl o2 0 rfl bB rfl (by decide) (aI ⟨rfl,rfl⟩ ?_);intro m21 o21)
  first|refine aCy rfl o21 0 rfl bB rfl rfl ?_|refine aCx rfl o21 0 rfl bB rfl rfl ?_|refine RetVC.cellTT rfl o21 0 rfl bB rfl rfl ?_
  exact⟨⟨0,[],0,0,rfl⟩,Own.sel ‹_› [] rfl⟩
 | true =>
  rw[if_pos rfl]
  refine aCX ?_;refine aCZ (tU cK 96 [] b t i _ (by omega) hl (o2.old h0) (o2.old h1) (fun d h' e=>aAl d h')) ?_;rintro _ h3 ⟨rfl,ob⟩;have o3:=ob.thenE ‹_›;by_cases hn:24<bM cK (t.drop i)
  ·rw[if_pos hn]
   refine aCV (fun c60=>?_) (fun hc=>absurd (by omega) hc);exact aC0 (gU 3 b t i _ (o3.old h1)) (fun _ _ h=>h.elim) (fun c h' ⟨hc,ho⟩=>⟨hc,(ho.thenE o3).sel [] rfl⟩)
  ·rw[if_neg hn]
   refine aCV (fun hc=>absurd hc (by omega)) (fun c80=>?_);refine aCY [0,1,2,4,5,6,8,9,10,12,13,14,15,16,18] [3,7,11] [17] [0,1,2,3,4,5,6,7,8,9,10,11,12,13,14,15,16,17,18] mixed (by kernel_rfl) rfl (fun _ _ _ _ h=>h) ?_;refine nC rfl ?_;refine fA dC rfl rfl rfl ?_;refine load1 aL rfl (o3.old h0) ?_;refine nC rfl ?_;refine fA dC rfl rfl rfl ?_;refine load1 aS rfl (o3.old h1) ?_;refine nC rfl ?_;refine fA dC rfl rfl rfl ?_;refine load1 aS rfl (o3.old h1) ?_;refine aC2 (by omega) (by omega) ?_;refine aCL cT rfl ⟨_,rfl⟩ ⟨_,rfl⟩ (by omega) (by omega) (by omega) ?_;refine aCr eP ?_;refine aI rfl ?_;refine aI rfl ?_;(refine aCl o3 0 rfl bB rfl (by decide) (aI ⟨rfl,rfl⟩ ?_);intro m92 o92)
   first|refine aCy rfl o92 0 rfl bB rfl rfl ?_|refine aCx rfl o92 0 rfl bB rfl rfl ?_|refine RetVC.cellTT rfl o92 0 rfl bB rfl rfl ?_
   refine⟨?_,Own.sel ‹_› [] rfl⟩
   have e:List.drop (i:Int).toNat (List.take ((i:Int)+(bM cK (t.drop i):Nat)).toNat t)=(t.drop i).take (bM cK (t.drop i)):=by
    rw[show((i:Int)+(bM cK (t.drop i):Nat)).toNat=i+bM cK (t.drop i) by omega,Int.toNat_natCast,List.drop_take]
    congr 1
    omega
   show Value.tuple _=Value.tuple _
   rw[← e]
   rfl
theorem digitVal_of {c:UInt8}(h:48≤c.toNat∧c.toNat≤57):Lib.digitVal c=some (c.toNat - 48):=if_pos h
theorem rT:∀(l:aBs)(acc:Nat),(∀ c∈l,48≤c.toNat∧c.toNat≤57)→Lib.decFrom acc l=some (l.foldl (fun n c=>n*10+(c.toNat - 48)) acc)
 | [],acc,_=>rfl
 | c::l,acc,h=>by
  rw[Lib.decFrom,digitVal_of (h c (by simp))]
  exact rT l _ (fun d hd=>h d (by simp[hd]))
theorem atoi_digits {l:aBs}(hl:l≠[])(h:∀ c∈l,48≤c.toNat∧c.toNat≤57):Lib.atoi l=some ((undec l:Nat):Int):=by
 cases l with
 | nil=>exact absurd rfl hl
 | cons b r =>
  have hb:=h b (by simp);have h45:(b == 45)=false:=by
   rw[beq_eq_false_iff_ne]
   rintro rfl
   simp at hb
  have h43:(b == 43)=false:=by
   rw[beq_eq_false_iff_ne]
   rintro rfl
   simp at hb
  rw[Lib.atoi,h45,h43]
  simp only[aDh,if_false,Lib.decNat,List.isEmpty_cons]
  rw[rT _ _ h]
  rfl
theorem atoi_spec (l:aBs)(h:Heap)(hl:l.length≤18)(hne:l≠[])(hd:∀ c∈l,48≤c.toNat∧c.toNat≤57) :
  bZ Tryz.prog 98 [.string ⟨⟨l⟩⟩] h fun r h'=>r=.tuple ⟨[.int .i64 (undec l),.nilIface]⟩∧Own h [] h':=by
 refine⟨⟨_,Tryz.func98,rfl,by kernel_rfl⟩,fun w hw=>?_⟩
 subst hw
 refine(Tryz.strconv_Atoi ⟨⟨l⟩⟩ (undec l) hl (atoi_digits hne hd) w).mono ?_
 rintro e w' ⟨rfl,t,rfl⟩;have hb:=Lib.bytesWorld_below w 5 t
 exact⟨⟨hb.os,hb.tape,hb.output,hb.size⟩,rfl,Own.of_ext ⟨hb.size,hb.block⟩⟩
theorem rJ (l:aBs)(c:UInt8)(h:Heap) :
  bZ Tryz.prog 99 [.string ⟨⟨l⟩⟩,.int .u8 c.toNat] h fun r h'=>r=.int .i64 (Lib.indexByte l c)∧Own h [] h':=by
 refine⟨⟨_,Tryz.func99,rfl,by kernel_rfl⟩,fun w hw=>?_⟩
 subst hw
 refine(Tryz.strings_IndexByte ⟨⟨l⟩⟩ c.toNat w).mono ?_
 rintro e w' ⟨rfl,rfl⟩
 refine⟨.refl _,?_,Own.refl _⟩
 have:((c.toNat:Int).toNat).toUInt8=c:=by simp
 rw[this]
theorem rL (l p:aBs)(h:Heap) :
  bZ Tryz.prog 100 [.string ⟨⟨l⟩⟩,.string ⟨⟨p⟩⟩] h fun r h'=>r=.bool (Lib.hasPrefix l p)∧Own h [] h':=by
 refine⟨⟨_,Tryz.func100,rfl,by kernel_rfl⟩,fun w hw=>?_⟩
 subst hw
 refine(Tryz.strings_HasPrefix ⟨⟨l⟩⟩ ⟨⟨p⟩⟩ w).mono ?_
 rintro e w' ⟨rfl,rfl⟩
 exact⟨.refl _,rfl,Own.refl _⟩
def pM (l:aBs):Rd :=
 if bM bU l=0 then .none
 else if 10<bM bU l∨bM bU l<bM cK l then .err 6
 else .tok 2 (l.take (bM bU l)) (undec (l.take (bM bU l))) (bM bU l)
theorem sC (p:UInt8→Bool):∀(l:aBs),∀ c∈l.take (bM p l),p c=true
 | [],c,hc=>by simp at hc
 | a::l,c,hc=>by
  unfold bM at hc
  rw[aDx]at hc
  cases ha:p a with
  | false=>rw[ha]at hc;simp at hc
  | true =>
   rw[ha]at hc
   simp only[if_true,aDe,aDy,aDo]at hc
   rcases hc with rfl|hc
   ·exact ha
   ·exact sC p l c hc
theorem aAy {c:UInt8}(h:bU c=true):48≤c.toNat∧c.toNat≤57:=of_decide_eq_true h
theorem number_spec (b:Nat)(t:aBs)(i:Nat)(h:Heap)(hi:i<t.length)(hl:t.length≤1000000)
  (h0:aY h ⟨b,0,none⟩=some (.string ⟨⟨t⟩⟩)) (h1:aY h ⟨b,1,none⟩=some (.int .i64 i)) :
  Spec Tryz.prog 50 [.pointer (some ⟨b,0,none⟩)] h (RdE h i (pM (t.drop i))):=by
 have hsl:=nG bU (t.drop i);have hsi:=nG cK (t.drop i);have hdl:(t.drop i).length=t.length - i:=by simp
 have hst:=sC bU (t.drop i);unfold pM;refine aC1 Tryz.func50 rfl Tryz.ntmps50 (by kernel_rfl) ?_;have o0:=Own.refl h;(refine aCT o0 bB ?_;intro b10 m10 o10);refine aCZ (tU bU 97 [] b t i _ (by omega) hl (Own.old ‹_› h0) (Own.old ‹_› h1) (fun d h' e=>aAx d h')) ?_;rintro _ h2 ⟨rfl,oa⟩;have o2:=oa.thenE ‹_›;by_cases hz:bM bU (t.drop i)=0
 ·rw[if_pos hz]
  refine aCV (fun c20=>?_) (fun hc=>absurd (by omega) hc);refine rR (aCr eP ?_);(refine aCl o2 0 rfl bB rfl (by decide) (aI ⟨rfl,rfl⟩ ?_);intro m22 o22)
  first|refine aCy rfl o22 0 rfl bB rfl rfl ?_|refine aCx rfl o22 0 rfl bB rfl rfl ?_|refine RetVC.cellTT rfl o22 0 rfl bB rfl rfl ?_
  exact⟨⟨0,[],0,0,rfl⟩,Own.sel ‹_› [] rfl⟩
 ·rw[if_neg hz]
  by_cases hbig:10<bM bU (t.drop i)
  ·rw[if_pos (.inl hbig)]
   refine aCV (fun hc=>absurd hc (by omega)) (fun c30=>?_);refine aCV (fun c31=>?_) (fun hc=>absurd (by omega) hc);refine aCW ?_;exact aC0 (gU 6 b t i _ (o2.old h1)) (fun _ _ h=>h.elim) (fun c h' ⟨hc,ho⟩=>⟨hc,(ho.thenE o2).sel [] rfl⟩)
  ·refine aCV (fun hc=>absurd hc (by omega)) (fun c40=>?_)
   refine aCV (fun hc=>absurd hc (by omega)) (fun c41=>?_);refine aCZ (tU cK 96 [] b t i _ (by omega) hl (o2.old h0) (o2.old h1) (fun d h' e=>aAl d h')) ?_;rintro _ h3 ⟨rfl,ob⟩;have o3:=ob.thenE ‹_›;by_cases hin:bM bU (t.drop i)<bM cK (t.drop i)
   ·rw[if_pos (.inr hin)]
    refine aCV (fun c50=>?_) (fun hc=>absurd (by omega) hc);exact aC0 (gU 6 b t i _ (o3.old h1)) (fun _ _ h=>h.elim) (fun c h' ⟨hc,ho⟩=>⟨hc,(ho.thenE o3).sel [] rfl⟩)
   ·rw[if_neg (by omega)]
    have e:List.drop (i:Int).toNat (List.take ((i:Int)+(bM bU (t.drop i):Nat)).toNat t)=(t.drop i).take (bM bU (t.drop i)):=by
     rw[show((i:Int)+(bM bU (t.drop i):Nat)).toNat=i+bM bU (t.drop i) by omega,Int.toNat_natCast,List.drop_take]
     congr 1
     omega
    refine aCV (fun hc=>absurd hc (by omega)) (fun c60=>?_);refine aCY [0,1,2,4,5,6,8,9,10,12,13,14,15] [3,7,11] [] [0,1,2,3,4,5,6,7,8,9,10,11,12,13,14,15] mixed (by kernel_rfl) rfl (fun _ _ _ _ h=>h) ?_;refine nC rfl ?_;refine fA dC rfl rfl rfl ?_;refine load1 aL rfl (o3.old h0) ?_;refine nC rfl ?_;refine fA dC rfl rfl rfl ?_;refine load1 aS rfl (o3.old h1) ?_;refine nC rfl ?_;refine fA dC rfl rfl rfl ?_;refine load1 aS rfl (o3.old h1) ?_;refine aC2 (by omega) (by omega) ?_;refine aCL cT rfl ⟨_,rfl⟩ ⟨_,rfl⟩ (by omega) (by omega) (by omega) ?_
    rw[e]
    refine aCZ (atoi_spec ((t.drop i).take (bM bU (t.drop i))) _ (by simp;omega) (fun hh=>by have:=congrArg List.length hh;simp at this;omega) (fun c hc=>aAy (hst c hc))) ?_;rintro _ h4 ⟨rfl,oc⟩;have o4:=oc.thenE ‹_›;refine rR (aCr eP ?_);refine aI rfl ?_;refine aI rfl ?_;refine aI rfl ?_;(refine aCl o4 0 rfl bB rfl (by decide) (aI ⟨rfl,rfl⟩ ?_);intro m81 o81)
    first|refine aCy rfl o81 0 rfl bB rfl rfl ?_|refine aCx rfl o81 0 rfl bB rfl rfl ?_|refine RetVC.cellTT rfl o81 0 rfl bB rfl rfl ?_
    refine⟨?_,Own.sel ‹_› [] rfl⟩
    rfl
def xX:aBs:=[59,58,44,46,40,41,123,125,61,60,43,45,47,64]
def sN (l:aBs):Nat:=if Lib.hasPrefix l [33,61]=true∨Lib.hasPrefix l [60,61]=true then 2 else match l with
 | []=>0
 | c::_=>if c∈xX then 1 else 0
def tO (l:aBs):Rd:=if sN l=0 then .none else .tok 4 (l.take (sN l)) 0 (sN l)
theorem iW:∀(l:aBs)(c:UInt8),-1≤Lib.indexByte l c∧(0≤Lib.indexByte l c↔c∈l)
 | [],c=>by simp[Lib.indexByte]
 | b::l,c=>by
  obtain⟨h1,h2⟩:=iW l c
  rw[Lib.indexByte]
  by_cases hb:b=c
  ·subst hb
   simp
  ·have hbe:(b == c)=false:=beq_eq_false_iff_ne.2 hb
   rw[hbe]
   simp only[aDh,if_false]
   by_cases hm:Lib.indexByte l c=-1
   ·have hbm:(Lib.indexByte l c == -1)=true:=by rw[hm];rfl
    rw[hbm]
    have:c∉l:=fun hc=>by have:=h2.2 hc;omega
    simp[this,Ne.symm hb]
   ·have hbm:(Lib.indexByte l c == -1)=false:=beq_eq_false_iff_ne.2 hm
    rw[hbm]
    simp only[aDh,if_false]
    refine⟨by omega,?_⟩
    have:0≤Lib.indexByte l c:=by omega
    simp[h2.1 this,Ne.symm hb]
    omega
theorem symN_at {t:aBs}{i:Nat}{c:UInt8}(hc:t[i]?=some c):sN (t.drop i)=if Lib.hasPrefix (t.drop i) [33,61]=true∨Lib.hasPrefix (t.drop i) [60,61]=true then 2 else if c∈xX then 1 else 0:=by
 obtain⟨hi,rfl⟩:=aC9.1 hc
 rw[aDi hi]
 rfl
theorem lH {l p:aBs}(h:Lib.hasPrefix l p=true):p.length≤l.length:=by
 unfold Lib.hasPrefix at h
 exact(List.isPrefixOf_iff_prefix.1 h).length_le
theorem symbol_spec (b:Nat)(t:aBs)(i:Nat)(h:Heap)(hi:i<t.length)(hl:t.length≤1000000)
  (h0:aY h ⟨b,0,none⟩=some (.string ⟨⟨t⟩⟩)) (h1:aY h ⟨b,1,none⟩=some (.int .i64 i)) :
  Spec Tryz.prog 52 [.pointer (some ⟨b,0,none⟩)] h (RdE h i (tO (t.drop i))):=by
 obtain⟨c,hc⟩:=getx hi
 have hs:=symN_at hc;have hdl:(t.drop i).length=t.length - i:=by simp
 have hc0:(t.drop i)[0]?=some c:=by rw[aDG];exact hc
 unfold tO;refine aC1 Tryz.func52 rfl Tryz.ntmps52 (by kernel_rfl) ?_;have o0:=Own.refl h;have er:List.drop (i:Int).toNat (List.take (Int.toNat (t.length:Nat)) t)=t.drop i:=by simp
 (refine aCT o0 bB ?_;intro b10 m10 o10);refine aCY [0,1,2,4,5,6,8,9] [3,7] [] [0,1,2,3,4,5,6,7,8,9] mixed (by kernel_rfl) rfl (fun _ _ _ _ h=>h) ?_;refine nC rfl ?_;refine fA dC rfl rfl rfl ?_;refine load1 aL rfl (o10.old h0) ?_;refine nC rfl ?_;refine fA dC rfl rfl rfl ?_;refine load1 aS rfl (o10.old h1) ?_;refine aCL cT rfl ⟨_,rfl⟩ rfl (by omega) (by omega) (by omega) ?_
 rw[er]
 refine aCZ (rL (t.drop i) [33,61] _) ?_;rintro _ h2 ⟨rfl,oa⟩;have o2:=oa.thenE ‹_›;cases hp1:Lib.hasPrefix (t.drop i) [33,61] with
 | true =>
  have:2≤(t.drop i).length:=lH hp1
  have hn:sN (t.drop i)=2:=by rw[hs,if_pos (.inl hp1)]
  rw[hn]
  refine aCW ?_;refine aCW ?_;refine rR (aCL cT rfl rfl ⟨_,rfl⟩ (by omega) (by omega) (by omega) ?_);refine rR (aCr eP ?_);refine aI rfl ?_;refine aI rfl ?_;(refine aCl o2 0 rfl bB rfl (by decide) (aI ⟨rfl,rfl⟩ ?_);intro m22 o22)
  first|refine aCy rfl o22 0 rfl bB rfl rfl ?_|refine aCx rfl o22 0 rfl bB rfl rfl ?_|refine RetVC.cellTT rfl o22 0 rfl bB rfl rfl ?_
  exact⟨rfl,Own.sel ‹_› [] rfl⟩
 | false =>
  refine aCX ?_;refine aCZ (rL (t.drop i) [60,61] _) ?_;rintro _ h3 ⟨rfl,ob⟩;have o3:=ob.thenE ‹_›;cases hp2:Lib.hasPrefix (t.drop i) [60,61] with
  | true =>
   have:2≤(t.drop i).length:=lH hp2
   have hn:sN (t.drop i)=2:=by rw[hs,if_pos (.inr hp2)]
   rw[hn]
   refine aCW ?_;refine rR (aCL cT rfl rfl ⟨_,rfl⟩ (by omega) (by omega) (by omega) ?_);refine rR (aCr eP ?_);refine aI rfl ?_;refine aI rfl ?_;(refine aCl o3 0 rfl bB rfl (by decide) (aI ⟨rfl,rfl⟩ ?_);intro m62 o62)
   first|refine aCy rfl o62 0 rfl bB rfl rfl ?_|refine aCx rfl o62 0 rfl bB rfl rfl ?_|refine RetVC.cellTT rfl o62 0 rfl bB rfl rfl ?_
   exact⟨rfl,Own.sel ‹_› [] rfl⟩
  | false =>
   rw[if_neg (by rw[hp1,hp2];simp)]at hs
   have hib:=iW xX c;refine aCX ?_;refine rR (aCA rfl rfl cT (by omega) ‹_› ?_);refine aCZ (rJ xX c _) ?_;rintro _ h4 ⟨rfl,od⟩;have o4:=od.thenE ‹_›;generalize Lib.indexByte xX c=q at *;by_cases hm:c∈xX
   ·have hn:sN (t.drop i)=1:=by rw[hs,if_pos hm]
    rw[hn]
    have hq:=hib.2.2 hm;refine aCV (fun c90=>?_) (fun hc=>absurd (by omega) hc);refine rR (aCL cT rfl rfl ⟨_,rfl⟩ (by omega) (by omega) (by omega) ?_);refine rR (aCr eP ?_);refine aI rfl ?_;refine aI rfl ?_;(refine aCl o4 0 rfl bB rfl (by decide) (aI ⟨rfl,rfl⟩ ?_);intro m93 o93)
    first|refine aCy rfl o93 0 rfl bB rfl rfl ?_|refine aCx rfl o93 0 rfl bB rfl rfl ?_|refine RetVC.cellTT rfl o93 0 rfl bB rfl rfl ?_
    exact⟨rfl,Own.sel ‹_› [] rfl⟩
   ·have hn:sN (t.drop i)=0:=by rw[hs,if_neg hm]
    rw[hn]
    have hq:¬ 0≤q:=fun e=>hm (hib.2.1 e);refine aCV (fun hc=>absurd hc (by omega)) (fun c110=>?_);refine rR (aCL cT rfl rfl ⟨_,rfl⟩ (by omega) (by omega) (by omega) ?_);refine rR (aCr eP ?_);refine aI rfl ?_;refine aI rfl ?_;(refine aCl o4 0 rfl bB rfl (by decide) (aI ⟨rfl,rfl⟩ ?_);intro m113 o113)
    first|refine aCy rfl o113 0 rfl bB rfl rfl ?_|refine aCx rfl o113 0 rfl bB rfl rfl ?_|refine RetVC.cellTT rfl o113 0 rfl bB rfl rfl ?_
    exact⟨⟨4,[],0,0,rfl⟩,Own.sel ‹_› [] rfl⟩
def cI (comment:Bool):aBs→Nat
 | []=>0
 | c::r=>if c.toNat=10 then 1+cI false r else if c.toNat=35 then 1+cI true r else if comment=false∧c.toNat≠32∧c.toNat≠9 then 0 else 1+cI comment r
theorem pS:∀(k:Bool)(l:aBs),cI k l≤l.length
 | _,[]=>aDj _
 | k,c::r=>by
  have h1:=pS false r;have h2:=pS true r;have h3:=pS k r;unfold cI;split
  ·simp;omega
  ·split
   ·simp;omega
   ·split
    ·simp
    ·simp;omega
theorem uQ:∀(l:aBs),cI true l=bM jG l+cI false (l.drop (bM jG l))
 | []=>rfl
 | c::r=>by
  have ih:=uQ r;by_cases hc:c.toNat=10
  ·have hn:jG c=false:=by simp[jG,hc]
   have hs:bM jG (c::r)=0:=by unfold bM;rw[aDx,hn];rfl
   rw[hs]
   simp[cI,hc]
  ·have hn:jG c=true:=by simp[jG,hc]
   have hs:bM jG (c::r)=bM jG r+1:=by unfold bM;rw[aDx,hn];rfl
   rw[hs,List.drop_succ_cons]
   have:cI true (c::r)=1+cI true r:=by
    rw[cI,if_neg hc]
    by_cases h35:c.toNat=35
    ·rw[if_pos h35]
    ·rw[if_neg h35,if_neg (by simp)]
   rw[this,ih]
   omega
theorem gapF_hash {c:UInt8}{r:aBs}(hc:c.toNat=35):cI false (c::r)=bM jG (c::r)+cI false ((c::r).drop (bM jG (c::r))):=by
 rw[← uQ]
 simp[cI,hc]
theorem gapF_at {t:aBs}{j:Nat}{c:UInt8}(hc:t[j]?=some c) :
  cI false (t.drop j)=if c.toNat=10 then 1+cI false (t.drop (j+1)) else if c.toNat=35 then 1+cI true (t.drop (j+1)) else if c.toNat≠32∧c.toNat≠9 then 0 else 1+cI false (t.drop (j+1)):=by
 obtain⟨hj,rfl⟩:=aC9.1 hc
 rw[aDi hj,cI]
 simp only[true_and]
theorem aB8 {t:aBs}{j:Nat}{c:UInt8}(hc:t[j]?=some c)(h35:c.toNat=35) :
  cI false (t.drop j)=bM jG (t.drop j)+cI false (t.drop (j+bM jG (t.drop j)))∧0<bM jG (t.drop j):=by
 obtain⟨hj,rfl⟩:=aC9.1 hc
 constructor
 ·have:=gapF_hash (r:=t.drop (j+1)) h35
  rw[← aDi hj,aDE]at this
  exact this
 ·have hn:jG t[j]=true:=by simp[jG,h35]
  rw[aDi hj]
  unfold bM
  rw[aDx,hn]
  simp
def leftM (b:Nat)(t:aBs)(hh:Heap):Nat :=
 match aY hh ⟨b,1,none⟩ with
 | some (.int _ n)=>t.length - n.toNat
 | _=>0
theorem rI {B:Base}{b j:Nat}{t:aBs}{h:Heap}{ty:TypeId}(o:Own B [box b [.string ⟨⟨t⟩⟩,.int .i64 j] ty] h):leftM b t h=t.length - j:=by
 unfold leftM
 rw[o.cellB 0 rfl 1]
 simp
theorem aA9 (B:Base)(b:Nat)(t:aBs)(i:Nat)(h:Heap)(hi:i≤t.length)(hl:t.length≤1000000)
  (o0:Own B [box b [.string ⟨⟨t⟩⟩,.int .i64 i] 106] h) :
  bZ Tryz.prog 53 [.pointer (some ⟨b,0,none⟩)] h fun r h'=>r=.tuple #[]∧Own B [box b [.string ⟨⟨t⟩⟩,.int .i64 (i+cI false (t.drop i):Nat)] 106] h':=by
 refine aC1 Tryz.func53 rfl Tryz.ntmps53 (by kernel_rfl) ?_;refine aC5 [2,3,4,5,6,7,8,9,10,11,12,13,14,15,16,17,18,19,20,21,22,23,24,25,26,27,28,29,30,31,32,33,34,35,36,37,38,39,40,41,42] [] (fun vs hh=>vs=[]∧∃(j:Nat),j≤t.length∧j+cI false (t.drop j)=i+cI false (t.drop i)∧Own B [box b [.string ⟨⟨t⟩⟩,.int .i64 j] 106] hh) (fun _ hh=>leftM b t hh) ?_ ?_
 ·exact⟨rfl,i,hi,rfl,o0⟩
 ·rintro vs junk hh ⟨rfl,j,hj,hg,oh⟩
  have hm:=rI oh;by_cases hlt:j<t.length
  ·obtain⟨c,hc⟩:=getx hlt
   have ha:=gapF_at hc;have h1:=pS false (t.drop (j+1));have h35':=fun h=>aB8 hc h;by_cases h10:c.toNat=32∨c.toNat=9∨c.toNat=10
   ·have hstep:cI false (t.drop j)=1+cI false (t.drop (j+1)):=by
     rw[ha]
     by_cases h1:c.toNat=10
     ·rw[if_pos h1]
     ·rw[if_neg h1,if_neg (by omega),if_neg (by omega)]
    refine aCY [0,1,2,4,5,6,8,9] [3,7] [] [0,1,2,3,4,5,6,7,8,9] mixed (by kernel_rfl) rfl (fun _ _ _ _ h=>h) ?_;refine nC rfl ?_;refine fA dC rfl rfl rfl ?_;refine aCi oh 0 rfl aS rfl rfl ?_;refine nC rfl ?_;refine fA dC rfl rfl rfl ?_;refine aCi oh 0 rfl aL rfl rfl ?_;refine aCE rfl cT ?_;refine aCV (fun c27=>?_) (fun hc=>absurd (by omega) hc);refine aCY [0,1,2,4,5,6,8] [3,7] [] [0,1,2,3,4,5,6,7,8] mixed (by kernel_rfl) rfl (fun _ _ _ _ h=>h) ?_;refine nC rfl ?_;refine fA dC rfl rfl rfl ?_;refine aCi oh 0 rfl aL rfl rfl ?_;refine nC rfl ?_;refine fA dC rfl rfl rfl ?_;refine aCi oh 0 rfl aS rfl rfl ?_;refine aCA rfl rfl cT (by omega) ‹_› ?_;refine aCV (fun c35=>?_) (fun c35=>?_);refine aCV (fun c36=>?_) (fun hc=>absurd (by omega) hc);refine rR (nC rfl ?_);refine rR (fA dC rfl rfl rfl ?_);refine rR (aCi oh 0 rfl aS rfl rfl ?_);refine aC2 (by omega) (by omega) ?_;refine rR (nC rfl ?_);refine rR (fA dC rfl rfl rfl ?_);(refine aCR oh 0 rfl aS rfl (by simp) (aI ⟨rfl,rfl⟩ ?_);intro m42 o42)
    refine⟨rfl,?_⟩
    rotate_left
    refine aCV (fun c43=>?_) (fun c43=>?_);refine aCV (fun c44=>?_) (fun hc=>absurd (by omega) hc);refine rR (nC rfl ?_);refine rR (fA dC rfl rfl rfl ?_);refine rR (aCi oh 0 rfl aS rfl rfl ?_);refine aC2 (by omega) (by omega) ?_;refine rR (nC rfl ?_);refine rR (fA dC rfl rfl rfl ?_);(refine aCR oh 0 rfl aS rfl (by simp) (aI ⟨rfl,rfl⟩ ?_);intro m50 o50)
    refine⟨rfl,?_⟩
    rotate_left
    refine aCV (fun c51=>?_) (fun hc=>absurd (by omega) hc);refine rR (nC rfl ?_);refine rR (fA dC rfl rfl rfl ?_);refine rR (aCi oh 0 rfl aS rfl rfl ?_);refine aC2 (by omega) (by omega) ?_;refine rR (nC rfl ?_);refine rR (fA dC rfl rfl rfl ?_);(refine aCR oh 0 rfl aS rfl (by simp) (aI ⟨rfl,rfl⟩ ?_);intro m57 o57)
    refine⟨rfl,?_⟩
    all_goals
     refine⟨⟨rfl,j+1,by omega,by omega,by assumption⟩,?_⟩
     rw[hm,rI (j:=j+1) (ty:=106) ‹_›]
     omega
   ·by_cases h35:c.toNat=35
    ·obtain⟨hs1,hs2⟩:=h35' h35
     have hsl:=nG jG (t.drop j);have hdl:(t.drop j).length=t.length - j:=by simp
     refine aCY [0,1,2,4,5,6,8,9] [3,7] [] [0,1,2,3,4,5,6,7,8,9] mixed (by kernel_rfl) rfl (fun _ _ _ _ h=>h) ?_;refine nC rfl ?_;refine fA dC rfl rfl rfl ?_;refine aCi oh 0 rfl aS rfl rfl ?_;refine nC rfl ?_;refine fA dC rfl rfl rfl ?_;refine aCi oh 0 rfl aL rfl rfl ?_;refine aCE rfl cT ?_;refine aCV (fun c47=>?_) (fun hc=>absurd (by omega) hc);refine aCY [0,1,2,4,5,6,8] [3,7] [] [0,1,2,3,4,5,6,7,8] mixed (by kernel_rfl) rfl (fun _ _ _ _ h=>h) ?_;refine nC rfl ?_;refine fA dC rfl rfl rfl ?_;refine aCi oh 0 rfl aL rfl rfl ?_;refine nC rfl ?_;refine fA dC rfl rfl rfl ?_;refine aCi oh 0 rfl aS rfl rfl ?_;refine aCA rfl rfl cT (by omega) ‹_› ?_;refine aCV (fun hc=>absurd hc (by omega)) (fun c55=>?_);refine aCV (fun hc=>absurd hc (by omega)) (fun c56=>?_);refine aCV (fun hc=>absurd hc (by omega)) (fun c57=>?_);refine aCV (fun c58=>?_) (fun hc=>absurd (by omega) hc);refine aCY [0,1,2,4,6,7,8] [3] [9] [0,1,2,3,4,5,6,7,8,9] mixed (by kernel_rfl) rfl (fun _ _ _ _ h=>h) ?_;refine nC rfl ?_;refine fA dC rfl rfl rfl ?_;refine aCi oh 0 rfl aS rfl rfl ?_;refine aCZ (tU jG 101 [] b t j _ hj hl (oh.cellB 0 rfl 0) (oh.cellB 0 rfl 1) (fun d h' e=>skip1_spec d h')) ?_;rintro _ h2 ⟨rfl,ob⟩;have o2:=ob.thenE ‹_›;generalize bM jG (t.drop j)=n at *;refine aI ob.ext ?_;refine aC2 (by omega) (by omega) ?_;refine nC rfl ?_;refine fA dC rfl rfl rfl ?_;(refine aCR o2 0 rfl aS rfl (by simp) (aI ⟨rfl,rfl⟩ ?_);intro m73 o73)
     refine⟨rfl,?_⟩
     all_goals
      refine⟨⟨rfl,j+n,by omega,by omega,by assumption⟩,?_⟩
      rw[hm,rI (j:=j+n) (ty:=106) ‹_›]
      omega
    ·have hz:cI false (t.drop j)=0:=by rw[ha,if_neg (by omega),if_neg h35,if_pos (by omega)]
     rw[← hg,hz,aDZ]
     refine aCY [0,1,2,4,5,6,8,9] [3,7] [] [0,1,2,3,4,5,6,7,8,9] mixed (by kernel_rfl) rfl (fun _ _ _ _ h=>h) ?_;refine nC rfl ?_;refine fA dC rfl rfl rfl ?_;refine aCi oh 0 rfl aS rfl rfl ?_;refine nC rfl ?_;refine fA dC rfl rfl rfl ?_;refine aCi oh 0 rfl aL rfl rfl ?_;refine aCE rfl cT ?_;refine aCV (fun c87=>?_) (fun hc=>absurd (by omega) hc);refine aCY [0,1,2,4,5,6,8] [3,7] [] [0,1,2,3,4,5,6,7,8] mixed (by kernel_rfl) rfl (fun _ _ _ _ h=>h) ?_;refine nC rfl ?_;refine fA dC rfl rfl rfl ?_;refine aCi oh 0 rfl aL rfl rfl ?_;refine nC rfl ?_;refine fA dC rfl rfl rfl ?_;refine aCi oh 0 rfl aS rfl rfl ?_;refine aCA rfl rfl cT (by omega) ‹_› ?_;refine aCV (fun hc=>absurd hc (by omega)) (fun c95=>?_);refine aCV (fun hc=>absurd hc (by omega)) (fun c96=>?_);refine aCV (fun hc=>absurd hc (by omega)) (fun c97=>?_);refine aCV (fun hc=>absurd hc (by omega)) (fun c98=>?_);refine aC4 rfl ?_
     exact⟨rfl,oh⟩
  ·have hz:cI false (t.drop j)=0:=by rw[aDu (by omega)];rfl
   rw[← hg,hz,aDZ]
   refine aCY [0,1,2,4,5,6,8,9] [3,7] [] [0,1,2,3,4,5,6,7,8,9] mixed (by kernel_rfl) rfl (fun _ _ _ _ h=>h) ?_;refine nC rfl ?_;refine fA dC rfl rfl rfl ?_;refine aCi oh 0 rfl aS rfl rfl ?_;refine nC rfl ?_;refine fA dC rfl rfl rfl ?_;refine aCi oh 0 rfl aL rfl rfl ?_;refine aCE rfl cT ?_;refine aCV (fun hc=>absurd hc (by omega)) (fun c97=>?_);refine aC4 rfl ?_
   exact⟨rfl,oh⟩
def aAu (d:UInt8):Option UInt8:=if d.toNat=34 then some 34 else if d.toNat=92 then some 92 else if d.toNat=110 then some 10 else none
def dZ:aBs→aBs→Nat→Rd
 | [],_,_=>.err 7
 | [c],acc,k=>if c.toNat=34 then(if 200<acc.length then .err 3 else .tok 3 acc 0 (k+2)) else if c.toNat=10 then .err 5 else .err 7
 | c::d::r,acc,k =>
  if c.toNat=34 then(if 200<acc.length then .err 3 else .tok 3 acc 0 (k+2))
  else if c.toNat=10 then .err 5
  else if c.toNat=92 then(match aAu d with
   | none=>.err 5
   | some x=>dZ r (acc++[x]) (k+2))
  else dZ (d::r) (acc++[c]) (k+1)
def sE (l:aBs):Rd :=
 match l with
 | []=>.none
 | c::r=>if c.toNat=34 then dZ r [] 0 else .none
theorem quotedR_at {t:aBs}{i:Nat}{c:UInt8}(hc:t[i]?=some c):sE (t.drop i)=if c.toNat=34 then dZ (t.drop (i+1)) [] 0 else .none:=by
 obtain⟨hi,rfl⟩:=aC9.1 hc
 rw[aDi hi]
 rfl
theorem quoF_quote {l acc:aBs}{j:Nat}{x:UInt8}(hx:l[j]?=some x)(h:x.toNat=34):dZ (l.drop j) acc j=if 200<acc.length then .err 3 else .tok 3 acc 0 (j+2):=by
 obtain⟨hj,rfl⟩:=aC9.1 hx
 rw[aDi hj]
 generalize l[j]=x at *
 cases l.drop (j+1) with
 | nil=>rw[dZ,if_pos h]
 | cons d r=>rw[dZ,if_pos h]
theorem quoF_nl {l acc:aBs}{j:Nat}{x:UInt8}(hx:l[j]?=some x)(h:x.toNat=10):dZ (l.drop j) acc j=.err 5:=by
 obtain⟨hj,rfl⟩:=aC9.1 hx
 rw[aDi hj]
 generalize l[j]=x at *
 cases l.drop (j+1) with
 | nil=>rw[dZ,if_neg (by omega),if_pos h]
 | cons d r=>rw[dZ,if_neg (by omega),if_pos h]
theorem quoF_other {l acc:aBs}{j:Nat}{x:UInt8}(hx:l[j]?=some x)(h1:x.toNat≠34)(h2:x.toNat≠10)(h3:x.toNat≠92):dZ (l.drop j) acc j=dZ (l.drop (j+1)) (acc++[x]) (j+1):=by
 obtain⟨hj,rfl⟩:=aC9.1 hx
 rw[aDi hj]
 generalize l[j]=x at *
 cases l.drop (j+1) with
 | nil=>simp only[dZ,if_neg h1,if_neg h2]
 | cons d r=>rw[dZ,if_neg h1,if_neg h2,if_neg h3]
theorem quoF_esc {l acc:aBs}{j:Nat}{x d:UInt8}(hx:l[j]?=some x)(h:x.toNat=92)(hd:l[j+1]?=some d):dZ (l.drop j) acc j=match aAu d with
  | none=>.err 5
  | some y=>dZ (l.drop (j+2)) (acc++[y]) (j+2):=by
 obtain⟨hj,rfl⟩:=aC9.1 hx
 obtain⟨hj1,rfl⟩:=aC9.1 hd
 rw[aDi hj,aDi hj1,dZ,if_neg (by omega),if_neg (by omega),if_pos h]
theorem quoF_end {l acc:aBs}{j:Nat}{x:UInt8}(hx:l[j]?=some x)(h:x.toNat=92)(hd:l.length=j+1):dZ (l.drop j) acc j=.err 7:=by
 obtain⟨hj,rfl⟩:=aC9.1 hx
 rw[aDi hj,aDu (by omega),dZ,if_neg (by omega),if_neg (by omega)]
theorem quoted_spec (b:Nat)(t:aBs)(i:Nat)(h:Heap)(hi:i<t.length)(hl:t.length≤1000000)
  (h0:aY h ⟨b,0,none⟩=some (.string ⟨⟨t⟩⟩)) (h1:aY h ⟨b,1,none⟩=some (.int .i64 i)) :
  Spec Tryz.prog 51 [.pointer (some ⟨b,0,none⟩)] h (RdE h i (sE (t.drop i))):=by
 obtain⟨c,hc⟩:=getx hi
 rw[quotedR_at hc]
 refine aC1 Tryz.func51 rfl Tryz.ntmps51 (by kernel_rfl) ?_;have o0:=Own.refl h;by_cases hq:c.toNat=34
 ·rw[if_pos hq]
  (refine aCT o0 bB ?_;intro b10 m10 o10);refine aCY [0,1,2,4,5,6,8,9] [3,7] [] [0,1,2,3,4,5,6,7,8,9] mixed (by kernel_rfl) rfl (fun _ _ _ _ h=>h) ?_;refine nC rfl ?_;refine fA dC rfl rfl rfl ?_;refine load1 aL rfl (o10.old h0) ?_;refine nC rfl ?_;refine fA dC rfl rfl rfl ?_;refine load1 aS rfl (o10.old h1) ?_;refine aCA rfl rfl cT (by omega) ‹_› ?_;refine aCn (fun hc=>absurd (by first|omega|assumption|decide|exact rfl) hc) (fun c18=>?_);refine aCY [0,1,2,4,5,6,8,9,10] [3,7] [] [0,1,2,3,4,5,6,7,8,9,10] mixed (by kernel_rfl) rfl (fun _ _ _ _ h=>h) ?_;refine nC rfl ?_;refine fA dC rfl rfl rfl ?_;refine load1 aL rfl (o10.old h0) ?_;refine nC rfl ?_;refine fA dC rfl rfl rfl ?_;refine load1 aS rfl (o10.old h1) ?_;refine aC2 (by omega) (by omega) ?_;refine aCL cT rfl ⟨_,rfl⟩ rfl (by omega) (by omega) (by omega) ?_;have er:List.drop ((i:Int)+1).toNat (List.take (Int.toNat (t.length:Nat)) t)=t.drop (i+1):=by
   rw[show((i:Int)+1).toNat=i+1 by omega]
   simp
  rw[er]
  have hrl:(t.drop (i+1)).length≤1000000:=by simp;omega
  generalize t.drop (i+1)=rest at *
  generalize hR:dZ rest [] 0=R
  have on:=o10.nilRow 5 1;refine aC5 [3,4,6,7,8,30,31,32,33,34,35,36,37,38,39,40,41,42,43,44,45,46,47,48,49,50,51,52,53,54,55,56,57,58,59,60,61,62,63,64,65,66,67,68,69,70,71,72,73,74,75,76,77,78,79,80,81,82,83,84,85,86] [4,6] (fun vs hh=>∃(j:Nat) (acc:aBs) (v:Value),j≤rest.length∧acc.length≤j∧vs=[v,.int .i64 j]∧dZ (rest.drop j) acc j=R∧Own h [box b10 [.int .i64 0,.string ⟨⟨[]⟩⟩,.int .i64 0,.int .i64 0] 112,row v 5 1 acc.length (bytes acc)] hh) (fun vs _=>match vs with|[_,.int _ j]=>rest.length - j.toNat|_=>0) ?_ ?_
  ·exact⟨0,[],_,by omega,by simp,rfl,hR,on⟩
  ·rintro vs junk hh ⟨j,acc,v,hj,hal,rfl,hQ,oh⟩
   by_cases hlt:j<rest.length
   ·obtain⟨x,hx⟩:=getx hlt
    by_cases hx34:x.toNat=34
    ·rw[quoF_quote hx hx34]at hQ
     by_cases hbig:200<acc.length
     ·rw[if_pos hbig]at hQ
      subst hQ;refine rR (aCE rfl cT ?_);refine aCV (fun c41=>?_) (fun hc=>absurd (by omega) hc);refine rR (aCA rfl rfl cT (by omega) ‹_› ?_);refine aCV (fun c43=>?_) (fun hc=>absurd (by omega) hc);refine rR (aCJ (oh.rowArrN 1 rfl) fV ?_);refine aCV (fun c45=>?_) (fun hc=>absurd (by omega) hc);exact aC0 (gU 3 b t i _ (oh.old h1)) (fun _ _ h=>h.elim) (fun c h' ⟨hc,ho⟩=>⟨hc,(ho.thenE oh).sel [] rfl⟩)
     ·rw[if_neg hbig]at hQ
      subst hQ;refine rR (aCE rfl cT ?_);refine aCV (fun c61=>?_) (fun hc=>absurd (by omega) hc);refine rR (aCA rfl rfl cT (by omega) ‹_› ?_);refine aCV (fun c63=>?_) (fun hc=>absurd (by omega) hc);refine rR (aCJ (oh.rowArrN 1 rfl) fV ?_);refine aCV (fun hc=>absurd hc (by omega)) (fun c65=>?_);refine aCV (fun c66=>?_) (fun hc=>absurd (by omega) hc);refine rR (aCO (oh.rowArr 1 rfl) fV int5 cT ?_);refine rR (aCr eP ?_);refine aI rfl ?_;refine aI rfl ?_;refine aC2 (by omega) (by omega) ?_;(refine aCl oh 0 rfl bB rfl (by decide) (aI ⟨rfl,rfl⟩ ?_);intro m69 o69)
      first|refine aCy rfl o69 0 rfl bB rfl rfl ?_|refine aCx rfl o69 0 rfl bB rfl rfl ?_|refine RetVC.cellTT rfl o69 0 rfl bB rfl rfl ?_
      exact⟨by first|rfl|(simp;omega),Own.sel ‹_› [] rfl⟩
    ·by_cases hx10:x.toNat=10
     ·rw[quoF_nl hx hx10]at hQ
      subst hQ;refine rR (aCE rfl cT ?_);refine aCV (fun c81=>?_) (fun hc=>absurd (by omega) hc);refine rR (aCA rfl rfl cT (by omega) ‹_› ?_);refine aCV (fun hc=>absurd hc (by omega)) (fun c83=>?_);refine aCX ?_;refine aCV (fun hc=>absurd hc (by omega)) (fun c84=>?_);refine aCV (fun c85=>?_) (fun hc=>absurd (by omega) hc);exact aC0 (gU 5 b t i _ (oh.old h1)) (fun _ _ h=>h.elim) (fun c h' ⟨hc,ho⟩=>⟨hc,(ho.thenE oh).sel [] rfl⟩)
     ·by_cases hx92:x.toNat=92
      ·by_cases hlast:rest.length=j+1
       ·rw[quoF_end hx hx92 hlast]at hQ
        subst hQ;refine rR (aCE rfl cT ?_);refine aCV (fun c101=>?_) (fun hc=>absurd (by omega) hc);refine rR (aCA rfl rfl cT (by omega) ‹_› ?_);refine aCV (fun hc=>absurd hc (by omega)) (fun c103=>?_);refine aCX ?_;refine aCV (fun hc=>absurd hc (by omega)) (fun c104=>?_);refine aCV (fun hc=>absurd hc (by omega)) (fun c105=>?_);refine aCV (fun c106=>?_) (fun hc=>absurd (by omega) hc);refine aC2 (by omega) (by omega) ?_;refine rR (aCE rfl cT ?_);refine aCV (fun c108=>?_) (fun hc=>absurd (by omega) hc);exact aC0 (gU 7 b t i _ (oh.old h1)) (fun _ _ h=>h.elim) (fun c h' ⟨hc,ho⟩=>⟨hc,(ho.thenE oh).sel [] rfl⟩)
       ·obtain⟨d,hd⟩:=getx (show j+1<rest.length by omega)
        have hE:=quoF_esc (acc:=acc) hx hx92 hd;have hd':rest[((j:Int)+1).toNat]?=some d:=by rw[show((j:Int)+1).toNat=j+1 by omega];exact hd
        refine rR (aCE rfl cT ?_);refine aCV (fun c121=>?_) (fun hc=>absurd (by omega) hc);refine rR (aCA rfl rfl cT (by omega) ‹_› ?_);refine aCV (fun hc=>absurd hc (by omega)) (fun c123=>?_);refine aCX ?_;refine aCV (fun hc=>absurd hc (by omega)) (fun c124=>?_);refine aCV (fun hc=>absurd hc (by omega)) (fun c125=>?_);refine aCV (fun c126=>?_) (fun hc=>absurd (by omega) hc);refine aC2 (by omega) (by omega) ?_;refine rR (aCE rfl cT ?_);refine aCV (fun hc=>absurd hc (by omega)) (fun c128=>?_);refine rR (aCA rfl rfl cT (by omega) ‹_› ?_);refine aCZ (rJ [34,92,110] d _) ?_;rintro _ h5 ⟨rfl,oi⟩;have o5:=oh.ext' oi;by_cases hd34:d=34
        ·have hk:Lib.indexByte [34,92,110] d=0:=by rw[hd34];decide
         rw[hE,hd34]at hQ
         rw[hk]
         rw[show aAu 34=some 34 by decide]at hQ
         simp only at hQ;have hy:([34,92,10]:aBs)[((0:Int)).toNat]?=some 34:=rfl;refine aCX ?_;refine rR (aCA rfl rfl cT (by omega) ‹_› ?_);(refine aCS o5 fV ty5 rfl rfl (by decide) (aI rfl ?_);intro b131 m131 o131);(refine aCU o131 1 rfl fV ty5 (by decide) (o131.boxArr 2 rfl (by simp) (by simp)).toN (by simp[Value.oneCell']) (by simp only[maxLen];first|omega|(simp;omega)) (by first|omega|(simp;omega)) ?_;intro v132 m132 o132);refine aC2 (by omega) (by omega) ?_
         refine⟨rfl,?_⟩
         refine⟨⟨j+2,acc++[34],_,by omega,by simp;omega,rfl,hQ,?_⟩,by simp;omega⟩
         have q:=o132.sel [0,1] rfl
         simpa[pick] using q
        ·by_cases hd92:d=92
         ·have hk:Lib.indexByte [34,92,110] d=1:=by rw[hd92];decide
          rw[hE,hd92]at hQ
          rw[hk]
          rw[show aAu 92=some 92 by decide]at hQ
          simp only at hQ;have hy:([34,92,10]:aBs)[((1:Int)).toNat]?=some 92:=rfl;refine aCX ?_;refine rR (aCA rfl rfl cT (by omega) ‹_› ?_);(refine aCS o5 fV ty5 rfl rfl (by decide) (aI rfl ?_);intro b141 m141 o141);(refine aCU o141 1 rfl fV ty5 (by decide) (o141.boxArr 2 rfl (by simp) (by simp)).toN (by simp[Value.oneCell']) (by simp only[maxLen];first|omega|(simp;omega)) (by first|omega|(simp;omega)) ?_;intro v142 m142 o142);refine aC2 (by omega) (by omega) ?_
          refine⟨rfl,?_⟩
          refine⟨⟨j+2,acc++[92],_,by omega,by simp;omega,rfl,hQ,?_⟩,by simp;omega⟩
          have q:=o142.sel [0,1] rfl
          simpa[pick] using q
         ·by_cases hd110:d=110
          ·have hk:Lib.indexByte [34,92,110] d=2:=by rw[hd110];decide
           rw[hE,hd110]at hQ
           rw[hk]
           rw[show aAu 110=some 10 by decide]at hQ
           simp only at hQ;have hy:([34,92,10]:aBs)[((2:Int)).toNat]?=some 10:=rfl;refine aCX ?_;refine rR (aCA rfl rfl cT (by omega) ‹_› ?_);(refine aCS o5 fV ty5 rfl rfl (by decide) (aI rfl ?_);intro b151 m151 o151);(refine aCU o151 1 rfl fV ty5 (by decide) (o151.boxArr 2 rfl (by simp) (by simp)).toN (by simp[Value.oneCell']) (by simp only[maxLen];first|omega|(simp;omega)) (by first|omega|(simp;omega)) ?_;intro v152 m152 o152);refine aC2 (by omega) (by omega) ?_
           refine⟨rfl,?_⟩
           refine⟨⟨j+2,acc++[10],_,by omega,by simp;omega,rfl,hQ,?_⟩,by simp;omega⟩
           have q:=o152.sel [0,1] rfl
           simpa[pick] using q
          ·have hk:¬ 0≤Lib.indexByte [34,92,110] d:=fun e=>by
            have:=(iW [34,92,110] d).2.1 e
            simp[hd34,hd92,hd110]at this
           have hk2:=(iW [34,92,110] d).1;have hn:aAu d=none:=by
            have e1:d.toNat≠34:=fun e=>hd34 (UInt8.toNat_inj.1 e);have e2:d.toNat≠92:=fun e=>hd92 (UInt8.toNat_inj.1 e);have e3:d.toNat≠110:=fun e=>hd110 (UInt8.toNat_inj.1 e)
            simp[aAu,e1,e2,e3]
           rw[hE,hn]at hQ
           simp only at hQ;subst hQ;generalize Lib.indexByte [34,92,110] d=q at *;refine aCV (fun c155=>?_) (fun hc=>absurd (by omega) hc);exact aC0 (gU 5 b t i _ (o5.old h1)) (fun _ _ h=>h.elim) (fun c h' ⟨hc,ho⟩=>⟨hc,(ho.thenE o5).sel [] rfl⟩)
      ·rw[quoF_other hx hx34 hx10 hx92]at hQ
       refine rR (aCE rfl cT ?_);refine aCV (fun c161=>?_) (fun hc=>absurd (by omega) hc);refine rR (aCA rfl rfl cT (by omega) ‹_› ?_);refine aCV (fun hc=>absurd hc (by omega)) (fun c163=>?_);refine aCX ?_;refine aCV (fun hc=>absurd hc (by omega)) (fun c164=>?_);refine aCV (fun hc=>absurd hc (by omega)) (fun c165=>?_);refine aCV (fun hc=>absurd hc (by omega)) (fun c166=>?_);(refine aCS oh fV ty5 rfl rfl (by decide) (aI rfl ?_);intro b167 m167 o167);(refine aCU o167 1 rfl fV ty5 (by decide) (o167.boxArr 2 rfl (by simp) (by simp)).toN (by simp[Value.oneCell']) (by simp only[maxLen];first|omega|(simp;omega)) (by first|omega|(simp;omega)) ?_;intro v168 m168 o168);refine aC2 (by omega) (by omega) ?_
       refine⟨rfl,?_⟩
       refine⟨⟨j+1,acc++[x],_,by omega,by simp;omega,rfl,hQ,?_⟩,by simp;omega⟩
       have q:=o168.sel [0,1] rfl
       simpa[pick] using q
   ·have:rest.drop j=[]:=aDu (by omega)
    rw[this]at hQ
    subst hQ;refine rR (aCE rfl cT ?_);refine aCV (fun hc=>absurd hc (by omega)) (fun c191=>?_);exact aC0 (gU 7 b t i _ (oh.old h1)) (fun _ _ h=>h.elim) (fun c h' ⟨hc,ho⟩=>⟨hc,(ho.thenE oh).sel [] rfl⟩)
 ·rw[if_neg hq]
  (refine aCT o0 bB ?_;intro b200 m200 o200);refine aCY [0,1,2,4,5,6,8,9] [3,7] [] [0,1,2,3,4,5,6,7,8,9] mixed (by kernel_rfl) rfl (fun _ _ _ _ h=>h) ?_;refine nC rfl ?_;refine fA dC rfl rfl rfl ?_;refine load1 aL rfl (o200.old h0) ?_;refine nC rfl ?_;refine fA dC rfl rfl rfl ?_;refine load1 aS rfl (o200.old h1) ?_;refine aCA rfl rfl cT (by omega) ‹_› ?_;refine aCn (fun c208=>?_) (fun hc=>absurd hc (by first|omega|assumption|decide|exact rfl));refine rR (aCr eP ?_);(refine aCl o200 0 rfl bB rfl (by decide) (aI ⟨rfl,rfl⟩ ?_);intro m210 o210)
  first|refine aCy rfl o210 0 rfl bB rfl rfl ?_|refine aCx rfl o210 0 rfl bB rfl rfl ?_|refine RetVC.cellTT rfl o210 0 rfl bB rfl rfl ?_
  exact⟨⟨0,[],0,0,rfl⟩,Own.sel ‹_› [] rfl⟩
def zH (p q r v:Value):aVs:=[p,q,r,v,undef,undef,v,undef,undef,undef,undef,undef,undef,undef,undef,undef,undef,undef,undef,undef,undef]
theorem uO (p q r:Value):Recovers Tryz.prog (match Tryz.f48.body with|some (.seq (.region _ ops _) _)=>ops|_=>#[]) ([p,q,r]++List.replicate (21 - [p,q,r].length) undef) (zH p q r):=by
 intro cs w Q hQ;unfold wpOpsS
 simp[Tryz.f48,List.range,List.range.loop,wpOpsS,Region.wanted,yielded,execOp,resolve,invoke,builtin,act,Act.put]
 cases hrec:recoverD cs with
 | none=>exact hQ _ _ (.inr ⟨hrec,rfl,rfl⟩)
 | some x=>exact hQ _ _ (.inl hrec)
theorem leave_ok (s:aVs)(h:Heap)(R:Ending→Heap→Prop)(p q r:Value)
  (hr:RetVC Tryz.prog Tryz.f25 s h fun v h=>R (.returned v) h) :
  LeaveVC Tryz.prog Tryz.f25 ⟨.fn (.func 48) ⟨[p,q,r]⟩,#[]⟩ .returning s h R:=by
 refine LeaveVC.recovers (f:=zH p q r) .nilIface Tryz.func48 rfl (n:=21) (by kernel_rfl) (by kernel_rfl) rfl (.inl ⟨rfl,rfl⟩) (uO p q r) ?_;refine rR (neI aBu (by first|assumption|rfl) ?_);refine aCX ?_;exact hr
theorem vY (s:aVs)(h:Heap)(R:Ending→Heap→Prop)(B:Base)(b2 b3 b4:Nat)(x y z:Value)(e:Int)(i:Nat)
  (o0:Own B [box b2 [x] 64,box b3 [y] 27,box b4 [z] 3] h)
  (h2:sget s 2=.pointer (some ⟨b2,0,none⟩)) (h3:sget s 3=.pointer (some ⟨b3,0,none⟩)) (h4:sget s 4=.pointer (some ⟨b4,0,none⟩))
  (hR:∀ h',Own B [] h'→R (.returned (.tuple ⟨[.slice none 0 0,.int .i64 e,.int .i64 i]⟩)) h') :
  LeaveVC Tryz.prog Tryz.f25 ⟨.fn (.func 48) ⟨[.pointer (some ⟨b2,0,none⟩),.pointer (some ⟨b3,0,none⟩),.pointer (some ⟨b4,0,none⟩)]⟩,#[]⟩ (.panicking (faultC e i)) s h R:=by
 refine LeaveVC.recovers (f:=zH (.pointer (some ⟨b2,0,none⟩)) (.pointer (some ⟨b3,0,none⟩)) (.pointer (some ⟨b4,0,none⟩))) (.iface 102 (.agg ⟨[.int .i64 e,.int .i64 i]⟩)) Tryz.func48 rfl (n:=21) (by kernel_rfl) (by kernel_rfl) rfl (.inr rfl) (uO _ _ _) ?_;refine rR (neI aBu (by first|assumption|rfl) ?_);refine aCW ?_;refine rR (assertOk con102 rfl ?_);(refine aCT o0 ty102 ?_;intro b12 m12 o12);(refine aCl o12 3 rfl ty102 rfl (by decide) (aI ⟨rfl,rfl⟩ ?_);intro m13 o13);refine aCX ?_;refine DrawVC.introB b12 [0,2] [1,3] [6] [0,1,2,3,4,5,6] mixed (by kernel_rfl) rfl (fun _ _ _ _ h=>h) ?_;refine fA st102 rfl rfl rfl ?_;refine StillVCA.load1 iH rfl rfl ((o13.cellB 3 rfl _).trans rfl) ?_;refine fA st102 rfl rfl rfl ?_;refine StillVCA.load1 aS rfl rfl ((o13.cellB 3 rfl _).trans rfl) ?_;(refine aCR o13 0 rfl eM rfl (by simp) (aI ⟨rfl,rfl⟩ ?_);intro m24 o24);refine aI ((o24.boxBlk 3 rfl).trans (o13.boxBlk 3 rfl).symm) ?_;(refine aCR o24 1 rfl iH rfl (by simp) (aI ⟨rfl,rfl⟩ ?_);intro m25 o25);refine aI ((o25.boxBlk 3 rfl).trans (o24.boxBlk 3 rfl).symm) ?_;(refine aCR o25 2 rfl aS rfl (by simp) (aI ⟨rfl,rfl⟩ ?_);intro m26 o26);exact RetVC.cell3 rfl eM iH aS h2 h3 h4 (o26.cellB 0 rfl 0) (o26.cellB 1 rfl 0) (o26.cellB 2 rfl 0) (hR _ (o26.sel [] rfl))
structure Tok where
 kind:Int
 text:aBs
 num:Int
 off:Nat
def qK (t:Tok):aVs:=[.int .i64 t.kind,.string ⟨⟨t.text⟩⟩,.int .i64 t.num,.int .i64 t.off]
def jE:List (aBs→Rd)→aBs→Rd
 | [],_=>.err 5
 | r::rs,l=>match r l with
  | .none=>jE rs l
  | x=>x
def readers:List (aBs→Rd):=[xF,pM,sE,tO]
def dS (l:aBs):Rd:=jE readers l
def iP:Nat→aBs→Nat→Nat→Except (Int×Nat) (List Tok)
 | 0,_,_,_=>.ok []
 | f+1,l,i,k=>match l with
  | []=>.ok []
  | c::r=>match dS (c::r) with
   | .err e=>.error (e,i)
   | .none=>.error (5,i)
   | .tok kd x n len=>if k=5000 then .error (3,i) else
    match iP f ((c::r).drop (len+cI false ((c::r).drop len))) (i+(len+cI false ((c::r).drop len))) (k+1) with
    | .error e=>.error e
    | .ok ts=>.ok (⟨kd,x,n,i⟩::ts)
def sP (t:aBs):Except (Int×Nat) (List Tok):=iP t.length (t.drop (cI false t)) (cI false t) 0
def xS (acc:List Tok):Except (Int×Nat) (List Tok)→Except (Int×Nat) (List Tok)
 | .error e=>.error e
 | .ok ts=>.ok (acc++ts)
theorem aBr {f:Nat}{l:aBs}{i k len:Nat}{kd n:Int}{x:aBs}(hl:l≠[])(hr:dS l=.tok kd x n len)(hk:k≠5000)(acc:List Tok) :
  xS acc (iP (f+1) l i k)=xS (acc++[⟨kd,x,n,i⟩]) (iP f (l.drop (len+cI false (l.drop len))) (i+(len+cI false (l.drop len))) (k+1)):=by
 cases l with
 | nil=>exact absurd rfl hl
 | cons c r =>
  rw[iP,hr]
  simp only[if_neg hk]
  cases iP f _ _ _ with
  | error e=>rfl
  | ok ts=>simp[xS]
theorem aAd {f:Nat}{l:aBs}{i len:Nat}{kd n:Int}{x:aBs}(hl:l≠[])(hr:dS l=.tok kd x n len) :
  iP (f+1) l i 5000=.error (3,i):=by
 cases l with
 | nil=>exact absurd rfl hl
 | cons c r=>rw[iP,hr];rfl
theorem vX {f:Nat}{l:aBs}{i k:Nat}{e:Int}(hl:l≠[])(hr:dS l=.err e) :
  iP (f+1) l i k=.error (e,i):=by
 cases l with
 | nil=>exact absurd rfl hl
 | cons c r=>rw[iP,hr]
theorem vW (f i k:Nat):iP f [] i k=.ok []:=by
 cases f<;>rfl
theorem nI:∀(l acc:aBs)(k:Nat) {kd n:Int}{x:aBs}{len:Nat},dZ l acc k=.tok kd x n len→k+2≤len∧len≤k+1+l.length
 | [],_,_,_,_,_,_,h=>by cases h
 | [c],acc,k,_,_,_,_,h=>by
  rw[dZ]at h
  split at h
  ·split at h
   ·cases h
   ·injection h with _ _ _ e;subst e;simp
  ·split at h<;>cases h
 | c::d::r,acc,k,_,_,_,_,h=>by
  rw[dZ]at h
  split at h
  ·split at h
   ·cases h
   ·injection h with _ _ _ e;subst e;simp;omega
  ·split at h
   ·cases h
   ·split at h
    ·split at h
     ·cases h
     ·have:=nI r _ _ h;simp;omega
    ·have:=nI (d::r) _ _ h;simp at this ⊢;omega
theorem aA8 {p:UInt8→Bool}{c:UInt8}{r:aBs}(h:p c=true):1≤bM p (c::r):=by
 unfold bM;rw[aDx,h];simp
theorem jU {l:aBs}{kd n:Int}{x:aBs}{len:Nat}(h:dS l=.tok kd x n len):1≤len∧len≤l.length:=by
 have h1:=nG cK l;have h2:=nG bU l;unfold dS readers jE at h;split at h
 ·unfold jE at h
  split at h
  ·unfold jE at h
   split at h
   ·unfold jE at h
    split at h
    ·cases h
    ·unfold tO at h
     split at h
     ·cases h
     ·rename_i hs
      injection h with _ _ _ e
      subst e
      refine⟨by omega,?_⟩
      unfold sN;split
      ·rename_i hh
       rcases hh with hh|hh
       ·exact lH hh
       ·exact lH hh
      ·split
       ·simp
       ·split<;>simp
   ·unfold sE at h
    split at h
    ·cases h
    ·split at h
     ·have:=nI _ _ _ h
      simp;omega
     ·cases h
  ·unfold pM at h
   split at h
   ·cases h
   ·split at h
    ·cases h
    ·injection h with _ _ _ e
     omega
 ·cases l with
  | nil=>cases h
  | cons c r =>
   simp only[xF]at h
   split at h
   ·rename_i hc
    split at h
    ·cases h
    ·injection h with _ _ _ e
     have:=aA8 (p:=cK) (c:=c) (r:=r) (by unfold cK;rw[hc];rfl)
     omega
   ·cases h
def lK (h:Heap)(t:aBs)(v:Value)(h':Heap):Prop :=
 if 20000<t.length then v=.tuple ⟨[.slice none 0 0,.int .i64 3,.int .i64 (-1)]⟩∧Own h [] h'
 else match sP t with
  | .error (e,i)=>v=.tuple ⟨[.slice none 0 0,.int .i64 e,.int .i64 i]⟩∧Own h [] h'
  | .ok ts=>∃ u,v=.tuple ⟨[u,.int .i64 0,.int .i64 0]⟩∧Own h [row u 112 4 ts.length (ts.flatMap qK)] h'
def fnV (b:Nat)(f:FuncId):Value:=.func (.func f) ⟨[.pointer (some ⟨b,0,none⟩)]⟩ ⟨[]⟩
def fnsV (b:Nat):aVs:=[fnV b 49,fnV b 50,fnV b 51,fnV b 52]
theorem reader_at (b:Nat)(t:aBs)(q:Nat)(hq:q<4):∃ g r,(fnsV b)[q]?=some (fnV b g)∧readers.drop q=r::readers.drop (q+1) ∧
  ∀(i:Nat) (h:Heap),i<t.length→t.length≤1000000→aY h ⟨b,0,none⟩=some (.string ⟨⟨t⟩⟩)→aY h ⟨b,1,none⟩=some (.int .i64 i)→Spec Tryz.prog g [.pointer (some ⟨b,0,none⟩)] h (RdE h i (r (t.drop i))):=by
 match q,hq with
 | 0,_=>exact⟨_,_,rfl,rfl,fun i h hi hl h0 h1=>name_spec b t i h hi hl h0 h1⟩
 | 1,_=>exact⟨_,_,rfl,rfl,fun i h hi hl h0 h1=>number_spec b t i h hi hl h0 h1⟩
 | 2,_=>exact⟨_,_,rfl,rfl,fun i h hi hl h0 h1=>quoted_spec b t i h hi hl h0 h1⟩
 | 3,_=>exact⟨_,_,rfl,rfl,fun i h hi hl h0 h1=>symbol_spec b t i h hi hl h0 h1⟩
theorem lex_spec (t:aBs)(h:Heap)(hl:t.length≤9223372036854775807) :
  bZ Tryz.prog 25 [.string ⟨⟨t⟩⟩] h (lK h t):=by
 refine Spec.enterD Tryz.func25 rfl (n:=77) (by kernel_rfl) (by kernel_rfl) ?_;have o0:=Own.refl h;by_cases hbig:20000<t.length
 ·(refine aCT o0 eM ?_;intro b10 m10 o10)
  (refine aCT o10 iH ?_;intro b11 m11 o11);(refine aCT o11 aS ?_;intro b12 m12 o12);refine rR (aCE rfl cT ?_);refine aCV (fun c14=>?_) (fun hc=>absurd (by omega) hc);(refine aCl o12 0 rfl eM rfl (by decide) (aI ⟨rfl,rfl⟩ ?_);intro m15 o15);(refine aCl o15 1 rfl iH rfl (by decide) (aI ⟨rfl,rfl⟩ ?_);intro m16 o16);(refine aCl o16 2 rfl aS rfl (by decide) (aI ⟨rfl,rfl⟩ ?_);intro m17 o17);refine RetVC.cell3 rfl eM iH aS rfl rfl rfl (o17.cellB 0 rfl 0) (o17.cellB 1 rfl 0) (o17.cellB 2 rfl 0) ?_;show lK h t _ _
  rw[lK,if_pos hbig]
  exact⟨rfl,o17.sel [] rfl⟩
 ·have hP:∀ v h',lK h t v h'=_:=fun v h'=>by rw[lK,if_neg hbig]
  (refine aCT o0 eM ?_;intro b20 m20 o20);(refine aCT o20 iH ?_;intro b21 m21 o21);(refine aCT o21 aS ?_;intro b22 m22 o22);refine rR (aCE rfl cT ?_);refine aCV (fun hc=>absurd hc (by omega)) (fun c24=>?_);refine DeferVC.closure (by simp) ?_;refine rR (aCr dC ?_);refine aI rfl ?_;(refine aCw o22 rfl ?_;intro b31 m31 o31);refine rR (aCD ?_);refine rR (aCD ?_);refine rR (aCD ?_);refine rR (aCD ?_);refine rR (buildA arr108 ty108 rfl rfl rfl (aI rfl ?_));refine rR (aCr st110 ?_);refine aI rfl ?_;(refine aCT o31 ty110 ?_;intro b38 m38 o38);(refine aCl o38 4 rfl ty110 rfl (by decide) (aI ⟨rfl,rfl⟩ ?_);intro m39 o39);have ol:=o39.lend [3] [0,1,2,4] rfl;refine aCZ (aA9 _ b31 t 0 _ (by omega) (by omega) ol) ?_;rintro _ m40 ⟨rfl,os⟩;have o40:Own h [box b20 [.slice none 0 0] 64,box b21 [.int .i64 0] 27,box b22 [.int .i64 0] 3,box b31 [.string ⟨⟨t⟩⟩,.int .i64 (0+cI false (t.drop 0):Nat)] 106,box b38 (fnsV b31) 110] m40:=os.back.sel [1,2,3,0,4] rfl;have hgle:=pS false t
  simp only[aDs,List.drop_zero]at o40
  generalize hT:sP t=T at hP
  have hT0:xS [] (iP (t.length) (t.drop (cI false t)) (cI false t) 0)=T:=by
   rw[← hT,sP]
   cases iP t.length (t.drop (cI false t)) (cI false t) 0<;>rfl
  have on:=o40.nilRow 112 4;refine aC5 [8,9,10,30,31,32,33,34,35,36,37,38,39,40,41,42,43,44,45,46,47,48,49,50,51,52,53,54,55,56,57,58,59,60,61,62,63,64,65,66,67,68,69,70,71,72,73,74,75] [] (fun _ hh=>∃(f j:Nat) (acc:List Tok) (v:Value),j≤t.length∧t.length≤j+f∧acc.length≤j∧acc.length≤5000∧xS acc (iP f (t.drop j) j acc.length)=T∧Own h [box b20 [v] 64,box b21 [.int .i64 0] 27,box b22 [.int .i64 0] 3,box b31 [.string ⟨⟨t⟩⟩,.int .i64 (j:Nat)] 106,box b38 (fnsV b31) 110,row v 112 4 acc.length (acc.flatMap qK)] hh) (fun _ hh=>leftM b31 t hh) ?_ ?_
  ·exact⟨t.length,cI false t,[],_,hgle,by omega,by simp,by simp,hT0,on⟩
  ·rintro vs junk hh ⟨f,j,acc,v,hj,hf,haj,hac,hQ,oh⟩
   obtain⟨va,vc,rfl⟩:=oh.rowIs 5 rfl
   by_cases hlt:j<t.length
   ·have hdn:t.drop j≠[]:=fun e=>by have:=congrArg List.length e;simp at this;omega
    obtain⟨f,rfl⟩:∃ f',f=f'+1:=⟨f - 1,by omega⟩
    refine rR (nC rfl ?_);refine rR (fA dC rfl rfl rfl ?_);refine rR (aCi oh 3 rfl aS rfl rfl ?_);refine rR (aCE rfl cT ?_);refine aCV (fun c64=>?_) (fun hc=>absurd (by omega) hc);refine rR (fA st110 rfl rfl rfl ?_);refine rR (aCm oh 4 rfl ty108 rfl rfl rfl ?_);refine aC5 [8,9,10,39,40,41,42,43,44,45,46,47,48,49,50,51,52,53,54,55,56,57,58,59,60,61,62,63,64,65,66,67,68,69,70,71,72,73] [39] (fun vs h2=>∃ q,q≤4∧vs=[.int .i64 (q:Nat)]∧jE (readers.drop q) (t.drop j)=dS (t.drop j)∧Own h [box b20 [.slice va acc.length vc] 64,box b21 [.int .i64 0] 27,box b22 [.int .i64 0] 3,box b31 [.string ⟨⟨t⟩⟩,.int .i64 (j:Nat)] 106,box b38 (fnsV b31) 110,row (.slice va acc.length vc) 112 4 acc.length (acc.flatMap qK)] h2) (fun vs _=>match vs with|[.int _ q]=>4 - q.toNat|_=>0) ?_ ?_
    ·exact⟨0,by omega,rfl,rfl,oh⟩
    ·rintro vs junk h2 ⟨q,hq,rfl,hR,oq⟩
     by_cases hq4:q<4
     ·obtain⟨g,r,hg,hd,hsp⟩:=reader_at b31 t q hq4
      rw[hd]at hR
      refine aCV (fun c70=>?_) (fun hc=>absurd (by omega) hc);refine rR (indexA arr108 rfl rfl (by omega) (by omega) (by first|rfl|assumption) ?_);refine aC6 ?_;refine aC0 (hsp j _ hlt (by omega) (oq.cellB 3 rfl 0) (oq.cellB 3 rfl 1)) ?_ ?_
      ·rintro v h3 ⟨hv,oe⟩
       have o3:=oq.ext' oe;cases hr:r (t.drop j) with
       | err e=>rw[hr]at hv;exact hv.elim
       | none =>
        rw[hr]at hv
        obtain⟨k',x',n',a',rfl⟩:=hv
        have hR':jE (readers.drop (q+1)) (t.drop j)=dS (t.drop j):=by rw[← hR,jE,hr]
        (refine aCT o3 bB ?_;intro b100 m100 o100);(refine aCl o100 6 rfl bB rfl (by decide) (aI ⟨rfl,rfl⟩ ?_);intro m101 o101);refine aCW ?_;refine aC2 (by omega) (by omega) ?_
        refine⟨rfl,?_⟩
        exact⟨⟨q+1,by omega,rfl,hR',Own.sel ‹_› [0,1,2,3,4,5] rfl⟩,by simp;omega⟩
       | tok k' x' n' len =>
        rw[hr]at hv
        obtain rfl:=hv;have hR':dS (t.drop j)=.tok k' x' n' len:=by rw[← hR,jE,hr]
        obtain⟨hl1,hl2⟩:=jU hR'
        rw[aDJ]at hl2
        by_cases hfull:acc.length=5000
        ·rw[hfull,aAd hdn hR']at hQ
         (refine aCT o3 bB ?_;intro b120 m120 o120);(refine aCl o120 6 rfl bB rfl (by decide) (aI ⟨rfl,rfl⟩ ?_);intro m121 o121);refine aCV (fun hc=>absurd hc (by omega)) (fun c122=>?_);refine rR (aCi o121 0 rfl eM rfl rfl ?_);refine rR (aCq rfl fI ?_);refine aCV (fun c125=>?_) (fun hc=>absurd (by omega) hc);refine aC0 (gU 3 b31 t j _ (Own.cellB ‹_› 3 rfl 1)) (fun _ _ h=>h.elim) (fun c h4 ⟨hc,ho⟩=>?_);subst hc;have o5:Own h [box b20 [.slice va acc.length vc] 64,box b21 [.int .i64 0] 27,box b22 [.int .i64 0] 3] _:=(Own.ext' ‹_› ho).sel [0,1,2] rfl;refine vY _ _ _ _ b20 b21 b22 _ _ _ 3 j o5 rfl rfl rfl fun h' o'=>?_;show lK h t _ _
         rw[hP,← hQ]
         exact⟨rfl,o'⟩
        ·rw[aBr hdn hR' hfull]at hQ
         (refine aCT o3 bB ?_;intro b140 m140 o140);(refine aCl o140 6 rfl bB rfl (by decide) (aI ⟨rfl,rfl⟩ ?_);intro m141 o141);refine aCV (fun hc=>absurd hc (by omega)) (fun c142=>?_);refine rR (aCi o141 0 rfl eM rfl rfl ?_);refine rR (aCq rfl fI ?_);refine aCV (fun hc=>absurd hc (by omega)) (fun c145=>?_);refine rR (nC rfl ?_);refine rR (fA dC rfl rfl rfl ?_);refine rR (aCi o141 3 rfl aS rfl rfl ?_);refine rR (fA eP rfl rfl rfl ?_);(refine aCR o141 6 rfl aS rfl (by simp) (aI ⟨rfl,rfl⟩ ?_);intro m150 o150);refine rR (aCi o150 0 rfl eM rfl rfl ?_);refine rR (aCm o150 6 rfl bB rfl rfl rfl ?_);(refine aCF o150 fI bB rfl rfl (by decide) ?_);refine aI rfl ?_;intro b154 m154 o154;refine aCU ‹_› 5 rfl fI bB (by decide) (Own.boxArrN ‹_› 7 rfl (n:=1) rfl (by omega)) (by simp[Value.oneCell']) (by simp only[maxLen];omega) (by omega) ?_;intro v155 m155 o155
         obtain⟨ua,uc,rfl⟩:=o155.rowIs 5 rfl
         (refine aCR o155 0 rfl eM rfl (by simp) (aI ⟨rfl,rfl⟩ ?_);intro m160 o160);refine rR (nC rfl ?_);refine rR (fA dC rfl rfl rfl ?_);refine rR (aCi o160 3 rfl aS rfl rfl ?_);refine aC2 (by omega) (by omega) ?_;refine rR (nC rfl ?_);refine rR (fA dC rfl rfl rfl ?_);(refine aCR o160 3 rfl aS rfl (by simp) (aI ⟨rfl,rfl⟩ ?_);intro m166 o166);refine aCZ (aA9 _ b31 t (j+len) _ (by omega) (by omega) (Own.lend ‹_› [3] [0,1,2,4,5] rfl)) ?_;rintro _ m170 ⟨rfl,os⟩;have o170:Own h [box b20 [.slice ua (acc.length+1) uc] 64,box b21 [.int .i64 0] 27,box b22 [.int .i64 0] 3,box b31 [.string ⟨⟨t⟩⟩,.int .i64 (j+len+cI false (t.drop (j+len)):Nat)] 106,box b38 (fnsV b31) 110,row (.slice ua (acc.length+1) uc) 112 4 (acc.length+1) (acc.flatMap qK++qK ⟨k',x',n',j⟩)] m170:=os.back.sel [1,2,3,0,4,5] rfl;have hgl:=pS false (t.drop (j+len))
         rw[aDJ]at hgl
         simp only[aDE]at hQ
         generalize cI false (t.drop (j+len))=gg at *
         refine⟨rfl,?_⟩
         have hm1:=rI (b:=b31) (j:=j) (t:=t) (ty:=106) (oh.lend [3] [0,1,2,4,5] rfl);have hm2:=rI (b:=b31) (j:=j+len+gg) (t:=t) (ty:=106) (o170.lend [3] [0,1,2,4,5] rfl)
         refine⟨⟨f,j+len+gg,acc++[⟨k',x',n',j⟩],.slice ua (acc.length+1) uc,by omega,by omega,by simp;omega,by simp;omega,?_,?_⟩,?_⟩
         ·rw[← hQ,aDd]
          simp only[aDe,aDq,aDs,Nat.add_assoc]
         ·have e1:(acc++[(⟨k',x',n',j⟩:Tok)]).length=acc.length+1:=by simp
          have e2:(acc++[(⟨k',x',n',j⟩:Tok)]).flatMap qK=acc.flatMap qK++qK ⟨k',x',n',j⟩:=by simp
          rw[e1,e2]
          exact o170
         ·rw[hm1,hm2]
          omega
      ·rintro c h3 ⟨hc,oe⟩
       cases hr:r (t.drop j) with
       | err e =>
        rw[hr]at hc
        subst hc;have hR':dS (t.drop j)=.err e:=by rw[← hR,jE,hr]
        rw[vX hdn hR']at hQ
        refine vY _ _ _ _ b20 b21 b22 _ _ _ e j ((oq.ext' oe).sel [0,1,2] rfl) rfl rfl rfl fun h' o'=>?_;show lK h t _ _
        rw[hP,← hQ]
        exact⟨rfl,o'⟩
       | none=>rw[hr]at hc;exact hc.elim
       | tok _ _ _ _=>rw[hr]at hc;exact hc.elim
     ·obtain rfl:q=4:=by omega
      refine aCX ?_;refine aC0 (gU 5 b31 t j _ (oq.cellB 3 rfl 1)) (fun _ _ h=>h.elim) (fun c h4 ⟨hc,ho⟩=>?_);subst hc
      rw[vX hdn hR.symm]at hQ
      refine vY _ _ _ _ b20 b21 b22 _ _ _ 5 j ((oq.ext' ho).sel [0,1,2] rfl) rfl rfl rfl fun h' o'=>?_;show lK h t _ _
      rw[hP,← hQ]
      exact⟨rfl,o'⟩
   ·have hd:t.drop j=[]:=aDu (by omega)
    rw[hd,vW]at hQ
    simp only[xS,aDf]at hQ
    refine rR (nC rfl ?_);refine rR (fA dC rfl rfl rfl ?_);refine rR (aCi oh 3 rfl aS rfl rfl ?_);refine rR (aCE rfl cT ?_);refine aCV (fun hc=>absurd hc (by omega)) (fun c84=>?_);refine rR (aCi oh 0 rfl eM rfl rfl ?_);(refine aCR oh 0 rfl eM rfl (by simp) (aI ⟨rfl,rfl⟩ ?_);intro m86 o86);(refine aCl o86 1 rfl iH rfl (by decide) (aI ⟨rfl,rfl⟩ ?_);intro m87 o87);(refine aCl o87 2 rfl aS rfl (by decide) (aI ⟨rfl,rfl⟩ ?_);intro m88 o88);refine leave_ok _ _ _ _ _ _ ?_;refine RetVC.cell3 rfl eM iH aS rfl rfl rfl (o88.cellB 0 rfl 0) (o88.cellB 1 rfl 0) (o88.cellB 2 rfl 0) ?_;show lK h t _ _
    rw[hP,← hQ]
    exact⟨_,rfl,o88.sel [5] rfl⟩
structure Vl where
 k:Int
 n:Int
 t:aBs
structure Opd where
 var:aBs
 attr:aBs
 con:Bool
 val:Vl
structure Cnd where
 left:Opd
 op:Int
 right:Opd
 add:Int
structure Col where
 name:aBs
 kind:Int
 dflt:Vl
structure Trm where
 attr:aBs
 measure:Int
 tol:Int
 num:Int
 den:Int
 gives:Int
 takes:Int
structure Nmd where
 name:aBs
 val:Vl
structure Vr where
 name:aBs
 table:aBs
inductive Ex where
 | mk (kind:Int) (table:aBs) (kids:List Ex) (conds:List Cnd) (names:List aBs) (attr:aBs) (as_:aBs) (agg:Int) (off:Nat)
structure It where
 kind:Int
 name:aBs
 off:Nat
 table:aBs
 attr:aBs
 cols:List Col
 names:List aBs
 by_:Int
 n:Int
 m:Int
 terms:List Trm
 other:aBs
 oattr:aBs
 fixed:List Nmd
 vars:List Vr
 conds:List Cnd
 expr:Ex
def vl0:Vl:=⟨0,0,[]⟩
def ex0:Ex:=.mk 0 [] [] [] [] [] [] 0 0
def it0:It:=⟨0,[],0,[],[],[],[],0,0,0,[],[],[],[],[],[],ex0⟩
def PM (α:Type):=List Tok→Except (Int×Nat) (α×List Tok)
instance:Monad PM where
 pure a:=fun ts=>.ok (a,ts)
 bind m f:=fun ts=>match m ts with
  | .error e=>.error e
  | .ok (a,r)=>f a r
def ifP {α:Type}(c:Bool)(m:PM α)(d:α):PM α:=if c=true then m else pure d
theorem jK {α:Type}{c:Bool}{m:PM α}{d:α}(h:c=true):ifP c m d=m:=if_pos h
theorem mD {α:Type}{c:Bool}{m:PM α}{d:α}(h:c=false):ifP c m d=pure d:=if_neg (by rw[h];decide)
section
variable (z : Nat)
def aA3 (e:Int)(ts:List Tok):Int×Nat:=match ts with
 | []=>(7,z)
 | t::_=>(e,t.off)
def qD {α:Type}(e:Int):PM α:=fun ts=>.error (aA3 z e ts)
def dH (t:Tok)(s:aBs):Bool:=decide (t.text=s∧(t.kind=1∨t.kind=4))
def bC:List aBs→List Tok→Bool
 | [],_=>true
 | _::_,[]=>false
 | s::ss,t::ts=>dH t s&&bC ss ts
def cM (s:aBs):PM Bool:=fun ts=>if bC [s] ts then .ok (true,ts.tail) else .ok (false,ts)
def need1 (s:aBs):PM Unit:=do
 if ← cM s then pure () else qD z 4
def aW:List aBs→PM Unit
 | []=>pure ()
 | s::r=>do
  need1 z s
  aW r
def fP (k:Int):PM Tok:=fun ts=>match ts with
 | []=>.error (7,z)
 | t::r=>if t.kind=k then .ok (t,r) else .error (4,t.off)
def cV:PM aBs:=do
 let t ← fP z 1
 pure t.text
def lZ:PM Int:=do
 let t ← fP z 2
 pure t.num
def eE:List aBs→Int→PM Int
 | [],_=>qD z 4
 | s::r,i=>do
  if ← cM s then pure i else eE r (i+1)
def listA {α:Type}(sep:aBs)(one:PM α):Nat→List α→PM (List α)
 | 0,acc=>pure acc
 | f+1,acc=>do
  if ← cM sep then
   let a ← one
   listA sep one f (acc++[a])
  else pure acc
def iB {α:Type}(sep:aBs)(one:PM α):PM (List α):=do
 let a ← one
 fun ts=>listA sep one (ts.length+1) [a] ts
def nK:PM (List aBs):=iB [44] (cV z)
def oM:PM (Option Vl):=do
 if ← cM [45] then
  let n ← lZ z
  pure (some ⟨2,-n,[]⟩)
 else if ← cM [64] then
  let n ← lZ z
  pure (some ⟨3,n,[]⟩)
 else if ← cM [116,114,117,101] then pure (some ⟨4,1,[]⟩)
 else if ← cM [102,97,108,115,101] then pure (some ⟨4,0,[]⟩)
 else if ← cM [110,117,108,108] then pure (some vl0)
 else pure none
def namesU (s:aBs):PM (List aBs):=fun ts=>if bC [s] ts=true then .ok ([],ts) else nK z ts
def dO:PM (Option Vl):=fun ts=>match ts with
 | []=>.ok (none,[])
 | t::r =>
  if t.kind=3 then .ok (some ⟨1,0,t.text⟩,r)
  else if t.kind=2 then .ok (some ⟨2,t.num,[]⟩,r)
  else oM z (t::r)
def nB:PM Vl:=do
 match ← dO z with
 | some v=>pure v
 | none=>qD z 4
def oD:PM Opd:=do
 match ← dO z with
 | some v=>pure ⟨[],[],true,v⟩
 | none =>
  let first ← cV z
  if ← cM [46] then
   let a ← cV z
   pure ⟨first,a,false,vl0⟩
  else pure ⟨[],first,false,vl0⟩
def sV:PM Cnd:=do
 let l ← oD z
 let op ← eE z [[61],[33,61],[60],[60,61]] 1
 let r ← oD z
 if ← cM [43] then
  let n ← lZ z
  pure ⟨l,op,r,n⟩
 else if ← cM [45] then
  let n ← lZ z
  pure ⟨l,op,r,-n⟩
 else pure ⟨l,op,r,0⟩
def mG:PM (List Cnd):=do
 aW z [[119,104,101,114,101]]
 iB [97,110,100] (sV z)
def cH:List aBs:=[[115,101,108,101,99,116],[112,114,111,106,101,99,116],[106,111,105,110],[117,110,105,111,110],[109,105,110,117,115],[114,101,110,97,109,101],[103,114,111,117,112]]
def gQ (ts:List Tok):Option Nat:=(List.range 7).find? fun i=>bC [cH.getD i [],[40]] ts
def mU (off:Nat)(t:aBs):Ex:=.mk 1 t [] [] [] [] [] 0 off
def eB (i:Nat)(off:Nat)(kids:List Ex):PM Ex :=
 match i with
 | 0=>do
  let c ← mG z
  pure (.mk 2 [] kids c [] [] [] 0 off)
 | 1=>do
  aW z [[111,110]]
  let l ← namesU z [41]
  pure (.mk 3 [] kids [] l [] [] 0 off)
 | 5=>do
  aW z [[44]]
  let a ← cV z
  aW z [[97,115]]
  let b ← cV z
  pure (.mk 7 [] kids [] [] a b 0 off)
 | 6=>do
  aW z [[111,110]]
  let l ← namesU z [119,105,116,104]
  aW z [[119,105,116,104]]
  let g ← eE z [[99,111,117,110,116],[115,117,109],[108,101,97,115,116],[103,114,101,97,116,101,115,116]] 1
  let a ← ifP (g != 1) (cV z) []
  aW z [[97,115]]
  let b ← cV z
  pure (.mk 8 [] kids [] l a b g off)
 | i=>pure (.mk (2+i) [] kids [] [] [] [] 0 off)
def sM (i:Nat):Bool:=i == 2||i == 3||i == 4
def bF:List Tok→Nat
 | []=>0
 | t::_=>t.off
def bT:Nat→PM Ex
 | 0=>qD z 3
 | n+1=>fun ts=>match gQ ts with
  | none=>(do
   let t ← cV z
   pure (mU (bF ts) t):PM Ex) ts
  | some i=>(do
   aW z [cH.getD i [],[40]]
   let a ← bT n
   let kids ← ifP (sM i) (do
    aW z [[44]]
    let b ← bT n
    pure [a,b]) [a]
   let x ← eB z i (bF ts) kids
   aW z [[41]]
   pure x:PM Ex) ts
def lI:PM Col:=do
 let a ← cV z
 let k ← eE z [[116,101,120,116],[110,117,109,98,101,114],[100,97,121],[102,108,97,103]] 1
 if ← cM [61] then
  let v ← nB z
  pure ⟨a,k,v⟩
 else pure ⟨a,k,vl0⟩
def mL:PM Trm:=do
 let a ← cV z
 let m ← eE z [[101,113,117,97,108],[101,100,105,116],[106,97,99,99,97,114,100],[106,97,114,111],[110,101,97,114]] 1
 let tol ← ifP (m == 5) (lZ z) 0
 aW z [[108,101,97,115,116]]
 let num ← lZ z
 let den ← (do if ← cM [47] then lZ z else pure 1:PM Int)
 aW z [[103,105,118,101,115]]
 let g ← lZ z
 let tk ← (do if ← cM [116,97,107,101,115] then lZ z else pure 0:PM Int)
 aW z [[59]]
 pure ⟨a,m,tol,num,den,g,tk⟩
def kB:PM (aBs×aBs):=do
 let t ← cV z
 aW z [[46]]
 let a ← cV z
 pure (t,a)
def mE:PM Nmd:=do
 let n ← cV z
 aW z [[61]]
 let v ← nB z
 pure ⟨n,v⟩
def yP:PM Vr:=do
 let t ← cV z
 let n ← cV z
 pure ⟨n,t⟩
def yV (x:It):PM It:=do
 aW z [[40]]
 let c ← iB [44] (lI z)
 aW z [[41],[107,101,121]]
 let l ← nK z
 pure { x with cols:=c,names:=l }
def tQ (x:It):PM It:=do
 aW z [[116,114,117,115,116]]
 let n ← lZ z
 pure { x with n:=n }
def aAI (x:It):PM It:=do
 aW z [[111,110]]
 let p ← kB z
 aW z [[98,121]]
 let b ← eE z [[101,120,97,99,116],[116,111,107,101,110],[112,114,101,102,105,120],[115,107,101,116,99,104]] 1
 if b=3 then
  let n ← lZ z
  pure { x with table:=p.1,attr:=p.2,by_:=b,n:=n }
 else if b=4 then
  let n ← lZ z
  let m ← lZ z
  pure { x with table:=p.1,attr:=p.2,by_:=b,n:=n,m:=m }
 else pure { x with table:=p.1,attr:=p.2,by_:=b }
def termsA:Nat→List Trm→PM (List Trm)
 | 0,acc=>pure acc
 | f+1,acc=>fun ts=>(if bC [[125]] ts then pure acc else do
  let a ← mL z
  termsA f (acc++[a]):PM (List Trm)) ts
def zX (x:It):PM It:=do
 aW z [[111,110]]
 let t ← cV z
 aW z [[97,116]]
 let n ← lZ z
 aW z [[123]]
 let l ← (fun ts=>termsA z (ts.length+1) [] ts)
 pure { x with table:=t,n:=n,terms:=l }
def keepP (x:It):PM It:=do
 let p ← kB z
 aW z [[98,121]]
 let b ← eE z [[108,97,116,101,115,116],[109,111,115,116],[116,114,117,115,116,101,100],[108,111,110,103,101,115,116],[108,101,97,115,116],[103,114,101,97,116,101,115,116]] 1
 pure { x with table:=p.1,attr:=p.2,by_:=b }
def jI (x:It):PM It:=do
 aW z [[111,110]]
 let t ← cV z
 aW z [[40]]
 let l ← nK z
 aW z [[41]]
 pure { x with table:=t,names:=l }
def uT (x:It):PM It:=do
 let y ← jI z x
 aW z [[116,111]]
 let a ← cV z
 if ← cM [119,104,101,114,101] then
  let f ← iB [44] (mE z)
  pure { y with attr:=a,fixed:=f }
 else pure { y with attr:=a }
def rK (x:It):PM It:=do
 let p ← kB z
 aW z [[105,110]]
 let q ← kB z
 pure { x with table:=p.1,attr:=p.2,other:=q.1,oattr:=q.2 }
def denyP (x:It):PM It:=do
 let v ← iB [44] (yP z)
 let c ← mG z
 pure { x with vars:=v,conds:=c }
def zK (x:It):PM It:=do
 aW z [[61]]
 let e ← bT z 12
 pure { x with expr:=e }
def dU:List aBs:=[[116,97,98,108,101],[115,111,117,114,99,101],[98,108,111,99,107],[109,97,116,99,104],[107,101,101,112],[117,110,105,113,117,101],[100,101,112,101,110,100],[105,110,99,108,117,100,101],[100,101,110,121],[113,117,101,114,121]]
def jV (k:Int)(x:It):PM It :=
 if k=1 then yV z x else if k=2 then tQ z x else if k=3 then aAI z x else if k=4 then zX z x else if k=5 then keepP z x
 else if k=6 then jI z x else if k=7 then uT z x else if k=8 then rK z x else if k=9 then denyP z x else zK z x
def iC:PM It:=fun ts=>(do
 let k ← eE z dU 1
 let nm ← ifP (k != 5) (cV z) []
 let x ← jV z k { it0 with kind:=k,name:=nm,off:=bF ts }
 if k=4 then aW z [[125]] else aW z [[59]]
 pure x:PM It) ts
def jB:Nat→List It→List Tok→Except (Int×Nat) (List It)
 | 0,acc,_=>.ok acc
 | f+1,acc,ts=>match ts with
  | []=>.ok acc
  | t::r=>if acc.length=200 then .error (3,t.off) else match iC z (t::r) with
   | .error e=>.error e
   | .ok (x,q)=>jB f (acc++[x]) q
end
def kY (s:aBs):Except (Int×Nat) (List It):=match sP s with
 | .error e=>.error e
 | .ok ts=>jB s.length (ts.length+1) [] ts
theorem StillVC.aCj {α β:Type}{m:PM α}{f:α→PM β}{ts r:List Tok}{a:α}(h:m ts=.ok (a,r)):(m >>= f) ts=f a r:=by
 show(match m ts with|Except.error e=>Except.error e|Except.ok (a,r)=>f a r)=_
 rw[h]
theorem StillVC.aCk {α β:Type}{m:PM α}{f:α→PM β}{ts:List Tok}{e:Int×Nat}(h:m ts=.error e):(m >>= f) ts=.error e:=by
 show(match m ts with|Except.error e=>Except.error e|Except.ok (a,r)=>f a r)=_
 rw[h]
theorem PM.pure_eq {α:Type}(a:α)(ts:List Tok):(pure a:PM α) ts=.ok (a,ts):=rfl
theorem nJ {z:Nat}{s:aBs}{ts:List Tok}(h:bC [s] ts=true):namesU z s ts=.ok ([],ts):=if_pos h
theorem kZ {z:Nat}{s:aBs}{ts:List Tok}(h:bC [s] ts=false):namesU z s ts=nK z ts:=if_neg (by rw[h];decide)
theorem kU {s:aBs}{ts:List Tok}(h:bC [s] ts=true):cM s ts=.ok (true,ts.tail):=by unfold cM;rw[if_pos h]
theorem kA {s:aBs}{ts:List Tok}(h:bC [s] ts=false):cM s ts=.ok (false,ts):=by unfold cM;rw[h];rfl
def kQ (e:Int×Nat):List PanicEntry:=[{ v:=.iface 68 (.agg ⟨[.int .i64 e.1,.int .i64 e.2]⟩),recovered:=false }]
abbrev PSt (bp z:Nat)(w:Value)(tk:Item):List Item:=[box bp [w,.int .i64 z] 72,tk]
def TokOK (ts:List Tok):Prop:=∀ t∈ts,0≤t.num∧t.num≤10000000000
def cJ (tk:Item)(w:Value)(ts:List Tok):Prop:=Reads tk 4 w ts.length (ts.flatMap qK)∧TokOK ts
def PEnd {α:Type}(B:Base)(bp z:Nat)(tk:Item)(n:Nat)(res:Except (Int×Nat) (α×List Tok))(V:α→Value→Prop):Ending→Heap→Prop :=
 Ends (fun v h'=>∃ a r w,res=.ok (a,r)∧V a v∧r.length≤n∧cJ tk w r∧Own B (PSt bp z w tk) h')
  (fun c h'=>∃ e w,res=.error e∧c=kQ e∧Own B (PSt bp z w tk) h')
def PSpec {α:Type}(g:FuncId)(args:Nat→aVs)(m:Nat→PM α)(V:α→Value→Prop):Prop :=
 ∀(B:Base) (bp z:Nat) (tk:Item) (w:Value) (ts:List Tok) (h:Heap),Own B (PSt bp z w tk) h→cJ tk w ts→ts.length≤5000→Spec Tryz.prog g (args bp) h (PEnd B bp z tk ts.length (m z ts) V)
theorem PSpec.call {α:Type}{g:FuncId}{args:Nat→aVs}{m:Nat→PM α}{V:α→Value→Prop}(sp:PSpec g args m V) {s:aVs}{h:Heap}{K:KK}{Q:QQ}{B:Base}{bp z:Nat}{tk:Item}{w:Value}{ts:List Tok}
  (o:Own B (PSt bp z w tk) h) (hR:cJ tk w ts) (hl:ts.length≤5000)
  (hret:∀ a r w' v h',m z ts=.ok (a,r)→V a v→r.length≤ts.length→cJ tk w' r→Own B (PSt bp z w' tk) h'→K v false h')
  (hpan:∀ e w' h',m z ts=.error e→Own B (PSt bp z w' tk) h'→Q (.panic (kQ e)) s h'):CallVC Tryz.prog g (args bp) s h K Q :=
 aC0 (sp B bp z tk w ts h o hR hl) (fun _ _ ⟨_,_,_,h1,h2,h3,h4,h5⟩=>hret _ _ _ _ _ h1 h2 h3 h4 h5) (fun _ _ ⟨_,_,h1,h2,h3⟩=>by subst h2;exact hpan _ _ _ h1 h3)
theorem kV (e:Int)(bp z:Nat)(w:Value)(ts:List Tok)(h:Heap)(h0:aY h ⟨bp,0,none⟩=some w)(h1:aY h ⟨bp,1,none⟩=some (.int .i64 z))(hA:dF 4 h w ts.length (ts.flatMap qK)) :
  Spec Tryz.prog 27 [.pointer (some ⟨bp,0,none⟩),.int .i64 e] h (Ends (fun _ _=>False) fun c h'=>c=kQ (aA3 z e ts)∧Own h [] h'):=by
 refine aC1 Tryz.func27 rfl Tryz.ntmps27 (by kernel_rfl) ?_;have o0:=Own.refl h;cases ts with
 | nil =>
  refine rR (nC rfl ?_);refine rR (fA fH rfl rfl rfl ?_);refine rR (load1 eM rfl ‹_› ?_);refine rR (aCJ hA fI ?_);refine aCW ?_;refine rR (nC rfl ?_);refine rR (fA fH rfl rfl rfl ?_);refine rR (load1 aS rfl ‹_› ?_);refine rR (aCr st68 ?_);refine aI rfl ?_;refine aI rfl ?_;refine rR (aCQ con68 rfl ?_);refine RunVC.panicI rfl ?_
  exact⟨rfl,o0⟩
 | cons t r =>
  have hx:(t::r)[0]?=some t:=rfl;have hln:(t::r).length=r.length+1:=rfl;refine rR (nC rfl ?_);refine rR (fA fH rfl rfl rfl ?_);refine rR (load1 eM rfl ‹_› ?_);refine rR (aCJ hA fI ?_);refine aCV (fun hc=>absurd hc (by omega)) (fun c24=>?_);refine rR (nC rfl ?_);refine rR (fA fH rfl rfl rfl ?_);refine rR (load1 eM rfl ‹_› ?_);refine rR (aCt fI bB hA rfl (by omega) (by omega) ?_);refine rR (aCB hA (by omega) eP rfl rfl rfl ?_);refine rR (aCH hA aS (fun _=>rfl) rfl ‹_› rfl ?_);refine rR (aCr st68 ?_);refine aI rfl ?_;refine aI rfl ?_;refine rR (aCQ con68 rfl ?_);refine RunVC.panicI rfl ?_
  exact⟨rfl,o0⟩
theorem wU:∀(ss:List aBs)(ts:List Tok),ts.length<ss.length→bC ss ts=false
 | [],_,h=>absurd h (Nat.not_lt_zero _)
 | _::_,[],_=>rfl
 | s::ss,t::ts,h=>by
  rw[bC,wU ss ts (by simpa using h),Bool.and_false]
theorem seesB_step {ss:List aBs}{ts:List Tok}{i:Nat}{s:aBs}{t:Tok}(hs:ss[i]?=some s)(ht:ts[i]?=some t):bC (ss.drop i) (ts.drop i)=(dH t s&&bC (ss.drop (i+1)) (ts.drop (i+1))):=by
 obtain⟨h1,rfl⟩:=aC9.1 hs
 obtain⟨h2,rfl⟩:=aC9.1 ht
 rw[aDi h1,aDi h2,bC]
theorem bL (ss:List aBs)(vs:Value)(bp:Nat)(w:Value)(ts:List Tok)(h:Heap)(h0:aY h ⟨bp,0,none⟩=some w)(hA:dF 4 h w ts.length (ts.flatMap qK))(hS:Arr h vs (strs ss))(hl:ts.length≤5000) :
  bZ Tryz.prog 111 [.pointer (some ⟨bp,0,none⟩),vs] h fun v h'=>v=.bool (bC ss ts)∧Own h [] h':=by
 refine aC1 Tryz.func111 rfl Tryz.ntmps111 (by kernel_rfl) ?_;have o0:=Own.refl h;by_cases hlt:ts.length<ss.length
 ·rw[wU ss ts hlt]
  have hsl:(strs ss).length=ss.length:=by simp[strs]
  refine rR (nC rfl ?_);refine rR (fA fH rfl rfl rfl ?_);refine rR (load1 eM rfl ‹_› ?_);refine rR (aCJ hA fI ?_);refine rR (aCI hS ‹_› aK ?_);refine aCV (fun c15=>?_) (fun hc=>absurd (by omega) hc);refine aC3 rfl ?_
  exact⟨rfl,o0⟩
 have hsl:(strs ss).length=ss.length:=by simp[strs]
 refine rR (nC rfl ?_);refine rR (fA fH rfl rfl rfl ?_);refine rR (load1 eM rfl ‹_› ?_);refine rR (aCJ hA fI ?_);refine rR (aCI hS ‹_› aK ?_);refine aCV (fun hc=>absurd hc (by omega)) (fun c25=>?_);refine rR (aCI hS ‹_› aK ?_);refine aC5 [4,5,6,7,18,19,20,21,22,23,24,25,26,27,28,29,30,31,32,33,34,35,36,37,38,39,40,41,42,43,44] [18] (fun vs hh=>∃(i:Nat),i≤ss.length∧vs=[.int .i64 i]∧bC (ss.drop i) (ts.drop i)=bC ss ts∧Own h [] hh) (fun vs _=>match vs with|[.int _ i]=>ss.length - i.toNat|_=>0) ?_ ?_
 ·exact⟨0,by omega,rfl,rfl,o0⟩
 ·rintro vs junk hh ⟨i,hi,rfl,hE,oh⟩
  by_cases hlt2:i<ss.length
  ·obtain⟨s,hs⟩:=getx hlt2
   obtain⟨t,ht⟩:=getx (show i<ts.length by omega)
   have hss:(strs ss)[i]?=some (.string ⟨⟨s⟩⟩):=by simp[strs,hs]
   rw[seesB_step hs ht]at hE
   by_cases hw:t.text=s
   ·by_cases hk:t.kind=1∨t.kind=4
    ·have hb:dH t s=true:=decide_eq_true ⟨hw,hk⟩
     rw[hb,Bool.true_and]at hE
     refine aCV (fun c30=>?_) (fun hc=>absurd (by omega) hc);refine rR (idx aK aL (hS.ext oh.ext) rfl (by omega) (by omega) ?_);refine rR (aCK (hS.ext oh.ext) aL rfl (by first|assumption|rfl) ?_);refine rR (nC rfl ?_);refine rR (fA fH rfl rfl rfl ?_);refine rR (load1 eM rfl (oh.old h0) ?_);refine rR (aCt fI bB (hA.ext oh.ext) rfl (by omega) (by omega) ?_);refine rR (aCv bB (hA.ext oh.ext) (fun _=>rfl) (by decide) rfl ‹_› ?_);(refine aCT oh bB ?_;intro b38 m38 o38);(refine aCl o38 0 rfl bB rfl (by decide) (aI ⟨rfl,rfl⟩ ?_);intro m39 o39);refine rR (fA eP rfl rfl rfl ?_);refine rR (aCi o39 0 rfl aL rfl rfl ?_);refine aCn (fun hc=>absurd (by first|omega|assumption|decide|exact rfl) hc) (fun c42=>?_);refine rR (fA eP rfl rfl rfl ?_);refine rR (aCi o39 0 rfl aS rfl rfl ?_);refine aCn (fun c45=>?_) (fun c45=>?_);refine rR (fA eP rfl rfl rfl ?_);refine rR (aCi o39 0 rfl aS rfl rfl ?_);refine aCn (fun hc=>absurd (by first|omega|assumption|decide|exact rfl) hc) (fun c48=>?_);refine aC2 (by omega) (by omega) ?_
     refine⟨rfl,?_⟩
     rotate_left
     refine aCX ?_;refine aC2 (by omega) (by omega) ?_
     refine⟨rfl,?_⟩
     all_goals exact⟨⟨i+1,by omega,rfl,hE,Own.sel ‹_› [] rfl⟩,by simp;omega⟩
    ·have hb:dH t s=false:=decide_eq_false (fun e=>hk e.2)
     rw[hb,Bool.false_and]at hE
     rw[← hE]
     refine aCV (fun c50=>?_) (fun hc=>absurd (by omega) hc);refine rR (idx aK aL (hS.ext oh.ext) rfl (by omega) (by omega) ?_);refine rR (aCK (hS.ext oh.ext) aL rfl (by first|assumption|rfl) ?_);refine rR (nC rfl ?_);refine rR (fA fH rfl rfl rfl ?_);refine rR (load1 eM rfl (oh.old h0) ?_);refine rR (aCt fI bB (hA.ext oh.ext) rfl (by omega) (by omega) ?_);refine rR (aCv bB (hA.ext oh.ext) (fun _=>rfl) (by decide) rfl ‹_› ?_);(refine aCT oh bB ?_;intro b58 m58 o58);(refine aCl o58 0 rfl bB rfl (by decide) (aI ⟨rfl,rfl⟩ ?_);intro m59 o59);refine rR (fA eP rfl rfl rfl ?_);refine rR (aCi o59 0 rfl aL rfl rfl ?_);refine aCn (fun hc=>absurd (by first|omega|assumption|decide|exact rfl) hc) (fun c62=>?_);refine rR (fA eP rfl rfl rfl ?_);refine rR (aCi o59 0 rfl aS rfl rfl ?_);refine aCn (fun c65=>?_) (fun hc=>absurd hc (by first|omega|assumption|decide|exact rfl));refine rR (fA eP rfl rfl rfl ?_);refine rR (aCi o59 0 rfl aS rfl rfl ?_);refine aCn (fun c68=>?_) (fun hc=>absurd hc (by first|omega|assumption|decide|exact rfl));refine aC3 rfl ?_
     exact⟨rfl,Own.sel ‹_› [] rfl⟩
   ·have hb:dH t s=false:=decide_eq_false (fun e=>hw e.1)
    rw[hb,Bool.false_and]at hE
    rw[← hE]
    refine aCV (fun c70=>?_) (fun hc=>absurd (by omega) hc);refine rR (idx aK aL (hS.ext oh.ext) rfl (by omega) (by omega) ?_);refine rR (aCK (hS.ext oh.ext) aL rfl (by first|assumption|rfl) ?_);refine rR (nC rfl ?_);refine rR (fA fH rfl rfl rfl ?_);refine rR (load1 eM rfl (oh.old h0) ?_);refine rR (aCt fI bB (hA.ext oh.ext) rfl (by omega) (by omega) ?_);refine rR (aCv bB (hA.ext oh.ext) (fun _=>rfl) (by decide) rfl ‹_› ?_);(refine aCT oh bB ?_;intro b78 m78 o78);(refine aCl o78 0 rfl bB rfl (by decide) (aI ⟨rfl,rfl⟩ ?_);intro m79 o79);refine rR (fA eP rfl rfl rfl ?_);refine rR (aCi o79 0 rfl aL rfl rfl ?_);refine aCn (fun c82=>?_) (fun hc=>absurd hc (by first|omega|assumption|decide|exact rfl));refine aCW ?_;refine aC3 rfl ?_
    exact⟨rfl,Own.sel ‹_› [] rfl⟩
  ·have hb:ss.drop i=[]:=aDu (by omega)
   rw[hb]at hE
   rw[← hE]
   refine aCV (fun hc=>absurd hc (by omega)) (fun c90=>?_);refine aC3 rfl ?_
   exact⟨rfl,oh⟩
theorem cJ.tail {tk:Item}{v:Value}{t:Tok}{r:List Tok}(a:Reads tk 4 v ((t::r).length - 1) (((t::r).flatMap qK).drop 4))(k:TokOK (t::r)):cJ tk v r:=⟨a,fun x hx=>k x (aDX _ hx)⟩
def rX (B:Base)(v:Value)(ss:List aBs):Prop:=∀ L h,Own B L h→Arr h v (strs ss)
theorem cD (s:aBs):PSpec 104 (fun bp=>[.pointer (some ⟨bp,0,none⟩),.string ⟨⟨s⟩⟩]) (fun _=>cM s) (fun b v=>v=.bool b):=by
 intro B bp z tk w ts h o hR hl
 obtain⟨hR,hK⟩:=hR
 refine aC1 Tryz.func104 rfl Tryz.ntmps104 (by kernel_rfl) ?_;(refine aCS o aK aL rfl rfl (by decide) (aI rfl ?_);intro b10 m10 o10);refine aCZ (bL [s] _ bp w ts _ (Own.cellB ‹_› 0 rfl 0) (Own.reads ‹_› 1 hR rfl) (Own.boxArr ‹_› 2 rfl rfl (by decide)) hl) ?_;rintro _ h1 ⟨rfl,oc⟩;have o1:=oc.thenE ‹_›;clear oc;cases hb:bC [s] ts with
 | false =>
  refine aCW ?_;refine aC3 rfl ?_
  exact⟨false,ts,w,kA hb,rfl,aDj _,⟨hR,hK⟩,Own.sel ‹_› [0,1] rfl⟩
 | true =>
  have ht:=kU hb;cases ts with
  | nil=>cases hb
  | cons t r =>
   have hln:(t::r).length=r.length+1:=rfl;refine aCX ?_;refine rR (nC rfl ?_);refine rR (fA fH rfl rfl rfl ?_);refine rR (aCi o1 0 rfl eM rfl rfl ?_);(refine rR (sliceTok fI bB hR (o1.satK 1 rfl) rfl (by omega) (by omega) ?_);intro v33 a33);refine rR (nC rfl ?_);refine rR (fA fH rfl rfl rfl ?_)
   obtain⟨va,vc,rfl⟩:=Reads.isS ‹_› (Own.satK o1 1 rfl)
   (refine aCR o1 0 rfl eM rfl (by simp) (aI ⟨rfl,rfl⟩ ?_);intro m40 o40);refine aC3 rfl ?_
   exact⟨true,r,_,ht,rfl,by omega,cJ.tail ‹_› hK,Own.sel ‹_› [0,1] rfl⟩
theorem tD (k:Int):PSpec 105 (fun bp=>[.pointer (some ⟨bp,0,none⟩),.int .i64 k]) (fun z=>fP z k) (fun t v=>v=.agg ⟨qK t⟩∧0≤t.num∧t.num≤10000000000):=by
 intro B bp z tk w ts h o hR hl
 obtain⟨hR,hK⟩:=hR
 refine aC1 Tryz.func105 rfl Tryz.ntmps105 (by kernel_rfl) ?_;cases ts with
 | nil =>
  (refine aCT o bB ?_;intro b10 m10 o10);refine rR (nC rfl ?_);refine rR (fA fH rfl rfl rfl ?_);refine rR (aCi o10 0 rfl eM rfl rfl ?_);refine rR (aCJ (o10.reads 1 hR rfl) fI ?_);refine aCW ?_;refine aCW ?_;refine aC0 (kV 4 bp z w [] _ (Own.cellB ‹_› 0 rfl 0) (Own.cellB ‹_› 0 rfl 1) (Own.reads ‹_› 1 hR rfl)) (fun _ _ h=>h.elim) (fun c h4 ⟨hc,ho⟩=>?_)
  exact⟨(7,z),w,rfl,hc,(ho.thenE ‹_›).sel [0,1] rfl⟩
 | cons t r =>
  have hx:(t::r)[0]?=some t:=rfl;have hln:(t::r).length=r.length+1:=rfl;by_cases hk:t.kind=k
  ·have hm:fP z k (t::r)=.ok (t,r):=if_pos hk
   (refine aCT o bB ?_;intro b30 m30 o30);refine rR (nC rfl ?_);refine rR (fA fH rfl rfl rfl ?_);refine rR (aCi o30 0 rfl eM rfl rfl ?_);refine rR (aCJ (o30.reads 1 hR rfl) fI ?_);refine aCV (fun hc=>absurd hc (by omega)) (fun c35=>?_);refine rR (nC rfl ?_);refine rR (fA fH rfl rfl rfl ?_);refine rR (aCi o30 0 rfl eM rfl rfl ?_);refine rR (aCt fI bB (o30.reads 1 hR rfl) rfl (by omega) (by omega) ?_);refine rR (aCB (o30.reads 1 hR rfl) (by omega) eP rfl rfl rfl ?_);refine rR (aCH (o30.reads 1 hR rfl) aS (fun _=>rfl) rfl ‹_› rfl ?_);refine aCn (fun hc=>absurd (by first|omega|assumption|decide|exact rfl) hc) (fun c42=>?_);refine rR (nC rfl ?_);refine rR (fA fH rfl rfl rfl ?_);refine rR (aCi o30 0 rfl eM rfl rfl ?_);refine rR (aCt fI bB (o30.reads 1 hR rfl) rfl (by omega) (by omega) ?_);refine rR (aCv bB (o30.reads 1 hR rfl) (fun _=>rfl) (by decide) rfl ‹_› ?_);(refine aCT o30 bB ?_;intro b48 m48 o48);(refine aCl o48 3 rfl bB rfl (by decide) (aI ⟨rfl,rfl⟩ ?_);intro m49 o49);refine rR (nC rfl ?_);refine rR (fA fH rfl rfl rfl ?_);refine rR (aCi o49 0 rfl eM rfl rfl ?_);(refine rR (sliceTok fI bB hR (o49.satK 1 rfl) rfl (by omega) (by omega) ?_);intro v53 a53);refine rR (nC rfl ?_);refine rR (fA fH rfl rfl rfl ?_)
   obtain⟨va,vc,rfl⟩:=Reads.isS ‹_› (Own.satK o 1 rfl)
   (refine aCR o49 0 rfl eM rfl (by simp) (aI ⟨rfl,rfl⟩ ?_);intro m60 o60);refine rR (aCm o60 3 rfl bB rfl rfl rfl ?_);(refine aCl o60 2 rfl bB rfl (by decide) (aI ⟨rfl,rfl⟩ ?_);intro m62 o62)
   first|refine aCy rfl o62 2 rfl bB rfl rfl ?_|refine aCx rfl o62 2 rfl bB rfl rfl ?_|refine RetVC.cellTT rfl o62 2 rfl bB rfl rfl ?_
   exact⟨t,r,_,hm,⟨rfl,hK t (by simp)⟩,by omega,cJ.tail ‹_› hK,Own.sel ‹_› [0,1] rfl⟩
  ·have hm:fP z k (t::r)=.error (4,t.off):=if_neg hk
   (refine aCT o bB ?_;intro b70 m70 o70);refine rR (nC rfl ?_);refine rR (fA fH rfl rfl rfl ?_);refine rR (aCi o70 0 rfl eM rfl rfl ?_);refine rR (aCJ (o70.reads 1 hR rfl) fI ?_);refine aCV (fun hc=>absurd hc (by omega)) (fun c75=>?_);refine rR (nC rfl ?_);refine rR (fA fH rfl rfl rfl ?_);refine rR (aCi o70 0 rfl eM rfl rfl ?_);refine rR (aCt fI bB (o70.reads 1 hR rfl) rfl (by omega) (by omega) ?_);refine rR (aCB (o70.reads 1 hR rfl) (by omega) eP rfl rfl rfl ?_);refine rR (aCH (o70.reads 1 hR rfl) aS (fun _=>rfl) rfl ‹_› rfl ?_);refine aCn (fun c82=>?_) (fun hc=>absurd hc (by first|omega|assumption|decide|exact rfl));refine aC0 (kV 4 bp z w (t::r) _ (Own.cellB ‹_› 0 rfl 0) (Own.cellB ‹_› 0 rfl 1) (Own.reads ‹_› 1 hR rfl)) (fun _ _ h=>h.elim) (fun c h4 ⟨hc,ho⟩=>?_)
   exact⟨(4,t.off),w,hm,hc,(ho.thenE ‹_›).sel [0,1] rfl⟩
theorem needP_step {z:Nat}{ss:List aBs}{i:Nat}{s:aBs}(hs:ss[i]?=some s):aW z (ss.drop i)=(need1 z s >>= fun _=>aW z (ss.drop (i+1))):=by
 obtain⟨h1,rfl⟩:=aC9.1 hs
 rw[aDi h1]
 rfl
theorem oZ (z:Nat) {s:aBs}{ts r:List Tok}(h:cM s ts=.ok (true,r)):need1 z s ts=.ok ((),r):=aCj h
theorem need1_no (z:Nat) {s:aBs}{ts r:List Tok}(h:cM s ts=.ok (false,r)):need1 z s ts=.error (aA3 z 4 r):=aCj h
theorem cU (s:aBs)(ts:List Tok)(e:Int×Nat):cM s ts≠.error e:=by
 unfold cM;split<;>simp
theorem iJ {s:aBs}{ts r:List Tok}(h:cM s ts=.ok (false,r)):ts=r:=by
 unfold cM at h;split at h
 ·cases h
 ·injection h with h;injection h
theorem pneed_spec (ss:List aBs)(vs:Value)(B:Base)(bp z:Nat)(tk:Item)(w:Value)(ts:List Tok)(h:Heap)(hS:rX B vs ss)(o:Own B (PSt bp z w tk) h)(hR:cJ tk w ts)(hl:ts.length≤5000)(hsl:ss.length≤100) :
  Spec Tryz.prog 67 [.pointer (some ⟨bp,0,none⟩),vs] h (PEnd B bp z tk ts.length (aW z ss ts) (fun _ v=>v=.tuple ⟨[]⟩)):=by
 refine aC1 Tryz.func67 rfl Tryz.ntmps67 (by kernel_rfl) ?_;have hA:=hS _ _ o;have hln:(strs ss).length=ss.length:=by simp[strs]
 refine rR (aCI hA ‹_› aK ?_);refine aC5 [5,8,9,10,11,12,13,14,15,16,17,18] [8] (fun vs hh=>∃(i:Nat) (w':Value) (ts':List Tok),i≤ss.length∧vs=[.int .i64 i]∧ts'.length≤ts.length∧aW z (ss.drop i) ts'=aW z ss ts∧cJ tk w' ts'∧Own B (PSt bp z w' tk) hh) (fun vs _=>match vs with|[.int _ i]=>ss.length - i.toNat|_=>0) ?_ ?_
 ·exact⟨0,w,ts,by omega,rfl,aDj _,rfl,hR,o⟩
 ·rintro vs junk hh ⟨i,w',ts',hi,rfl,hle,hE,hR',oh⟩
  have hA:=hS _ _ oh;by_cases hlt:i<ss.length
  ·obtain⟨s,hs⟩:=getx hlt
   have hss:(strs ss)[i]?=some (.string ⟨⟨s⟩⟩):=by simp[strs,hs]
   rw[needP_step hs]at hE
   refine aCV (fun c20=>?_) (fun hc=>absurd (by omega) hc);refine rR (idx aK aL hA rfl (by omega) (by omega) ?_);refine rR (aCK hA aL rfl (by first|assumption|rfl) ?_)
   refine(cD s).call oh hR' (by omega) (fun a r w2 v h2 hm hv hle2 hR2 o2=>?_) (fun e w2 h2 hm o2=>?_)
   ·subst hv
    cases a with
    | true =>
     rw[aCj (oZ z hm)]at hE
     refine aCX ?_;refine aC2 (by omega) (by omega) ?_
     refine⟨rfl,?_⟩
     exact⟨⟨i+1,w2,r,by omega,rfl,by omega,hE,hR2,o2⟩,by simp;omega⟩
    | false =>
     obtain rfl:=iJ hm
     rw[aCk (need1_no z hm)]at hE
     refine aCW ?_;refine aC0 (kV 4 bp z w2 ts' _ (Own.cellB ‹_› 0 rfl 0) (Own.cellB ‹_› 0 rfl 1) (Own.reads ‹_› 1 hR2.1 rfl)) (fun _ _ h=>h.elim) (fun c h4 ⟨hc,ho⟩=>?_)
     exact⟨_,w2,hE.symm,hc,(ho.thenE o2).sel [0,1] rfl⟩
   ·exact absurd hm (cU s ts' e)
  ·have hd:ss.drop i=[]:=aDu (by omega)
   rw[hd]at hE
   refine aCV (fun hc=>absurd hc (by omega)) (fun c60=>?_);refine aC4 rfl ?_
   exact⟨(),ts',w',hE.symm,rfl,hle,hR',oh⟩
theorem cE:PSpec 56 (fun bp=>[.pointer (some ⟨bp,0,none⟩)]) (fun z=>cV z) (fun t v=>v=.string ⟨⟨t⟩⟩):=by
 intro B bp z tk w ts h o hR hl;refine aC1 Tryz.func56 rfl Tryz.ntmps56 (by kernel_rfl) ?_
 refine(tD 1).call o hR hl (fun a r w' v h' hm hv hle hR' o'=>?_) (fun e w' h' hm o'=>?_)
 ·obtain⟨rfl,hv⟩:=hv
  refine rR (fieldV eP rfl rfl rfl rfl ?_);refine aC3 rfl ?_
  exact⟨_,r,w',aCj hm,rfl,hle,hR',Own.sel ‹_› [0,1] rfl⟩
 ·exact⟨e,w',aCk hm,rfl,o'⟩
theorem bR:PSpec 109 (fun bp=>[.pointer (some ⟨bp,0,none⟩)]) (fun z=>lZ z) (fun n v=>v=.int .i64 n∧0≤n∧n≤10000000000):=by
 intro B bp z tk w ts h o hR hl;refine aC1 Tryz.func109 rfl Tryz.ntmps109 (by kernel_rfl) ?_
 refine(tD 2).call o hR hl (fun a r w' v h' hm hv hle hR' o'=>?_) (fun e w' h' hm o'=>?_)
 ·obtain⟨rfl,hv⟩:=hv
  refine rR (fieldV eP rfl rfl rfl rfl ?_);refine aC3 rfl ?_
  exact⟨_,r,w',aCj hm,⟨rfl,hv⟩,hle,hR',Own.sel ‹_› [0,1] rfl⟩
 ·exact⟨e,w',aCk hm,rfl,o'⟩
theorem wordP_step {z:Nat}{ss:List aBs}{i:Nat}{s:aBs}{k:Int}(hs:ss[i]?=some s):eE z (ss.drop i) k=(cM s >>= fun b=>if b=true then pure k else eE z (ss.drop (i+1)) (k+1)):=by
 obtain⟨h1,rfl⟩:=aC9.1 hs
 rw[aDi h1]
 rfl
theorem word1_spec (s:aBs)(pb:Nat)(B:Base)(bp z:Nat)(tk:Item)(w:Value)(ts:List Tok)(h:Heap)(o:Own B [box bp [w,.int .i64 z] 72,tk,box pb [.pointer (some ⟨bp,0,none⟩)] 70] h)(hR:cJ tk w ts)(hl:ts.length≤5000) :
  bZ Tryz.prog 103 [.string ⟨⟨s⟩⟩,.pointer (some ⟨pb,0,none⟩)] h fun v h'=>∃ b r w',cM s ts=.ok (b,r)∧v=.bool b∧r.length≤ts.length∧cJ tk w' r∧Own B [box bp [w',.int .i64 z] 72,tk,box pb [.pointer (some ⟨bp,0,none⟩)] 70] h':=by
 refine aC1 Tryz.func103 rfl Tryz.ntmps103 (by kernel_rfl) ?_;refine rR (aCi o 2 rfl kS rfl rfl ?_)
 refine(cD s).call (o.lend [0,1] [2] rfl) hR hl (fun a r w2 v h2 hm hv hle hR2 o2=>?_) (fun e w2 h2 hm o2=>?_)
 ·subst hv
  have o3:=o2.back;refine aC3 rfl ?_
  exact⟨a,r,w2,hm,rfl,hle,hR2,o3.sel [0,1,2] rfl⟩
 ·exact absurd hm (cU s ts e)
theorem indexW_spec (ss:List aBs)(vs:Value)(pb:Nat)(B:Base)(bp z:Nat)(tk:Item)(w:Value)(ts:List Tok)(h:Heap)(hS:rX B vs ss)(o:Own B [box bp [w,.int .i64 z] 72,tk,box pb [.pointer (some ⟨bp,0,none⟩)] 70] h)(hR:cJ tk w ts)(hl:ts.length≤5000)(hsl:ss.length≤100) :
  bZ Tryz.prog 102 [vs,.func (.func 103) ⟨[]⟩ ⟨[.pointer (some ⟨pb,0,none⟩)]⟩] h fun v h'=>∃(j:Int) (r:List Tok) (w':Value),v=.int .i64 j∧r.length≤ts.length∧cJ tk w' r ∧
   ((0≤j∧j≤100∧eE z ss 1 ts=.ok (j+1,r))∨(j=-1∧eE z ss 1 ts=.error (aA3 z 4 r)))∧Own B [box bp [w',.int .i64 z] 72,tk,box pb [.pointer (some ⟨bp,0,none⟩)] 70] h':=by
 refine aC1 Tryz.func102 rfl Tryz.ntmps102 (by kernel_rfl) ?_;have hA:=hS _ _ o;have hln:(strs ss).length=ss.length:=by simp[strs]
 refine rR (aCI hA ‹_› aK ?_);refine aC5 [4,5,8,9,10,11,12,13,14,15,16,17,18] [8] (fun vs hh=>∃(i:Nat) (w':Value),i≤ss.length∧vs=[.int .i64 i]∧eE z (ss.drop i) (i+1) ts=eE z ss 1 ts∧cJ tk w' ts∧Own B [box bp [w',.int .i64 z] 72,tk,box pb [.pointer (some ⟨bp,0,none⟩)] 70] hh) (fun vs _=>match vs with|[.int _ i]=>ss.length - i.toNat|_=>0) ?_ ?_
 ·exact⟨0,w,by omega,rfl,rfl,hR,o⟩
 ·rintro vs' junk hh ⟨i,w',hi,rfl,hE,hR',oh⟩
  have hA:=hS _ _ oh;by_cases hlt:i<ss.length
  ·obtain⟨s,hs⟩:=getx hlt
   have hss:(strs ss)[i]?=some (.string ⟨⟨s⟩⟩):=by simp[strs,hs]
   rw[wordP_step hs]at hE
   refine aCV (fun c20=>?_) (fun hc=>absurd (by omega) hc);refine aC6 ?_;refine rR (idx aK aL hA rfl (by omega) (by omega) ?_);refine rR (aCK hA aL rfl (by first|assumption|rfl) ?_);refine aCZ (word1_spec s pb B bp z tk w' ts _ oh hR' hl) ?_;rintro _ h2 ⟨b,r,w2,hm,rfl,hle,hR2,o2⟩
   rw[aCj hm]at hE
   cases b with
   | true =>
    refine aCW ?_;refine aC3 rfl ?_
    exact⟨i,r,w2,rfl,hle,hR2,.inl ⟨by omega,by omega,hE.symm⟩,o2⟩
   | false =>
    obtain rfl:=iJ hm;refine aCX ?_;refine aC2 (by omega) (by omega) ?_
    refine⟨rfl,?_⟩
    exact⟨⟨i+1,w2,by omega,rfl,hE,hR2,o2⟩,by simp;omega⟩
  ·have hd:ss.drop i=[]:=aDu (by omega)
   rw[hd]at hE
   refine aCV (fun hc=>absurd hc (by omega)) (fun c60=>?_);refine aC3 rfl ?_
   exact⟨-1,ts,w',rfl,aDj _,hR',.inr ⟨rfl,hE.symm⟩,oh⟩
theorem zL (ss:List aBs)(vs:Value)(B:Base)(bp z:Nat)(tk:Item)(w:Value)(ts:List Tok)(h:Heap)(hS:rX B vs ss)(o:Own B (PSt bp z w tk) h)(hR:cJ tk w ts)(hl:ts.length≤5000)(hsl:ss.length≤100) :
  Spec Tryz.prog 55 [.pointer (some ⟨bp,0,none⟩),vs] h (PEnd B bp z tk ts.length (eE z ss 1 ts) (fun i v=>v=.int .i64 i)):=by
 refine aC1 Tryz.func55 rfl Tryz.ntmps55 (by kernel_rfl) ?_;(refine aCw o rfl ?_;intro b10 m10 o10);refine rR (aCD ?_);refine aCZ (indexW_spec ss vs b10 B bp z tk w ts _ hS ‹_› hR hl hsl) ?_;rintro _ h2 ⟨j,r,w2,rfl,hle,hR2,hj,o2⟩
 rcases hj with ⟨hj0,hj1,hm⟩|⟨rfl,hm⟩
 ·refine aCV (fun hc=>absurd hc (by omega)) (fun c20=>?_)
  refine aC2 (by omega) (by omega) ?_;refine aC3 rfl ?_
  exact⟨j+1,r,w2,hm,rfl,hle,hR2,o2.sel [0,1] rfl⟩
 ·refine aCW ?_
  refine rR (aCi o2 2 rfl kS rfl rfl ?_);refine aC0 (kV 4 bp z w2 r _ (Own.cellB ‹_› 0 rfl 0) (Own.cellB ‹_› 0 rfl 1) (Own.reads ‹_› 1 hR2.1 rfl)) (fun _ _ h=>h.elim) (fun c h4 ⟨hc,ho⟩=>?_)
  exact⟨_,w2,hm,hc,(ho.thenE o2).sel [0,1] rfl⟩
end Go.Proofs.YtohlogbnpfofpaaGreatDoor
