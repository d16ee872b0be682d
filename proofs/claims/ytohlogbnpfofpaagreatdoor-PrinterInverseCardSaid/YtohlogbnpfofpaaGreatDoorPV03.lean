/- Part 3 of the proof of inverse: Shelf, Dec, FnLexB, FnLexN, FnLexNum, FnLexS, FnLexQ, FnLexD, FnLex, FnPm, FnPa, FnPb, FnPc. -/
import Derived.Shelf.Strconv.Atoi
import Derived.Shelf.Small.Strs
import Derived.Shelf.Strings.Prefix
import Derived.Shelf.Strings.Search1
import Derived.Ground.Names2Prog
import Derived.Shelf.Strings.Count
import Derived.Shelf.LaysM
import Derived.Shelf.LaysC
import Derived.Shelf.Strconv.Itoa3
import Derived.Shelf.Strings.Builder1
import Derived.Test.YtohlogbnpfofpaaGreatDoorProg
import Derived.Lib.ItoaMem
import Derived.Lib.AtoiErrMem
import Derived.Test.YtohlogbnpfofpaaGreatDoorPV02
set_option linter.all false
set_option maxHeartbeats 100000000
set_option maxRecDepth 100000
namespace Go.Proofs.YtohlogbnpfofpaaGreatDoor
open Go Go.Proofs
open Go.Shelf
def Tryz.lays137_ren:Go.Shelf.Ren:=⟨fun|137=>99|217=>139|266=>157|n=>n,fun|9=>9|5=>5|3=>3|n=>n,fun|n=>n⟩
theorem Tryz.lays137:Go.Proofs.Lays.n137 Tryz.prog Tryz.lays137_ren:={
 mixed:=by kernel_rfl
 f137:=Tryz.func99.trans (congrArg some (by kernel_rfl))
 f217:=Tryz.func139.trans (congrArg some (by kernel_rfl))
 f266:=Tryz.func157.trans (congrArg some (by kernel_rfl))
 t3:=Tryz.underlying3
 a3:=Tryz.isAgg3
 z3:=Tryz.sizeOf3
 v3:=Tryz.zeroValue3
 t5:=Tryz.underlying5
 a5:=Tryz.isAgg5
 z5:=Tryz.sizeOf5
 v5:=Tryz.zeroValue5
 t9:=Tryz.underlying9
 a9:=Tryz.isAgg9
 z9:=Tryz.sizeOf9
 v9:=Tryz.zeroValue9 }
open Go.RowKit in
theorem Tryz.strings_IndexByte (s:ByteArray)(c:Int)(w:World) :
  Calls Tryz.prog 99 #[.string s,.int .u8 c] w fun e w'=>e=.returned (.int .i64 (Lib.indexByte s.data.toList c.toNat.toUInt8))∧w'=w:=Any.strings_IndexByte Tryz.lays137 s c w
def Tryz.lays172_ren:Go.Shelf.Ren:=⟨fun|172=>98|244=>137|245=>138|247=>152|279=>153|280=>154|281=>155|282=>156|287=>169|316=>170|171=>150|205=>171|321=>177|322=>178|243=>167|246=>175|283=>185|284=>186|285=>187|286=>188|129=>196|317=>195|318=>197|319=>198|320=>199|337=>209|338=>210|n=>n,fun|9=>9|3=>3|75=>84|76=>120|4=>4|5=>5|167=>196|37=>52|0=>0|85=>197|2=>2|168=>199|53=>178|175=>223|46=>225|210=>227|127=>86|145=>236|143=>234|21=>21|171=>251|173=>254|212=>271|51=>208|20=>20|213=>272|232=>289|233=>290|80=>61|n=>n,fun|15=>2|16=>3|17=>5|18=>6|19=>7|n=>n⟩
theorem Tryz.lays172:Go.Proofs.Lays.n172 Tryz.prog Tryz.lays172_ren:={
 mixed:=by kernel_rfl
 f129:=Tryz.func196.trans (congrArg some (by kernel_rfl))
 f171:=Tryz.func150.trans (congrArg some (by kernel_rfl))
 f172:=Tryz.func98.trans (congrArg some (by kernel_rfl))
 f205:=Tryz.func171.trans (congrArg some (by kernel_rfl))
 f243:=Tryz.func167.trans (congrArg some (by kernel_rfl))
 f244:=Tryz.func137.trans (congrArg some (by kernel_rfl))
 f245:=Tryz.func138.trans (congrArg some (by kernel_rfl))
 f246:=Tryz.func175.trans (congrArg some (by kernel_rfl))
 f247:=Tryz.func152.trans (congrArg some (by kernel_rfl))
 f279:=Tryz.func153.trans (congrArg some (by kernel_rfl))
 f280:=Tryz.func154.trans (congrArg some (by kernel_rfl))
 f281:=Tryz.func155.trans (congrArg some (by kernel_rfl))
 f282:=Tryz.func156.trans (congrArg some (by kernel_rfl))
 f283:=Tryz.func185.trans (congrArg some (by kernel_rfl))
 f284:=Tryz.func186.trans (congrArg some (by kernel_rfl))
 f285:=Tryz.func187.trans (congrArg some (by kernel_rfl))
 f286:=Tryz.func188.trans (congrArg some (by kernel_rfl))
 f287:=Tryz.func169.trans (congrArg some (by kernel_rfl))
 f316:=Tryz.func170.trans (congrArg some (by kernel_rfl))
 f317:=Tryz.func195.trans (congrArg some (by kernel_rfl))
 f318:=Tryz.func197.trans (congrArg some (by kernel_rfl))
 f319:=Tryz.func198.trans (congrArg some (by kernel_rfl))
 f320:=Tryz.func199.trans (congrArg some (by kernel_rfl))
 f321:=Tryz.func177.trans (congrArg some (by kernel_rfl))
 f322:=Tryz.func178.trans (congrArg some (by kernel_rfl))
 f337:=Tryz.func209.trans (congrArg some (by kernel_rfl))
 f338:=Tryz.func210.trans (congrArg some (by kernel_rfl))
 t0:=Tryz.underlying0
 a0:=Tryz.isAgg0
 z0:=Tryz.sizeOf0
 v0:=Tryz.zeroValue0
 t2:=Tryz.underlying2
 a2:=Tryz.isAgg2
 z2:=Tryz.sizeOf2
 v2:=Tryz.zeroValue2
 t3:=Tryz.underlying3
 a3:=Tryz.isAgg3
 z3:=Tryz.sizeOf3
 v3:=Tryz.zeroValue3
 t4:=Tryz.underlying4
 a4:=Tryz.isAgg4
 z4:=Tryz.sizeOf4
 v4:=Tryz.zeroValue4
 t5:=Tryz.underlying5
 a5:=Tryz.isAgg5
 z5:=Tryz.sizeOf5
 v5:=Tryz.zeroValue5
 t9:=Tryz.underlying9
 a9:=Tryz.isAgg9
 z9:=Tryz.sizeOf9
 v9:=Tryz.zeroValue9
 t20:=Tryz.underlying20
 a20:=Tryz.isAgg20
 z20:=Tryz.sizeOf20
 v20:=Tryz.zeroValue20
 t21:=Tryz.underlying21
 a21:=Tryz.isAgg21
 z21:=Tryz.sizeOf21
 v21:=Tryz.zeroValue21
 t37:=Tryz.underlying52
 a37:=Tryz.isAgg52
 z37:=Tryz.sizeOf52
 v37:=Tryz.zeroValue52
 t46:=Tryz.underlying225
 a46:=Tryz.isAgg225
 z46:=Tryz.sizeOf225
 v46:=Tryz.zeroValue225
 t51:=Tryz.underlying208
 a51:=Tryz.isAgg208
 z51:=Tryz.sizeOf208
 v51:=Tryz.zeroValue208
 t53:=Tryz.underlying178
 a53:=Tryz.isAgg178
 z53:=Tryz.sizeOf178
 v53:=Tryz.zeroValue178
 t75:=Tryz.underlying84
 a75:=Tryz.isAgg84
 z75:=Tryz.sizeOf84
 v75:=Tryz.zeroValue84
 t76:=Tryz.underlying120
 a76:=Tryz.isAgg120
 z76:=Tryz.sizeOf120
 v76:=Tryz.zeroValue120
 t85:=Tryz.underlying197
 a85:=Tryz.isAgg197
 z85:=Tryz.sizeOf197
 v85:=Tryz.zeroValue197
 t127:=Tryz.underlying86
 a127:=Tryz.isAgg86
 z127:=Tryz.sizeOf86
 v127:=Tryz.zeroValue86
 t143:=Tryz.underlying234
 a143:=Tryz.isAgg234
 z143:=Tryz.sizeOf234
 v143:=Tryz.zeroValue234
 t145:=Tryz.underlying236
 a145:=Tryz.isAgg236
 z145:=Tryz.sizeOf236
 v145:=Tryz.zeroValue236
 t167:=Tryz.underlying196
 a167:=Tryz.isAgg196
 z167:=Tryz.sizeOf196
 v167:=Tryz.zeroValue196
 t168:=Tryz.underlying199
 a168:=Tryz.isAgg199
 z168:=Tryz.sizeOf199
 v168:=Tryz.zeroValue199
 t171:=Tryz.underlying251
 a171:=Tryz.isAgg251
 z171:=Tryz.sizeOf251
 v171:=Tryz.zeroValue251
 t173:=Tryz.underlying254
 a173:=Tryz.isAgg254
 z173:=Tryz.sizeOf254
 v173:=Tryz.zeroValue254
 t175:=Tryz.underlying223
 a175:=Tryz.isAgg223
 z175:=Tryz.sizeOf223
 v175:=Tryz.zeroValue223
 t210:=Tryz.underlying227
 a210:=Tryz.isAgg227
 z210:=Tryz.sizeOf227
 v210:=Tryz.zeroValue227
 t212:=Tryz.underlying271
 a212:=Tryz.isAgg271
 z212:=Tryz.sizeOf271
 v212:=Tryz.zeroValue271
 t213:=Tryz.underlying272
 a213:=Tryz.isAgg272
 z213:=Tryz.sizeOf272
 t232:=Tryz.underlying289
 a232:=Tryz.isAgg289
 z232:=Tryz.sizeOf289
 v232:=Tryz.zeroValue289
 t233:=Tryz.underlying290
 a233:=Tryz.isAgg290
 z233:=Tryz.sizeOf290
 v233:=Tryz.zeroValue290
 g15:=by kernel_rfl
 g16:=by kernel_rfl
 g17:=by kernel_rfl
 g18:=by kernel_rfl
 g19:=by kernel_rfl }
open Go.RowKit in
theorem Tryz.strconv_Atoi (s:ByteArray)(n:Int)(hl:s.size≤18)(h:Lib.atoi s.data.toList=some n)(w:World) :
  Calls Tryz.prog 98 #[.string s] w fun e w'=>e=.returned (.tuple #[.int .i64 n,.nilIface])∧∃ t,w'=Lib.bytesWorld w 5 t:=Any.strconv_Atoi Tryz.lays172 s n hl h w
def Tryz.laysM171_ren:Go.Shelf.Ren:=⟨fun|171=>150|243=>167|246=>175|283=>185|284=>186|285=>187|286=>188|129=>196|317=>195|318=>197|319=>198|320=>199|337=>209|338=>210|n=>n,fun|3=>3|9=>9|2=>2|4=>4|171=>251|0=>0|53=>178|37=>52|5=>5|173=>254|212=>271|51=>208|20=>20|213=>272|46=>225|232=>289|233=>290|n=>n,fun|17=>5|18=>6|19=>7|n=>n⟩
theorem Tryz.laysM171:Go.Proofs.LaysM.n171 Tryz.prog Tryz.laysM171_ren:={
 mixed:=by kernel_rfl
 f129:=Tryz.func196.trans (congrArg some (by kernel_rfl))
 f171:=Tryz.func150.trans (congrArg some (by kernel_rfl))
 f243:=Tryz.func167.trans (congrArg some (by kernel_rfl))
 f246:=Tryz.func175.trans (congrArg some (by kernel_rfl))
 f283:=Tryz.func185.trans (congrArg some (by kernel_rfl))
 f284:=Tryz.func186.trans (congrArg some (by kernel_rfl))
 f285:=Tryz.func187.trans (congrArg some (by kernel_rfl))
 f286:=Tryz.func188.trans (congrArg some (by kernel_rfl))
 f317:=Tryz.func195.trans (congrArg some (by kernel_rfl))
 f318:=Tryz.func197.trans (congrArg some (by kernel_rfl))
 f319:=Tryz.func198.trans (congrArg some (by kernel_rfl))
 f320:=Tryz.func199.trans (congrArg some (by kernel_rfl))
 f337:=Tryz.func209.trans (congrArg some (by kernel_rfl))
 f338:=Tryz.func210.trans (congrArg some (by kernel_rfl))
 t0:=Tryz.underlying0
 a0:=Tryz.isAgg0
 z0:=Tryz.sizeOf0
 v0:=Tryz.zeroValue0
 t2:=Tryz.underlying2
 a2:=Tryz.isAgg2
 z2:=Tryz.sizeOf2
 v2:=Tryz.zeroValue2
 t3:=Tryz.underlying3
 a3:=Tryz.isAgg3
 z3:=Tryz.sizeOf3
 v3:=Tryz.zeroValue3
 t4:=Tryz.underlying4
 a4:=Tryz.isAgg4
 z4:=Tryz.sizeOf4
 v4:=Tryz.zeroValue4
 t5:=Tryz.underlying5
 a5:=Tryz.isAgg5
 z5:=Tryz.sizeOf5
 v5:=Tryz.zeroValue5
 t9:=Tryz.underlying9
 a9:=Tryz.isAgg9
 z9:=Tryz.sizeOf9
 v9:=Tryz.zeroValue9
 t20:=Tryz.underlying20
 a20:=Tryz.isAgg20
 z20:=Tryz.sizeOf20
 v20:=Tryz.zeroValue20
 t37:=Tryz.underlying52
 a37:=Tryz.isAgg52
 z37:=Tryz.sizeOf52
 v37:=Tryz.zeroValue52
 t46:=Tryz.underlying225
 a46:=Tryz.isAgg225
 z46:=Tryz.sizeOf225
 v46:=Tryz.zeroValue225
 t51:=Tryz.underlying208
 a51:=Tryz.isAgg208
 z51:=Tryz.sizeOf208
 v51:=Tryz.zeroValue208
 t53:=Tryz.underlying178
 a53:=Tryz.isAgg178
 z53:=Tryz.sizeOf178
 v53:=Tryz.zeroValue178
 t171:=Tryz.underlying251
 a171:=Tryz.isAgg251
 z171:=Tryz.sizeOf251
 v171:=Tryz.zeroValue251
 t173:=Tryz.underlying254
 a173:=Tryz.isAgg254
 z173:=Tryz.sizeOf254
 v173:=Tryz.zeroValue254
 t212:=Tryz.underlying271
 a212:=Tryz.isAgg271
 z212:=Tryz.sizeOf271
 v212:=Tryz.zeroValue271
 t213:=Tryz.underlying272
 a213:=Tryz.isAgg272
 z213:=Tryz.sizeOf272
 t232:=Tryz.underlying289
 a232:=Tryz.isAgg289
 z232:=Tryz.sizeOf289
 v232:=Tryz.zeroValue289
 t233:=Tryz.underlying290
 a233:=Tryz.isAgg290
 z233:=Tryz.sizeOf290
 v233:=Tryz.zeroValue290
 g17:=by kernel_rfl
 g18:=by kernel_rfl
 g19:=by kernel_rfl
 i0:=by kernel_rfl
 i2:=by kernel_rfl
 i3:=by kernel_rfl
 i4:=by kernel_rfl
 i5:=by kernel_rfl
 i9:=by kernel_rfl
 i20:=by kernel_rfl
 i37:=by kernel_rfl
 i46:=by kernel_rfl
 i51:=by kernel_rfl
 i53:=by kernel_rfl
 i171:=by kernel_rfl
 i173:=by kernel_rfl
 i212:=by kernel_rfl
 i232:=by kernel_rfl
 i233:=by kernel_rfl
 m17:=by kernel_rfl
 m18:=by kernel_rfl
 m19:=by kernel_rfl }
open Go.RowKit Go.Sort Go.Lib in
theorem Tryz.strconv_Itoa (n:Int)(h0:-9223372036854775808≤n)(h1:n≤9223372036854775807)(w:World)(htab:Lib.TabIs Tryz.prog w "internal/strconv.uint64pow10" .u64 Lib.pow10Tab) :
  Calls Tryz.prog 150 #[.int .i64 n] w fun e w'=>e=.returned (.string ⟨(Lib.itoa n).toArray⟩)∧∃ k os,w'=grow (w.drewN k) os:=Any.strconv_Itoa Tryz.laysM171 n h0 h1 w htab
def Tryz.lays138_ren:Go.Shelf.Ren:=⟨fun|138=>251|195=>252|218=>253|143=>254|219=>255|217=>139|225=>256|224=>257|267=>258|266=>157|314=>259|n=>n,fun|9=>9|3=>3|4=>4|5=>5|0=>0|46=>225|146=>320|51=>208|n=>n,fun|1=>4|n=>n⟩
theorem Tryz.lays138:Go.Proofs.Lays.n138 Tryz.prog Tryz.lays138_ren:={
 mixed:=by kernel_rfl
 f138:=Tryz.func251.trans (congrArg some (by kernel_rfl))
 f143:=Tryz.func254.trans (congrArg some (by kernel_rfl))
 f195:=Tryz.func252.trans (congrArg some (by kernel_rfl))
 f217:=Tryz.func139.trans (congrArg some (by kernel_rfl))
 f218:=Tryz.func253.trans (congrArg some (by kernel_rfl))
 f219:=Tryz.func255.trans (congrArg some (by kernel_rfl))
 f224:=Tryz.func257.trans (congrArg some (by kernel_rfl))
 f225:=Tryz.func256.trans (congrArg some (by kernel_rfl))
 f266:=Tryz.func157.trans (congrArg some (by kernel_rfl))
 f267:=Tryz.func258.trans (congrArg some (by kernel_rfl))
 f314:=Tryz.func259.trans (congrArg some (by kernel_rfl))
 t0:=Tryz.underlying0
 a0:=Tryz.isAgg0
 z0:=Tryz.sizeOf0
 v0:=Tryz.zeroValue0
 t3:=Tryz.underlying3
 a3:=Tryz.isAgg3
 z3:=Tryz.sizeOf3
 v3:=Tryz.zeroValue3
 t4:=Tryz.underlying4
 a4:=Tryz.isAgg4
 z4:=Tryz.sizeOf4
 v4:=Tryz.zeroValue4
 t5:=Tryz.underlying5
 a5:=Tryz.isAgg5
 z5:=Tryz.sizeOf5
 v5:=Tryz.zeroValue5
 t9:=Tryz.underlying9
 a9:=Tryz.isAgg9
 z9:=Tryz.sizeOf9
 v9:=Tryz.zeroValue9
 t46:=Tryz.underlying225
 a46:=Tryz.isAgg225
 z46:=Tryz.sizeOf225
 v46:=Tryz.zeroValue225
 t51:=Tryz.underlying208
 a51:=Tryz.isAgg208
 z51:=Tryz.sizeOf208
 v51:=Tryz.zeroValue208
 t146:=Tryz.underlying320
 a146:=Tryz.isAgg320
 z146:=Tryz.sizeOf320
 v146:=Tryz.zeroValue320
 g1:=by kernel_rfl }
open Go.RowKit Go.Lib in
theorem Tryz.strings_Count_one (s:ByteArray)(c:UInt8)(w:World) :
  Calls Tryz.prog 251 #[.string s,.string ⟨#[c]⟩] w fun e w'=>e=.returned (.int .i64 (Lib.countByte s.data.toList c))∧w'=w:=Any.strings_Count_one Tryz.lays138 s c w
def Tryz.lays99_ren:Go.Shelf.Ren:=⟨fun|99=>100|206=>140|n=>n,fun|9=>9|4=>4|3=>3|n=>n,fun|n=>n⟩
theorem Tryz.lays99:Go.Proofs.Lays.n99 Tryz.prog Tryz.lays99_ren:={
 mixed:=by kernel_rfl
 f99:=Tryz.func100.trans (congrArg some (by kernel_rfl))
 f206:=Tryz.func140.trans (congrArg some (by kernel_rfl))
 t3:=Tryz.underlying3
 a3:=Tryz.isAgg3
 z3:=Tryz.sizeOf3
 v3:=Tryz.zeroValue3
 t4:=Tryz.underlying4
 a4:=Tryz.isAgg4
 z4:=Tryz.sizeOf4
 v4:=Tryz.zeroValue4
 t9:=Tryz.underlying9
 a9:=Tryz.isAgg9
 z9:=Tryz.sizeOf9
 v9:=Tryz.zeroValue9 }
open Go.RowKit Go.Lib in
theorem Tryz.strings_HasPrefix (s p:ByteArray)(w:World) :
  Calls Tryz.prog 100 #[.string s,.string p] w fun e w'=>e=.returned (.bool (Lib.hasPrefix s.data.toList p.data.toList))∧w'=w:=Any.strings_HasPrefix Tryz.lays99 s p w
end Go.Proofs.YtohlogbnpfofpaaGreatDoor
namespace Go.Proofs.YtohlogbnpfofpaaGreatDoor
open Go StillVC
theorem oE {d:Nat}(h:d<10):(UInt8.ofNat (48+d)).toNat=48+d:=by
 rw[UInt8.toNat_ofNat'];omega
theorem dec_digits (u:Nat):∀ c∈Lib.decDigits u,48≤c.toNat∧c.toNat≤57:=by
 induction u using Nat.strongRecOn with
 | _ u ih =>
  intro c hc
  rw[Lib.decDigits]at hc
  split at hc
  ·rename_i h
   simp only[aDd]at hc;subst hc
   rw[oE h];omega
  ·rcases aDP.1 hc with hc|hc
   ·exact ih _ (by omega) c hc
   ·simp only[aDd]at hc;subst hc
    rw[oE (by omega)];omega
def undec (l:aBs):Nat:=l.foldl (fun n c=>n*10+(c.toNat - 48)) 0
theorem undec_dec (u:Nat):undec (Lib.decDigits u)=u:=by
 induction u using Nat.strongRecOn with
 | _ u ih =>
  rw[Lib.decDigits]
  split
  ·rename_i h
   simp only[undec,List.foldl_cons,List.foldl_nil,oE h];omega
  ·have:=ih (u / 10) (by omega)
   unfold undec at this ⊢
   rw[List.foldl_append,this]
   simp only[List.foldl_cons,List.foldl_nil,oE (show u % 10<10 by omega)];omega
theorem dec_ne_nil (u:Nat):Lib.decDigits u≠[]:=by
 intro h
 have:=Lib.decDigits_length u
 rw[h]at this
 rw[Lib.decDigits]at h
 split at h<;>simp at h
def cP (c:UInt8):Bool:=decide (97≤c.toNat∧c.toNat≤122∨65≤c.toNat∧c.toNat≤90)
def bU (c:UInt8):Bool:=decide (48≤c.toNat∧c.toNat≤57)
def cJ (c:UInt8):Bool:=cP c||bU c||decide (c.toNat=95)
theorem lowered:∀ n:Fin 256,(97≤bits .or .u8 (n.val:Int) 32∧bits .or .u8 (n.val:Int) 32≤122)↔(97≤n.val∧n.val≤122∨65≤n.val∧n.val≤90):=by decide +kernel
theorem letterB_iff (c:UInt8):cP c=true↔(97≤bits .or .u8 (c.toNat:Int) 32∧bits .or .u8 (c.toNat:Int) 32≤122):=by
 rw[lowered ⟨c.toNat,c.toNat_lt⟩]
 simp[cP]
theorem aAt (c:UInt8)(h:Heap):bZ Tryz.prog 97 [.int .u8 c.toNat] h fun r h'=>r=.bool (bU c)∧Own h [] h':=by
 refine aCV Tryz.func97 rfl Tryz.ntmps97 (by kernel_rfl) ?_;have o0:=Own.refl h;refine aCP (fun c10=>?_) (fun c10=>?_);refine aCX rfl ?_
 rotate_left
 refine aCX rfl ?_
 ·exact⟨congrArg Value.bool (decide_eq_false (by omega)).symm,o0⟩
 ·exact⟨congrArg Value.bool (decide_eq_decide.2 (by omega)),o0⟩
theorem xH (c:UInt8)(h:Heap):bZ Tryz.prog 94 [.int .u8 c.toNat] h fun r h'=>r=.bool (cP c)∧Own h [] h':=by
 have hl:=letterB_iff c;refine aCV Tryz.func94 rfl Tryz.ntmps94 (by kernel_rfl) ?_;have o0:=Own.refl h;refine rR (bit rfl rfl rfl ?_);refine aCP (fun c11=>?_) (fun c11=>?_);refine rR (bit rfl rfl rfl ?_);refine aCX rfl ?_
 rotate_left
 refine aCX rfl ?_
 ·refine⟨congrArg Value.bool ?_,o0⟩
  cases hb:cP c with
  | false=>rfl
  | true=>exact absurd (hl.1 hb).1 ‹_›
 ·refine⟨congrArg Value.bool ?_,o0⟩
  rw[Bool.eq_iff_iff,hl,decide_eq_true_iff]
  exact⟨fun e=>⟨by assumption,e⟩,fun e=>e.2⟩
theorem aAi (c:UInt8)(h:Heap):bZ Tryz.prog 96 [.int .u8 c.toNat] h fun r h'=>r=.bool (cJ c)∧Own h [] h':=by
 unfold cJ;refine aCV Tryz.func96 rfl Tryz.ntmps96 (by kernel_rfl) ?_;have o0:=Own.refl h;refine aCT (xH c _) ?_;rintro _ h1 ⟨rfl,oa⟩;have o1:=o0.ext' oa;cases hb:cP c with
 | true =>
  refine aCQ ?_;refine aCX rfl ?_
  exact⟨rfl,o1⟩
 | false =>
  refine aCR ?_;refine aCT (aAt c _) ?_;rintro _ h2 ⟨rfl,ob⟩;have o2:=o1.ext' ob;cases hd:bU c with
  | true =>
   refine aCQ ?_;refine aCX rfl ?_
   exact⟨rfl,o2⟩
  | false =>
   refine aCR ?_;refine aCX rfl ?_
   refine⟨congrArg Value.bool ?_,o2⟩
   simp only[Bool.or_self,Bool.false_or]
   exact decide_eq_decide.2 (by omega)
def jE (c:UInt8):Bool:=decide (c.toNat≠10)
theorem skip1_spec (c:UInt8)(h:Heap):bZ Tryz.prog 101 [.int .u8 c.toNat] h fun r h'=>r=.bool (jE c)∧Own h [] h':=by
 refine aCV Tryz.func101 rfl Tryz.ntmps101 (by kernel_rfl) ?_;have o0:=Own.refl h;refine aCX rfl ?_
 refine⟨congrArg Value.bool ?_,o0⟩
 unfold jE
 rw[← decide_not]
 exact decide_eq_decide.2 (by omega)
def bM (p:UInt8→Bool)(l:aBs):Nat:=(l.takeWhile p).length
theorem nB (p:UInt8→Bool)(l:aBs):bM p l≤l.length:=by
 unfold bM
 exact(List.takeWhile_sublist p).length_le
theorem rZ {p:UInt8→Bool}:∀ {l:aBs}{n:Nat},(∀ c∈l.take n,p c=true)→n≤l.length→(∀ c,l[n]?=some c→p c=false)→bM p l=n
 | [],n,_,hn,_=>by simp at hn;subst hn;rfl
 | c::l,0,_,_,h=>by
  have:=h c rfl
  unfold bM
  rw[aDu,this]
  rfl
 | c::l,n+1,ha,hn,h=>by
  have hc:=ha c (by simp);have ih:=rZ (p:=p) (l:=l) (n:=n) (fun d hd=>ha d (by simp[hd])) (by simpa using hn) (fun d hd=>h d (by simpa using hd));unfold bM at ih ⊢
  rw[aDu,hc,if_pos rfl,aDb,ih]
theorem tR (p:UInt8→Bool)(g:Nat)(cap:aVs)(b:Nat)(t:aBs)(i:Nat)(h:Heap)(hi:i≤t.length)(hl:t.length≤1000000)
  (h0:aY h ⟨b,0,none⟩=some (.string ⟨⟨t⟩⟩)) (h1:aY h ⟨b,1,none⟩=some (.int .i64 i))
  (hp:∀(c:UInt8) (h':Heap),Ext h h'→bZ Tryz.prog g (.int .u8 c.toNat::cap) h' fun r h''=>r=.bool (p c)∧Own h' [] h'') :
  bZ Tryz.prog 95 [.pointer (some ⟨b,0,none⟩),.func (.func g) ⟨[]⟩ ⟨cap⟩] h fun r h'=>r=.int .i64 (bM p (t.drop i))∧Own h [] h':=by
 refine aCV Tryz.func95 rfl Tryz.ntmps95 (by kernel_rfl) ?_;have o0:=Own.refl h;refine aCZ [5,6,7,8,9,10,11,12,13,14,15,16,17,18,19,20,21,22,23,24,25,26,27,28,29,30,31,32,33,34] [5] (fun vs hh=>∃(n:Nat),i+n≤t.length∧vs=[.int .i64 n]∧(∀ c∈(t.drop i).take n,p c=true)∧Own h [] hh) (fun vs _=>match vs with|[.int _ n]=>t.length - n.toNat|_=>0) ?_ ?_
 ·exact⟨0,by omega,rfl,by simp,o0⟩
 ·rintro vs junk hh ⟨n,hn,rfl,ha,oh⟩
  by_cases hlt:i+n<t.length
  ·obtain⟨c,hc⟩:=getx hlt
   have hc':(t.drop i)[n]?=some c:=by rw[aDC];exact hc
   refine aCS [0,1,2,4,5,6,7,8,10,11,12,13,14,15,16,18,19,20,22,23,24,26] [3,9,17,21] [25] [0,1,2,3,4,5,6,7,8,9,10,11,12,13,14,15,16,17,18,19,20,21,22,23,24,25,26] mixed (by kernel_rfl) rfl (fun _ _ _ _ h=>h) ?_;refine nC rfl ?_;refine fA dA rfl rfl rfl ?_;refine load1 aT rfl (oh.old h1) ?_;refine aCW (by omega) (by omega) ?_;refine nC rfl ?_;refine fA dA rfl rfl rfl ?_;refine load1 aL rfl (oh.old h0) ?_;refine aCy rfl cT ?_;refine aCP (fun c27=>?_) (fun hc=>absurd (by omega) hc);refine nC rfl ?_;refine fA dA rfl rfl rfl ?_;refine load1 aL rfl (oh.old h0) ?_;refine nC rfl ?_;refine fA dA rfl rfl rfl ?_;refine load1 aT rfl (oh.old h1) ?_;refine aCW (by omega) (by omega) ?_;refine aCu rfl rfl cT (by omega) ‹_› ?_;refine aCT (hp c _ (Own.ext ‹_›)) ?_;rintro _ h2 ⟨rfl,ob⟩;have o2:=oh.ext' ob;cases hb:p c with
   | true =>
    refine aCQ ?_;refine aCW (by omega) (by omega) ?_
    refine⟨rfl,?_⟩
    refine⟨⟨n+1,by omega,rfl,fun d hd=>?_,o2⟩,by simp;omega⟩
    rw[aDN,hc']at hd
    rcases aDP.1 hd with hd|hd
    ·exact ha d hd
    ·simp at hd;subst hd;exact hb
   | false =>
    have:bM p (t.drop i)=n:=rZ ha (by simp;omega) (fun d hd=>by rw[hc']at hd;cases hd;exact hb)
    rw[this]
    refine aCR ?_;refine aCX rfl ?_
    exact⟨rfl,o2⟩
  ·have:bM p (t.drop i)=n:=rZ ha (by simp;omega) (fun d hd=>by
    obtain⟨hd',_⟩:=aC6.1 hd
    simp at hd'
    omega)
   rw[this]
   refine aCS [0,1,2,4,5,6,7,8,10,11,12,13,14,15,16,18,19,20,22,23,24,26] [3,9,17,21] [25] [0,1,2,3,4,5,6,7,8,9,10,11,12,13,14,15,16,17,18,19,20,21,22,23,24,25,26] mixed (by kernel_rfl) rfl (fun _ _ _ _ h=>h) ?_;refine nC rfl ?_;refine fA dA rfl rfl rfl ?_;refine load1 aT rfl (oh.old h1) ?_;refine aCW (by omega) (by omega) ?_;refine nC rfl ?_;refine fA dA rfl rfl rfl ?_;refine load1 aL rfl (oh.old h0) ?_;refine aCy rfl cT ?_;refine aCP (fun hc=>absurd hc (by omega)) (fun c87=>?_);refine aCR ?_;refine aCX rfl ?_
   exact⟨rfl,oh⟩
def Ends (Post:Value→Heap→Prop)(Pan:List PanicEntry→Heap→Prop):Ending→Heap→Prop
 | .returned v,h=>Post v h
 | .panicked c,h=>Pan c h
 | .outgrown,_=>False
theorem StillVC.aCU {P:Program}{g:FuncId}{args s:aVs}{h:Heap}{K:KK}{Q:QQ}{Post:Value→Heap→Prop}{Pan:List PanicEntry→Heap→Prop}
  (sp:Spec P g args h (Ends Post Pan)) (hk:∀ v h',Post v h'→K v false h') (hq:∀ c h',Pan c h'→Q (.panic c) s h'):CallVC P g args s h K Q where
 spec:=⟨_,.inl sp,hk,hq,fun _ h=>h.elim⟩
def faultC (e:Int)(i:Nat):List PanicEntry:=[{ v:=.iface 102 (.agg ⟨[.int .i64 e,.int .i64 i]⟩),recovered:=false }]
inductive Rd where
 | tok (kind:Int) (text:aBs) (num:Int) (len:Nat)
 | none
 | err (e:Int)
def tokV (k:Int)(x:aBs)(n a:Int):Value:=.agg ⟨[.int .i64 k,.string ⟨⟨x⟩⟩,.int .i64 n,.int .i64 a]⟩
def RdE (h:Heap)(i:Nat)(r:Rd):Ending→Heap→Prop :=
 Ends (fun v h'=>(match r with
   | .tok k x n l=>v=.tuple ⟨[tokV k x n 0,.int .i64 l]⟩
   | .none=>∃ k x n a,v=.tuple ⟨[tokV k x n a,.int .i64 0]⟩
   | .err _=>False)∧Own h [] h')
  (fun c h'=>(match r with
   | .err e=>c=faultC e i
   | _=>False)∧Own h [] h')
theorem gT (e:Int)(b:Nat)(t:aBs)(i:Nat)(h:Heap)(h1:aY h ⟨b,1,none⟩=some (.int .i64 i)) :
  Spec Tryz.prog 54 [.pointer (some ⟨b,0,none⟩),.int .i64 e] h (Ends (fun _ _=>False) fun c h'=>c=faultC e i∧Own h [] h'):=by
 refine aCV Tryz.func54 rfl Tryz.ntmps54 (by kernel_rfl) ?_;have o0:=Own.refl h;refine rR (nC rfl ?_);refine rR (fA dA rfl rfl rfl ?_);refine rR (load1 aT rfl ‹_› ?_);refine rR (aCl st102 ?_);refine aI rfl ?_;refine aI rfl ?_;refine rR (aCK con102 rfl ?_);refine RunVC.panicI rfl ?_
 exact⟨rfl,o0⟩
def xC (l:aBs):Rd :=
 match l with
 | []=>.none
 | c::_=>if cP c=true then(if 24<bM cJ l then .err 3 else .tok 1 (l.take (bM cJ l)) 0 (bM cJ l)) else .none
theorem nameR_at {t:aBs}{i:Nat}{c:UInt8}(hc:t[i]?=some c):xC (t.drop i)=if cP c=true then(if 24<bM cJ (t.drop i) then .err 3 else .tok 1 ((t.drop i).take (bM cJ (t.drop i))) 0 (bM cJ (t.drop i))) else .none:=by
 obtain⟨hi,rfl⟩:=aC6.1 hc
 rw[aDf hi]
 rfl
theorem name_spec (b:Nat)(t:aBs)(i:Nat)(h:Heap)(hi:i<t.length)(hl:t.length≤1000000)
  (h0:aY h ⟨b,0,none⟩=some (.string ⟨⟨t⟩⟩)) (h1:aY h ⟨b,1,none⟩=some (.int .i64 i)) :
  Spec Tryz.prog 49 [.pointer (some ⟨b,0,none⟩)] h (RdE h i (xC (t.drop i))):=by
 obtain⟨c,hc⟩:=getx hi
 rw[nameR_at hc]
 have hsl:=nB cJ (t.drop i);have hdl:(t.drop i).length=t.length - i:=by simp
 refine aCV Tryz.func49 rfl Tryz.ntmps49 (by kernel_rfl) ?_;have o0:=Own.refl h;(refine aCN o0 bB ?_;intro b10 m10 o10);refine aCS [0,1,2,4,5,6,8,10] [3,7] [9] [0,1,2,3,4,5,6,7,8,9,10] mixed (by kernel_rfl) rfl (fun _ _ _ _ h=>h) ?_;refine nC rfl ?_;refine fA dA rfl rfl rfl ?_;refine load1 aL rfl (o10.old h0) ?_;refine nC rfl ?_;refine fA dA rfl rfl rfl ?_;refine load1 aT rfl (o10.old h1) ?_;refine aCu rfl rfl cT (by omega) ‹_› ?_;refine aCT (xH c _) ?_;rintro _ h2 ⟨rfl,oa⟩;have o2:=oa.thenE ‹_›;cases hb:cP c with
 | false =>
  rw[if_neg (by decide)]
  refine aCQ ?_;refine rR (aCl eN ?_);(refine aCf o2 0 rfl bB rfl (by decide) (aI ⟨rfl,rfl⟩ ?_);intro m21 o21)
  first|refine aCs rfl o21 0 rfl bB rfl rfl ?_|refine aCr rfl o21 0 rfl bB rfl rfl ?_|refine RetVC.cellTT rfl o21 0 rfl bB rfl rfl ?_
  exact⟨⟨0,[],0,0,rfl⟩,Own.sel ‹_› [] rfl⟩
 | true =>
  rw[if_pos rfl]
  refine aCR ?_;refine aCT (tR cJ 96 [] b t i _ (by omega) hl (o2.old h0) (o2.old h1) (fun d h' e=>aAi d h')) ?_;rintro _ h3 ⟨rfl,ob⟩;have o3:=ob.thenE ‹_›;by_cases hn:24<bM cJ (t.drop i)
  ·rw[if_pos hn]
   refine aCP (fun c60=>?_) (fun hc=>absurd (by omega) hc);exact aCU (gT 3 b t i _ (o3.old h1)) (fun _ _ h=>h.elim) (fun c h' ⟨hc,ho⟩=>⟨hc,(ho.thenE o3).sel [] rfl⟩)
  ·rw[if_neg hn]
   refine aCP (fun hc=>absurd hc (by omega)) (fun c80=>?_);refine aCS [0,1,2,4,5,6,8,9,10,12,13,14,15,16,18] [3,7,11] [17] [0,1,2,3,4,5,6,7,8,9,10,11,12,13,14,15,16,17,18] mixed (by kernel_rfl) rfl (fun _ _ _ _ h=>h) ?_;refine nC rfl ?_;refine fA dA rfl rfl rfl ?_;refine load1 aL rfl (o3.old h0) ?_;refine nC rfl ?_;refine fA dA rfl rfl rfl ?_;refine load1 aT rfl (o3.old h1) ?_;refine nC rfl ?_;refine fA dA rfl rfl rfl ?_;refine load1 aT rfl (o3.old h1) ?_;refine aCW (by omega) (by omega) ?_;refine aCF cT rfl ⟨_,rfl⟩ ⟨_,rfl⟩ (by omega) (by omega) (by omega) ?_;refine aCl eN ?_;refine aI rfl ?_;refine aI rfl ?_;(refine aCf o3 0 rfl bB rfl (by decide) (aI ⟨rfl,rfl⟩ ?_);intro m92 o92)
   first|refine aCs rfl o92 0 rfl bB rfl rfl ?_|refine aCr rfl o92 0 rfl bB rfl rfl ?_|refine RetVC.cellTT rfl o92 0 rfl bB rfl rfl ?_
   refine⟨?_,Own.sel ‹_› [] rfl⟩
   have e:List.drop (i:Int).toNat (List.take ((i:Int)+(bM cJ (t.drop i):Nat)).toNat t)=(t.drop i).take (bM cJ (t.drop i)):=by
    rw[show((i:Int)+(bM cJ (t.drop i):Nat)).toNat=i+bM cJ (t.drop i) by omega,Int.toNat_natCast,List.drop_take]
    congr 1
    omega
   show Value.tuple _=Value.tuple _
   rw[← e]
   rfl
theorem digitVal_of {c:UInt8}(h:48≤c.toNat∧c.toNat≤57):Lib.digitVal c=some (c.toNat - 48):=if_pos h
theorem rP:∀(l:aBs)(acc:Nat),(∀ c∈l,48≤c.toNat∧c.toNat≤57)→Lib.decFrom acc l=some (l.foldl (fun n c=>n*10+(c.toNat - 48)) acc)
 | [],acc,_=>rfl
 | c::l,acc,h=>by
  rw[Lib.decFrom,digitVal_of (h c (by simp))]
  exact rP l _ (fun d hd=>h d (by simp[hd]))
theorem atoi_digits {l:aBs}(hl:l≠[])(h:∀ c∈l,48≤c.toNat∧c.toNat≤57):Lib.atoi l=some ((undec l:Nat):Int):=by
 cases l with
 | nil=>exact absurd rfl hl
 | cons b r =>
  have hb:=h b (by simp);have h45:(b == 45)=false:=by
   rw[beq_eq_false_iff_ne]
   rintro rfl
   simp at hb
  have h43:(b == 43)=false:=by
   rw[beq_eq_false_iff_ne]
   rintro rfl
   simp at hb
  rw[Lib.atoi,h45,h43]
  simp only[aDe,if_false,Lib.decNat,List.isEmpty_cons]
  rw[rP _ _ h]
  rfl
theorem atoi_spec (l:aBs)(h:Heap)(hl:l.length≤18)(hne:l≠[])(hd:∀ c∈l,48≤c.toNat∧c.toNat≤57) :
  bZ Tryz.prog 98 [.string ⟨⟨l⟩⟩] h fun r h'=>r=.tuple ⟨[.int .i64 (undec l),.nilIface]⟩∧Own h [] h':=by
 refine⟨⟨_,Tryz.func98,rfl,by kernel_rfl⟩,fun w hw=>?_⟩
 subst hw
 refine(Tryz.strconv_Atoi ⟨⟨l⟩⟩ (undec l) hl (atoi_digits hne hd) w).mono ?_
 rintro e w' ⟨rfl,t,rfl⟩;have hb:=Lib.bytesWorld_below w 5 t
 exact⟨⟨hb.os,hb.tape,hb.output,hb.size⟩,rfl,Own.of_ext ⟨hb.size,hb.block⟩⟩
theorem rG (l:aBs)(c:UInt8)(h:Heap) :
  bZ Tryz.prog 99 [.string ⟨⟨l⟩⟩,.int .u8 c.toNat] h fun r h'=>r=.int .i64 (Lib.indexByte l c)∧Own h [] h':=by
 refine⟨⟨_,Tryz.func99,rfl,by kernel_rfl⟩,fun w hw=>?_⟩
 subst hw
 refine(Tryz.strings_IndexByte ⟨⟨l⟩⟩ c.toNat w).mono ?_
 rintro e w' ⟨rfl,rfl⟩
 refine⟨.refl _,?_,Own.refl _⟩
 have:((c.toNat:Int).toNat).toUInt8=c:=by simp
 rw[this]
theorem rI (l p:aBs)(h:Heap) :
  bZ Tryz.prog 100 [.string ⟨⟨l⟩⟩,.string ⟨⟨p⟩⟩] h fun r h'=>r=.bool (Lib.hasPrefix l p)∧Own h [] h':=by
 refine⟨⟨_,Tryz.func100,rfl,by kernel_rfl⟩,fun w hw=>?_⟩
 subst hw
 refine(Tryz.strings_HasPrefix ⟨⟨l⟩⟩ ⟨⟨p⟩⟩ w).mono ?_
 rintro e w' ⟨rfl,rfl⟩
 exact⟨.refl _,rfl,Own.refl _⟩
def pK (l:aBs):Rd :=
 if bM bU l=0 then .none
 else if 10<bM bU l∨bM bU l<bM cJ l then .err 6
 else .tok 2 (l.take (bM bU l)) (undec (l.take (bM bU l))) (bM bU l)
theorem rY (p:UInt8→Bool):∀(l:aBs),∀ c∈l.take (bM p l),p c=true
 | [],c,hc=>by simp at hc
 | a::l,c,hc=>by
  unfold bM at hc
  rw[aDu]at hc
  cases ha:p a with
  | false=>rw[ha]at hc;simp at hc
  | true =>
   rw[ha]at hc
   simp only[if_true,aDb,aDv,aDl]at hc
   rcases hc with rfl|hc
   ·exact ha
   ·exact rY p l c hc
theorem aAu {c:UInt8}(h:bU c=true):48≤c.toNat∧c.toNat≤57:=of_decide_eq_true h
theorem number_spec (b:Nat)(t:aBs)(i:Nat)(h:Heap)(hi:i<t.length)(hl:t.length≤1000000)
  (h0:aY h ⟨b,0,none⟩=some (.string ⟨⟨t⟩⟩)) (h1:aY h ⟨b,1,none⟩=some (.int .i64 i)) :
  Spec Tryz.prog 50 [.pointer (some ⟨b,0,none⟩)] h (RdE h i (pK (t.drop i))):=by
 have hsl:=nB bU (t.drop i);have hsi:=nB cJ (t.drop i);have hdl:(t.drop i).length=t.length - i:=by simp
 have hst:=rY bU (t.drop i);unfold pK;refine aCV Tryz.func50 rfl Tryz.ntmps50 (by kernel_rfl) ?_;have o0:=Own.refl h;(refine aCN o0 bB ?_;intro b10 m10 o10);refine aCT (tR bU 97 [] b t i _ (by omega) hl (Own.old ‹_› h0) (Own.old ‹_› h1) (fun d h' e=>aAt d h')) ?_;rintro _ h2 ⟨rfl,oa⟩;have o2:=oa.thenE ‹_›;by_cases hz:bM bU (t.drop i)=0
 ·rw[if_pos hz]
  refine aCP (fun c20=>?_) (fun hc=>absurd (by omega) hc);refine rR (aCl eN ?_);(refine aCf o2 0 rfl bB rfl (by decide) (aI ⟨rfl,rfl⟩ ?_);intro m22 o22)
  first|refine aCs rfl o22 0 rfl bB rfl rfl ?_|refine aCr rfl o22 0 rfl bB rfl rfl ?_|refine RetVC.cellTT rfl o22 0 rfl bB rfl rfl ?_
  exact⟨⟨0,[],0,0,rfl⟩,Own.sel ‹_› [] rfl⟩
 ·rw[if_neg hz]
  by_cases hbig:10<bM bU (t.drop i)
  ·rw[if_pos (.inl hbig)]
   refine aCP (fun hc=>absurd hc (by omega)) (fun c30=>?_);refine aCP (fun c31=>?_) (fun hc=>absurd (by omega) hc);refine aCQ ?_;exact aCU (gT 6 b t i _ (o2.old h1)) (fun _ _ h=>h.elim) (fun c h' ⟨hc,ho⟩=>⟨hc,(ho.thenE o2).sel [] rfl⟩)
  ·refine aCP (fun hc=>absurd hc (by omega)) (fun c40=>?_)
   refine aCP (fun hc=>absurd hc (by omega)) (fun c41=>?_);refine aCT (tR cJ 96 [] b t i _ (by omega) hl (o2.old h0) (o2.old h1) (fun d h' e=>aAi d h')) ?_;rintro _ h3 ⟨rfl,ob⟩;have o3:=ob.thenE ‹_›;by_cases hin:bM bU (t.drop i)<bM cJ (t.drop i)
   ·rw[if_pos (.inr hin)]
    refine aCP (fun c50=>?_) (fun hc=>absurd (by omega) hc);exact aCU (gT 6 b t i _ (o3.old h1)) (fun _ _ h=>h.elim) (fun c h' ⟨hc,ho⟩=>⟨hc,(ho.thenE o3).sel [] rfl⟩)
   ·rw[if_neg (by omega)]
    have e:List.drop (i:Int).toNat (List.take ((i:Int)+(bM bU (t.drop i):Nat)).toNat t)=(t.drop i).take (bM bU (t.drop i)):=by
     rw[show((i:Int)+(bM bU (t.drop i):Nat)).toNat=i+bM bU (t.drop i) by omega,Int.toNat_natCast,List.drop_take]
     congr 1
     omega
    refine aCP (fun hc=>absurd hc (by omega)) (fun c60=>?_);refine aCS [0,1,2,4,5,6,8,9,10,12,13,14,15] [3,7,11] [] [0,1,2,3,4,5,6,7,8,9,10,11,12,13,14,15] mixed (by kernel_rfl) rfl (fun _ _ _ _ h=>h) ?_;refine nC rfl ?_;refine fA dA rfl rfl rfl ?_;refine load1 aL rfl (o3.old h0) ?_;refine nC rfl ?_;refine fA dA rfl rfl rfl ?_;refine load1 aT rfl (o3.old h1) ?_;refine nC rfl ?_;refine fA dA rfl rfl rfl ?_;refine load1 aT rfl (o3.old h1) ?_;refine aCW (by omega) (by omega) ?_;refine aCF cT rfl ⟨_,rfl⟩ ⟨_,rfl⟩ (by omega) (by omega) (by omega) ?_
    rw[e]
    refine aCT (atoi_spec ((t.drop i).take (bM bU (t.drop i))) _ (by simp;omega) (fun hh=>by have:=congrArg List.length hh;simp at this;omega) (fun c hc=>aAu (hst c hc))) ?_;rintro _ h4 ⟨rfl,oc⟩;have o4:=oc.thenE ‹_›;refine rR (aCl eN ?_);refine aI rfl ?_;refine aI rfl ?_;refine aI rfl ?_;(refine aCf o4 0 rfl bB rfl (by decide) (aI ⟨rfl,rfl⟩ ?_);intro m81 o81)
    first|refine aCs rfl o81 0 rfl bB rfl rfl ?_|refine aCr rfl o81 0 rfl bB rfl rfl ?_|refine RetVC.cellTT rfl o81 0 rfl bB rfl rfl ?_
    refine⟨?_,Own.sel ‹_› [] rfl⟩
    rfl
def xU:aBs:=[59,58,44,46,40,41,123,125,61,60,43,45,47,64]
def sJ (l:aBs):Nat:=if Lib.hasPrefix l [33,61]=true∨Lib.hasPrefix l [60,61]=true then 2 else match l with
 | []=>0
 | c::_=>if c∈xU then 1 else 0
def tM (l:aBs):Rd:=if sJ l=0 then .none else .tok 4 (l.take (sJ l)) 0 (sJ l)
theorem iU:∀(l:aBs)(c:UInt8),-1≤Lib.indexByte l c∧(0≤Lib.indexByte l c↔c∈l)
 | [],c=>by simp[Lib.indexByte]
 | b::l,c=>by
  obtain⟨h1,h2⟩:=iU l c
  rw[Lib.indexByte]
  by_cases hb:b=c
  ·subst hb
   simp
  ·have hbe:(b == c)=false:=beq_eq_false_iff_ne.2 hb
   rw[hbe]
   simp only[aDe,if_false]
   by_cases hm:Lib.indexByte l c=-1
   ·have hbm:(Lib.indexByte l c == -1)=true:=by rw[hm];rfl
    rw[hbm]
    have:c∉l:=fun hc=>by have:=h2.2 hc;omega
    simp[this,Ne.symm hb]
   ·have hbm:(Lib.indexByte l c == -1)=false:=beq_eq_false_iff_ne.2 hm
    rw[hbm]
    simp only[aDe,if_false]
    refine⟨by omega,?_⟩
    have:0≤Lib.indexByte l c:=by omega
    simp[h2.1 this,Ne.symm hb]
    omega
theorem symN_at {t:aBs}{i:Nat}{c:UInt8}(hc:t[i]?=some c):sJ (t.drop i)=if Lib.hasPrefix (t.drop i) [33,61]=true∨Lib.hasPrefix (t.drop i) [60,61]=true then 2 else if c∈xU then 1 else 0:=by
 obtain⟨hi,rfl⟩:=aC6.1 hc
 rw[aDf hi]
 rfl
theorem lD {l p:aBs}(h:Lib.hasPrefix l p=true):p.length≤l.length:=by
 unfold Lib.hasPrefix at h
 exact(List.isPrefixOf_iff_prefix.1 h).length_le
theorem symbol_spec (b:Nat)(t:aBs)(i:Nat)(h:Heap)(hi:i<t.length)(hl:t.length≤1000000)
  (h0:aY h ⟨b,0,none⟩=some (.string ⟨⟨t⟩⟩)) (h1:aY h ⟨b,1,none⟩=some (.int .i64 i)) :
  Spec Tryz.prog 52 [.pointer (some ⟨b,0,none⟩)] h (RdE h i (tM (t.drop i))):=by
 obtain⟨c,hc⟩:=getx hi
 have hs:=symN_at hc;have hdl:(t.drop i).length=t.length - i:=by simp
 have hc0:(t.drop i)[0]?=some c:=by rw[aDC];exact hc
 unfold tM;refine aCV Tryz.func52 rfl Tryz.ntmps52 (by kernel_rfl) ?_;have o0:=Own.refl h;have er:List.drop (i:Int).toNat (List.take (Int.toNat (t.length:Nat)) t)=t.drop i:=by simp
 (refine aCN o0 bB ?_;intro b10 m10 o10);refine aCS [0,1,2,4,5,6,8,9] [3,7] [] [0,1,2,3,4,5,6,7,8,9] mixed (by kernel_rfl) rfl (fun _ _ _ _ h=>h) ?_;refine nC rfl ?_;refine fA dA rfl rfl rfl ?_;refine load1 aL rfl (o10.old h0) ?_;refine nC rfl ?_;refine fA dA rfl rfl rfl ?_;refine load1 aT rfl (o10.old h1) ?_;refine aCF cT rfl ⟨_,rfl⟩ rfl (by omega) (by omega) (by omega) ?_
 rw[er]
 refine aCT (rI (t.drop i) [33,61] _) ?_;rintro _ h2 ⟨rfl,oa⟩;have o2:=oa.thenE ‹_›;cases hp1:Lib.hasPrefix (t.drop i) [33,61] with
 | true =>
  have:2≤(t.drop i).length:=lD hp1
  have hn:sJ (t.drop i)=2:=by rw[hs,if_pos (.inl hp1)]
  rw[hn]
  refine aCQ ?_;refine aCQ ?_;refine rR (aCF cT rfl rfl ⟨_,rfl⟩ (by omega) (by omega) (by omega) ?_);refine rR (aCl eN ?_);refine aI rfl ?_;refine aI rfl ?_;(refine aCf o2 0 rfl bB rfl (by decide) (aI ⟨rfl,rfl⟩ ?_);intro m22 o22)
  first|refine aCs rfl o22 0 rfl bB rfl rfl ?_|refine aCr rfl o22 0 rfl bB rfl rfl ?_|refine RetVC.cellTT rfl o22 0 rfl bB rfl rfl ?_
  exact⟨rfl,Own.sel ‹_› [] rfl⟩
 | false =>
  refine aCR ?_;refine aCT (rI (t.drop i) [60,61] _) ?_;rintro _ h3 ⟨rfl,ob⟩;have o3:=ob.thenE ‹_›;cases hp2:Lib.hasPrefix (t.drop i) [60,61] with
  | true =>
   have:2≤(t.drop i).length:=lD hp2
   have hn:sJ (t.drop i)=2:=by rw[hs,if_pos (.inr hp2)]
   rw[hn]
   refine aCQ ?_;refine rR (aCF cT rfl rfl ⟨_,rfl⟩ (by omega) (by omega) (by omega) ?_);refine rR (aCl eN ?_);refine aI rfl ?_;refine aI rfl ?_;(refine aCf o3 0 rfl bB rfl (by decide) (aI ⟨rfl,rfl⟩ ?_);intro m62 o62)
   first|refine aCs rfl o62 0 rfl bB rfl rfl ?_|refine aCr rfl o62 0 rfl bB rfl rfl ?_|refine RetVC.cellTT rfl o62 0 rfl bB rfl rfl ?_
   exact⟨rfl,Own.sel ‹_› [] rfl⟩
  | false =>
   rw[if_neg (by rw[hp1,hp2];simp)]at hs
   have hib:=iU xU c;refine aCR ?_;refine rR (aCu rfl rfl cT (by omega) ‹_› ?_);refine aCT (rG xU c _) ?_;rintro _ h4 ⟨rfl,od⟩;have o4:=od.thenE ‹_›;generalize Lib.indexByte xU c=q at *;by_cases hm:c∈xU
   ·have hn:sJ (t.drop i)=1:=by rw[hs,if_pos hm]
    rw[hn]
    have hq:=hib.2.2 hm;refine aCP (fun c90=>?_) (fun hc=>absurd (by omega) hc);refine rR (aCF cT rfl rfl ⟨_,rfl⟩ (by omega) (by omega) (by omega) ?_);refine rR (aCl eN ?_);refine aI rfl ?_;refine aI rfl ?_;(refine aCf o4 0 rfl bB rfl (by decide) (aI ⟨rfl,rfl⟩ ?_);intro m93 o93)
    first|refine aCs rfl o93 0 rfl bB rfl rfl ?_|refine aCr rfl o93 0 rfl bB rfl rfl ?_|refine RetVC.cellTT rfl o93 0 rfl bB rfl rfl ?_
    exact⟨rfl,Own.sel ‹_› [] rfl⟩
   ·have hn:sJ (t.drop i)=0:=by rw[hs,if_neg hm]
    rw[hn]
    have hq:¬ 0≤q:=fun e=>hm (hib.2.1 e);refine aCP (fun hc=>absurd hc (by omega)) (fun c110=>?_);refine rR (aCF cT rfl rfl ⟨_,rfl⟩ (by omega) (by omega) (by omega) ?_);refine rR (aCl eN ?_);refine aI rfl ?_;refine aI rfl ?_;(refine aCf o4 0 rfl bB rfl (by decide) (aI ⟨rfl,rfl⟩ ?_);intro m113 o113)
    first|refine aCs rfl o113 0 rfl bB rfl rfl ?_|refine aCr rfl o113 0 rfl bB rfl rfl ?_|refine RetVC.cellTT rfl o113 0 rfl bB rfl rfl ?_
    exact⟨⟨4,[],0,0,rfl⟩,Own.sel ‹_› [] rfl⟩
def cH (comment:Bool):aBs→Nat
 | []=>0
 | c::r=>if c.toNat=10 then 1+cH false r else if c.toNat=35 then 1+cH true r else if comment=false∧c.toNat≠32∧c.toNat≠9 then 0 else 1+cH comment r
theorem pQ:∀(k:Bool)(l:aBs),cH k l≤l.length
 | _,[]=>aDg _
 | k,c::r=>by
  have h1:=pQ false r;have h2:=pQ true r;have h3:=pQ k r;unfold cH;split
  ·simp;omega
  ·split
   ·simp;omega
   ·split
    ·simp
    ·simp;omega
theorem uM:∀(l:aBs),cH true l=bM jE l+cH false (l.drop (bM jE l))
 | []=>rfl
 | c::r=>by
  have ih:=uM r;by_cases hc:c.toNat=10
  ·have hn:jE c=false:=by simp[jE,hc]
   have hs:bM jE (c::r)=0:=by unfold bM;rw[aDu,hn];rfl
   rw[hs]
   simp[cH,hc]
  ·have hn:jE c=true:=by simp[jE,hc]
   have hs:bM jE (c::r)=bM jE r+1:=by unfold bM;rw[aDu,hn];rfl
   rw[hs,List.drop_succ_cons]
   have:cH true (c::r)=1+cH true r:=by
    rw[cH,if_neg hc]
    by_cases h35:c.toNat=35
    ·rw[if_pos h35]
    ·rw[if_neg h35,if_neg (by simp)]
   rw[this,ih]
   omega
theorem gapF_hash {c:UInt8}{r:aBs}(hc:c.toNat=35):cH false (c::r)=bM jE (c::r)+cH false ((c::r).drop (bM jE (c::r))):=by
 rw[← uM]
 simp[cH,hc]
theorem gapF_at {t:aBs}{j:Nat}{c:UInt8}(hc:t[j]?=some c) :
  cH false (t.drop j)=if c.toNat=10 then 1+cH false (t.drop (j+1)) else if c.toNat=35 then 1+cH true (t.drop (j+1)) else if c.toNat≠32∧c.toNat≠9 then 0 else 1+cH false (t.drop (j+1)):=by
 obtain⟨hj,rfl⟩:=aC6.1 hc
 rw[aDf hj,cH]
 simp only[true_and]
theorem aB3 {t:aBs}{j:Nat}{c:UInt8}(hc:t[j]?=some c)(h35:c.toNat=35) :
  cH false (t.drop j)=bM jE (t.drop j)+cH false (t.drop (j+bM jE (t.drop j)))∧0<bM jE (t.drop j):=by
 obtain⟨hj,rfl⟩:=aC6.1 hc
 constructor
 ·have:=gapF_hash (r:=t.drop (j+1)) h35
  rw[← aDf hj,aDA]at this
  exact this
 ·have hn:jE t[j]=true:=by simp[jE,h35]
  rw[aDf hj]
  unfold bM
  rw[aDu,hn]
  simp
def leftM (b:Nat)(t:aBs)(hh:Heap):Nat :=
 match aY hh ⟨b,1,none⟩ with
 | some (.int _ n)=>t.length - n.toNat
 | _=>0
theorem rF {B:Base}{b j:Nat}{t:aBs}{h:Heap}{ty:TypeId}(o:Own B [box b [.string ⟨⟨t⟩⟩,.int .i64 j] ty] h):leftM b t h=t.length - j:=by
 unfold leftM
 rw[o.cellB 0 rfl 1]
 simp
theorem aA6 (B:Base)(b:Nat)(t:aBs)(i:Nat)(h:Heap)(hi:i≤t.length)(hl:t.length≤1000000)
  (o0:Own B [box b [.string ⟨⟨t⟩⟩,.int .i64 i] 106] h) :
  bZ Tryz.prog 53 [.pointer (some ⟨b,0,none⟩)] h fun r h'=>r=.tuple #[]∧Own B [box b [.string ⟨⟨t⟩⟩,.int .i64 (i+cH false (t.drop i):Nat)] 106] h':=by
 refine aCV Tryz.func53 rfl Tryz.ntmps53 (by kernel_rfl) ?_;refine aCZ [2,3,4,5,6,7,8,9,10,11,12,13,14,15,16,17,18,19,20,21,22,23,24,25,26,27,28,29,30,31,32,33,34,35,36,37,38,39,40,41,42] [] (fun vs hh=>vs=[]∧∃(j:Nat),j≤t.length∧j+cH false (t.drop j)=i+cH false (t.drop i)∧Own B [box b [.string ⟨⟨t⟩⟩,.int .i64 j] 106] hh) (fun _ hh=>leftM b t hh) ?_ ?_
 ·exact⟨rfl,i,hi,rfl,o0⟩
 ·rintro vs junk hh ⟨rfl,j,hj,hg,oh⟩
  have hm:=rF oh;by_cases hlt:j<t.length
  ·obtain⟨c,hc⟩:=getx hlt
   have ha:=gapF_at hc;have h1:=pQ false (t.drop (j+1));have h35':=fun h=>aB3 hc h;by_cases h10:c.toNat=32∨c.toNat=9∨c.toNat=10
   ·have hstep:cH false (t.drop j)=1+cH false (t.drop (j+1)):=by
     rw[ha]
     by_cases h1:c.toNat=10
     ·rw[if_pos h1]
     ·rw[if_neg h1,if_neg (by omega),if_neg (by omega)]
    refine aCS [0,1,2,4,5,6,8,9] [3,7] [] [0,1,2,3,4,5,6,7,8,9] mixed (by kernel_rfl) rfl (fun _ _ _ _ h=>h) ?_;refine nC rfl ?_;refine fA dA rfl rfl rfl ?_;refine aCc oh 0 rfl aT rfl rfl ?_;refine nC rfl ?_;refine fA dA rfl rfl rfl ?_;refine aCc oh 0 rfl aL rfl rfl ?_;refine aCy rfl cT ?_;refine aCP (fun c27=>?_) (fun hc=>absurd (by omega) hc);refine aCS [0,1,2,4,5,6,8] [3,7] [] [0,1,2,3,4,5,6,7,8] mixed (by kernel_rfl) rfl (fun _ _ _ _ h=>h) ?_;refine nC rfl ?_;refine fA dA rfl rfl rfl ?_;refine aCc oh 0 rfl aL rfl rfl ?_;refine nC rfl ?_;refine fA dA rfl rfl rfl ?_;refine aCc oh 0 rfl aT rfl rfl ?_;refine aCu rfl rfl cT (by omega) ‹_› ?_;refine aCP (fun c35=>?_) (fun c35=>?_);refine aCP (fun c36=>?_) (fun hc=>absurd (by omega) hc);refine rR (nC rfl ?_);refine rR (fA dA rfl rfl rfl ?_);refine rR (aCc oh 0 rfl aT rfl rfl ?_);refine aCW (by omega) (by omega) ?_;refine rR (nC rfl ?_);refine rR (fA dA rfl rfl rfl ?_);(refine aCL oh 0 rfl aT rfl (by simp) (aI ⟨rfl,rfl⟩ ?_);intro m42 o42)
    refine⟨rfl,?_⟩
    rotate_left
    refine aCP (fun c43=>?_) (fun c43=>?_);refine aCP (fun c44=>?_) (fun hc=>absurd (by omega) hc);refine rR (nC rfl ?_);refine rR (fA dA rfl rfl rfl ?_);refine rR (aCc oh 0 rfl aT rfl rfl ?_);refine aCW (by omega) (by omega) ?_;refine rR (nC rfl ?_);refine rR (fA dA rfl rfl rfl ?_);(refine aCL oh 0 rfl aT rfl (by simp) (aI ⟨rfl,rfl⟩ ?_);intro m50 o50)
    refine⟨rfl,?_⟩
    rotate_left
    refine aCP (fun c51=>?_) (fun hc=>absurd (by omega) hc);refine rR (nC rfl ?_);refine rR (fA dA rfl rfl rfl ?_);refine rR (aCc oh 0 rfl aT rfl rfl ?_);refine aCW (by omega) (by omega) ?_;refine rR (nC rfl ?_);refine rR (fA dA rfl rfl rfl ?_);(refine aCL oh 0 rfl aT rfl (by simp) (aI ⟨rfl,rfl⟩ ?_);intro m57 o57)
    refine⟨rfl,?_⟩
    all_goals
     refine⟨⟨rfl,j+1,by omega,by omega,by assumption⟩,?_⟩
     rw[hm,rF (j:=j+1) (ty:=106) ‹_›]
     omega
   ·by_cases h35:c.toNat=35
    ·obtain⟨hs1,hs2⟩:=h35' h35
     have hsl:=nB jE (t.drop j);have hdl:(t.drop j).length=t.length - j:=by simp
     refine aCS [0,1,2,4,5,6,8,9] [3,7] [] [0,1,2,3,4,5,6,7,8,9] mixed (by kernel_rfl) rfl (fun _ _ _ _ h=>h) ?_;refine nC rfl ?_;refine fA dA rfl rfl rfl ?_;refine aCc oh 0 rfl aT rfl rfl ?_;refine nC rfl ?_;refine fA dA rfl rfl rfl ?_;refine aCc oh 0 rfl aL rfl rfl ?_;refine aCy rfl cT ?_;refine aCP (fun c47=>?_) (fun hc=>absurd (by omega) hc);refine aCS [0,1,2,4,5,6,8] [3,7] [] [0,1,2,3,4,5,6,7,8] mixed (by kernel_rfl) rfl (fun _ _ _ _ h=>h) ?_;refine nC rfl ?_;refine fA dA rfl rfl rfl ?_;refine aCc oh 0 rfl aL rfl rfl ?_;refine nC rfl ?_;refine fA dA rfl rfl rfl ?_;refine aCc oh 0 rfl aT rfl rfl ?_;refine aCu rfl rfl cT (by omega) ‹_› ?_;refine aCP (fun hc=>absurd hc (by omega)) (fun c55=>?_);refine aCP (fun hc=>absurd hc (by omega)) (fun c56=>?_);refine aCP (fun hc=>absurd hc (by omega)) (fun c57=>?_);refine aCP (fun c58=>?_) (fun hc=>absurd (by omega) hc);refine aCS [0,1,2,4,6,7,8] [3] [9] [0,1,2,3,4,5,6,7,8,9] mixed (by kernel_rfl) rfl (fun _ _ _ _ h=>h) ?_;refine nC rfl ?_;refine fA dA rfl rfl rfl ?_;refine aCc oh 0 rfl aT rfl rfl ?_;refine aCT (tR jE 101 [] b t j _ hj hl (oh.cellB 0 rfl 0) (oh.cellB 0 rfl 1) (fun d h' e=>skip1_spec d h')) ?_;rintro _ h2 ⟨rfl,ob⟩;have o2:=ob.thenE ‹_›;generalize bM jE (t.drop j)=n at *;refine aI ob.ext ?_;refine aCW (by omega) (by omega) ?_;refine nC rfl ?_;refine fA dA rfl rfl rfl ?_;(refine aCL o2 0 rfl aT rfl (by simp) (aI ⟨rfl,rfl⟩ ?_);intro m73 o73)
     refine⟨rfl,?_⟩
     all_goals
      refine⟨⟨rfl,j+n,by omega,by omega,by assumption⟩,?_⟩
      rw[hm,rF (j:=j+n) (ty:=106) ‹_›]
      omega
    ·have hz:cH false (t.drop j)=0:=by rw[ha,if_neg (by omega),if_neg h35,if_pos (by omega)]
     rw[← hg,hz,aDW]
     refine aCS [0,1,2,4,5,6,8,9] [3,7] [] [0,1,2,3,4,5,6,7,8,9] mixed (by kernel_rfl) rfl (fun _ _ _ _ h=>h) ?_;refine nC rfl ?_;refine fA dA rfl rfl rfl ?_;refine aCc oh 0 rfl aT rfl rfl ?_;refine nC rfl ?_;refine fA dA rfl rfl rfl ?_;refine aCc oh 0 rfl aL rfl rfl ?_;refine aCy rfl cT ?_;refine aCP (fun c87=>?_) (fun hc=>absurd (by omega) hc);refine aCS [0,1,2,4,5,6,8] [3,7] [] [0,1,2,3,4,5,6,7,8] mixed (by kernel_rfl) rfl (fun _ _ _ _ h=>h) ?_;refine nC rfl ?_;refine fA dA rfl rfl rfl ?_;refine aCc oh 0 rfl aL rfl rfl ?_;refine nC rfl ?_;refine fA dA rfl rfl rfl ?_;refine aCc oh 0 rfl aT rfl rfl ?_;refine aCu rfl rfl cT (by omega) ‹_› ?_;refine aCP (fun hc=>absurd hc (by omega)) (fun c95=>?_);refine aCP (fun hc=>absurd hc (by omega)) (fun c96=>?_);refine aCP (fun hc=>absurd hc (by omega)) (fun c97=>?_);refine aCP (fun hc=>absurd hc (by omega)) (fun c98=>?_);refine aCY rfl ?_
     exact⟨rfl,oh⟩
  ·have hz:cH false (t.drop j)=0:=by rw[aDr (by omega)];rfl
   rw[← hg,hz,aDW]
   refine aCS [0,1,2,4,5,6,8,9] [3,7] [] [0,1,2,3,4,5,6,7,8,9] mixed (by kernel_rfl) rfl (fun _ _ _ _ h=>h) ?_;refine nC rfl ?_;refine fA dA rfl rfl rfl ?_;refine aCc oh 0 rfl aT rfl rfl ?_;refine nC rfl ?_;refine fA dA rfl rfl rfl ?_;refine aCc oh 0 rfl aL rfl rfl ?_;refine aCy rfl cT ?_;refine aCP (fun hc=>absurd hc (by omega)) (fun c97=>?_);refine aCY rfl ?_
   exact⟨rfl,oh⟩
def aAr (d:UInt8):Option UInt8:=if d.toNat=34 then some 34 else if d.toNat=92 then some 92 else if d.toNat=110 then some 10 else none
def dX:aBs→aBs→Nat→Rd
 | [],_,_=>.err 7
 | [c],acc,k=>if c.toNat=34 then(if 200<acc.length then .err 3 else .tok 3 acc 0 (k+2)) else if c.toNat=10 then .err 5 else .err 7
 | c::d::r,acc,k =>
  if c.toNat=34 then(if 200<acc.length then .err 3 else .tok 3 acc 0 (k+2))
  else if c.toNat=10 then .err 5
  else if c.toNat=92 then(match aAr d with
   | none=>.err 5
   | some x=>dX r (acc++[x]) (k+2))
  else dX (d::r) (acc++[c]) (k+1)
def sB (l:aBs):Rd :=
 match l with
 | []=>.none
 | c::r=>if c.toNat=34 then dX r [] 0 else .none
theorem quotedR_at {t:aBs}{i:Nat}{c:UInt8}(hc:t[i]?=some c):sB (t.drop i)=if c.toNat=34 then dX (t.drop (i+1)) [] 0 else .none:=by
 obtain⟨hi,rfl⟩:=aC6.1 hc
 rw[aDf hi]
 rfl
theorem quoF_quote {l acc:aBs}{j:Nat}{x:UInt8}(hx:l[j]?=some x)(h:x.toNat=34):dX (l.drop j) acc j=if 200<acc.length then .err 3 else .tok 3 acc 0 (j+2):=by
 obtain⟨hj,rfl⟩:=aC6.1 hx
 rw[aDf hj]
 generalize l[j]=x at *
 cases l.drop (j+1) with
 | nil=>rw[dX,if_pos h]
 | cons d r=>rw[dX,if_pos h]
theorem quoF_nl {l acc:aBs}{j:Nat}{x:UInt8}(hx:l[j]?=some x)(h:x.toNat=10):dX (l.drop j) acc j=.err 5:=by
 obtain⟨hj,rfl⟩:=aC6.1 hx
 rw[aDf hj]
 generalize l[j]=x at *
 cases l.drop (j+1) with
 | nil=>rw[dX,if_neg (by omega),if_pos h]
 | cons d r=>rw[dX,if_neg (by omega),if_pos h]
theorem quoF_other {l acc:aBs}{j:Nat}{x:UInt8}(hx:l[j]?=some x)(h1:x.toNat≠34)(h2:x.toNat≠10)(h3:x.toNat≠92):dX (l.drop j) acc j=dX (l.drop (j+1)) (acc++[x]) (j+1):=by
 obtain⟨hj,rfl⟩:=aC6.1 hx
 rw[aDf hj]
 generalize l[j]=x at *
 cases l.drop (j+1) with
 | nil=>simp only[dX,if_neg h1,if_neg h2]
 | cons d r=>rw[dX,if_neg h1,if_neg h2,if_neg h3]
theorem quoF_esc {l acc:aBs}{j:Nat}{x d:UInt8}(hx:l[j]?=some x)(h:x.toNat=92)(hd:l[j+1]?=some d):dX (l.drop j) acc j=match aAr d with
  | none=>.err 5
  | some y=>dX (l.drop (j+2)) (acc++[y]) (j+2):=by
 obtain⟨hj,rfl⟩:=aC6.1 hx
 obtain⟨hj1,rfl⟩:=aC6.1 hd
 rw[aDf hj,aDf hj1,dX,if_neg (by omega),if_neg (by omega),if_pos h]
theorem quoF_end {l acc:aBs}{j:Nat}{x:UInt8}(hx:l[j]?=some x)(h:x.toNat=92)(hd:l.length=j+1):dX (l.drop j) acc j=.err 7:=by
 obtain⟨hj,rfl⟩:=aC6.1 hx
 rw[aDf hj,aDr (by omega),dX,if_neg (by omega),if_neg (by omega)]
theorem quoted_spec (b:Nat)(t:aBs)(i:Nat)(h:Heap)(hi:i<t.length)(hl:t.length≤1000000)
  (h0:aY h ⟨b,0,none⟩=some (.string ⟨⟨t⟩⟩)) (h1:aY h ⟨b,1,none⟩=some (.int .i64 i)) :
  Spec Tryz.prog 51 [.pointer (some ⟨b,0,none⟩)] h (RdE h i (sB (t.drop i))):=by
 obtain⟨c,hc⟩:=getx hi
 rw[quotedR_at hc]
 refine aCV Tryz.func51 rfl Tryz.ntmps51 (by kernel_rfl) ?_;have o0:=Own.refl h;by_cases hq:c.toNat=34
 ·rw[if_pos hq]
  (refine aCN o0 bB ?_;intro b10 m10 o10);refine aCS [0,1,2,4,5,6,8,9] [3,7] [] [0,1,2,3,4,5,6,7,8,9] mixed (by kernel_rfl) rfl (fun _ _ _ _ h=>h) ?_;refine nC rfl ?_;refine fA dA rfl rfl rfl ?_;refine load1 aL rfl (o10.old h0) ?_;refine nC rfl ?_;refine fA dA rfl rfl rfl ?_;refine load1 aT rfl (o10.old h1) ?_;refine aCu rfl rfl cT (by omega) ‹_› ?_;refine aCi (fun hc=>absurd (by first|omega|assumption|decide|exact rfl) hc) (fun c18=>?_);refine aCS [0,1,2,4,5,6,8,9,10] [3,7] [] [0,1,2,3,4,5,6,7,8,9,10] mixed (by kernel_rfl) rfl (fun _ _ _ _ h=>h) ?_;refine nC rfl ?_;refine fA dA rfl rfl rfl ?_;refine load1 aL rfl (o10.old h0) ?_;refine nC rfl ?_;refine fA dA rfl rfl rfl ?_;refine load1 aT rfl (o10.old h1) ?_;refine aCW (by omega) (by omega) ?_;refine aCF cT rfl ⟨_,rfl⟩ rfl (by omega) (by omega) (by omega) ?_;have er:List.drop ((i:Int)+1).toNat (List.take (Int.toNat (t.length:Nat)) t)=t.drop (i+1):=by
   rw[show((i:Int)+1).toNat=i+1 by omega]
   simp
  rw[er]
  have hrl:(t.drop (i+1)).length≤1000000:=by simp;omega
  generalize t.drop (i+1)=rest at *
  generalize hR:dX rest [] 0=R
  have on:=o10.nilRow 5 1;refine aCZ [3,4,6,7,8,30,31,32,33,34,35,36,37,38,39,40,41,42,43,44,45,46,47,48,49,50,51,52,53,54,55,56,57,58,59,60,61,62,63,64,65,66,67,68,69,70,71,72,73,74,75,76,77,78,79,80,81,82,83,84,85,86] [4,6] (fun vs hh=>∃(j:Nat) (acc:aBs) (v:Value),j≤rest.length∧acc.length≤j∧vs=[v,.int .i64 j]∧dX (rest.drop j) acc j=R∧Own h [box b10 [.int .i64 0,.string ⟨⟨[]⟩⟩,.int .i64 0,.int .i64 0] 112,row v 5 1 acc.length (bytes acc)] hh) (fun vs _=>match vs with|[_,.int _ j]=>rest.length - j.toNat|_=>0) ?_ ?_
  ·exact⟨0,[],_,by omega,by simp,rfl,hR,on⟩
  ·rintro vs junk hh ⟨j,acc,v,hj,hal,rfl,hQ,oh⟩
   by_cases hlt:j<rest.length
   ·obtain⟨x,hx⟩:=getx hlt
    by_cases hx34:x.toNat=34
    ·rw[quoF_quote hx hx34]at hQ
     by_cases hbig:200<acc.length
     ·rw[if_pos hbig]at hQ
      subst hQ;refine rR (aCy rfl cT ?_);refine aCP (fun c41=>?_) (fun hc=>absurd (by omega) hc);refine rR (aCu rfl rfl cT (by omega) ‹_› ?_);refine aCP (fun c43=>?_) (fun hc=>absurd (by omega) hc);refine rR (aCD (oh.rowArrN 1 rfl) fT ?_);refine aCP (fun c45=>?_) (fun hc=>absurd (by omega) hc);exact aCU (gT 3 b t i _ (oh.old h1)) (fun _ _ h=>h.elim) (fun c h' ⟨hc,ho⟩=>⟨hc,(ho.thenE oh).sel [] rfl⟩)
     ·rw[if_neg hbig]at hQ
      subst hQ;refine rR (aCy rfl cT ?_);refine aCP (fun c61=>?_) (fun hc=>absurd (by omega) hc);refine rR (aCu rfl rfl cT (by omega) ‹_› ?_);refine aCP (fun c63=>?_) (fun hc=>absurd (by omega) hc);refine rR (aCD (oh.rowArrN 1 rfl) fT ?_);refine aCP (fun hc=>absurd hc (by omega)) (fun c65=>?_);refine aCP (fun c66=>?_) (fun hc=>absurd (by omega) hc);refine rR (aCI (oh.rowArr 1 rfl) fT int5 cT ?_);refine rR (aCl eN ?_);refine aI rfl ?_;refine aI rfl ?_;refine aCW (by omega) (by omega) ?_;(refine aCf oh 0 rfl bB rfl (by decide) (aI ⟨rfl,rfl⟩ ?_);intro m69 o69)
      first|refine aCs rfl o69 0 rfl bB rfl rfl ?_|refine aCr rfl o69 0 rfl bB rfl rfl ?_|refine RetVC.cellTT rfl o69 0 rfl bB rfl rfl ?_
      exact⟨by first|rfl|(simp;omega),Own.sel ‹_› [] rfl⟩
    ·by_cases hx10:x.toNat=10
     ·rw[quoF_nl hx hx10]at hQ
      subst hQ;refine rR (aCy rfl cT ?_);refine aCP (fun c81=>?_) (fun hc=>absurd (by omega) hc);refine rR (aCu rfl rfl cT (by omega) ‹_› ?_);refine aCP (fun hc=>absurd hc (by omega)) (fun c83=>?_);refine aCR ?_;refine aCP (fun hc=>absurd hc (by omega)) (fun c84=>?_);refine aCP (fun c85=>?_) (fun hc=>absurd (by omega) hc);exact aCU (gT 5 b t i _ (oh.old h1)) (fun _ _ h=>h.elim) (fun c h' ⟨hc,ho⟩=>⟨hc,(ho.thenE oh).sel [] rfl⟩)
     ·by_cases hx92:x.toNat=92
      ·by_cases hlast:rest.length=j+1
       ·rw[quoF_end hx hx92 hlast]at hQ
        subst hQ;refine rR (aCy rfl cT ?_);refine aCP (fun c101=>?_) (fun hc=>absurd (by omega) hc);refine rR (aCu rfl rfl cT (by omega) ‹_› ?_);refine aCP (fun hc=>absurd hc (by omega)) (fun c103=>?_);refine aCR ?_;refine aCP (fun hc=>absurd hc (by omega)) (fun c104=>?_);refine aCP (fun hc=>absurd hc (by omega)) (fun c105=>?_);refine aCP (fun c106=>?_) (fun hc=>absurd (by omega) hc);refine aCW (by omega) (by omega) ?_;refine rR (aCy rfl cT ?_);refine aCP (fun c108=>?_) (fun hc=>absurd (by omega) hc);exact aCU (gT 7 b t i _ (oh.old h1)) (fun _ _ h=>h.elim) (fun c h' ⟨hc,ho⟩=>⟨hc,(ho.thenE oh).sel [] rfl⟩)
       ·obtain⟨d,hd⟩:=getx (show j+1<rest.length by omega)
        have hE:=quoF_esc (acc:=acc) hx hx92 hd;have hd':rest[((j:Int)+1).toNat]?=some d:=by rw[show((j:Int)+1).toNat=j+1 by omega];exact hd
        refine rR (aCy rfl cT ?_);refine aCP (fun c121=>?_) (fun hc=>absurd (by omega) hc);refine rR (aCu rfl rfl cT (by omega) ‹_› ?_);refine aCP (fun hc=>absurd hc (by omega)) (fun c123=>?_);refine aCR ?_;refine aCP (fun hc=>absurd hc (by omega)) (fun c124=>?_);refine aCP (fun hc=>absurd hc (by omega)) (fun c125=>?_);refine aCP (fun c126=>?_) (fun hc=>absurd (by omega) hc);refine aCW (by omega) (by omega) ?_;refine rR (aCy rfl cT ?_);refine aCP (fun hc=>absurd hc (by omega)) (fun c128=>?_);refine rR (aCu rfl rfl cT (by omega) ‹_› ?_);refine aCT (rG [34,92,110] d _) ?_;rintro _ h5 ⟨rfl,oi⟩;have o5:=oh.ext' oi;by_cases hd34:d=34
        ·have hk:Lib.indexByte [34,92,110] d=0:=by rw[hd34];decide
         rw[hE,hd34]at hQ
         rw[hk]
         rw[show aAr 34=some 34 by decide]at hQ
         simp only at hQ;have hy:([34,92,10]:aBs)[((0:Int)).toNat]?=some 34:=rfl;refine aCR ?_;refine rR (aCu rfl rfl cT (by omega) ‹_› ?_);(refine aCM o5 fT ty5 rfl rfl (by decide) (aI rfl ?_);intro b131 m131 o131);(refine aCO o131 1 rfl fT ty5 (by decide) (o131.boxArr 2 rfl (by simp) (by simp)).toN (by simp[Value.oneCell']) (by simp only[maxLen];first|omega|(simp;omega)) (by first|omega|(simp;omega)) ?_;intro v132 m132 o132);refine aCW (by omega) (by omega) ?_
         refine⟨rfl,?_⟩
         refine⟨⟨j+2,acc++[34],_,by omega,by simp;omega,rfl,hQ,?_⟩,by simp;omega⟩
         have q:=o132.sel [0,1] rfl
         simpa[pick] using q
        ·by_cases hd92:d=92
         ·have hk:Lib.indexByte [34,92,110] d=1:=by rw[hd92];decide
          rw[hE,hd92]at hQ
          rw[hk]
          rw[show aAr 92=some 92 by decide]at hQ
          simp only at hQ;have hy:([34,92,10]:aBs)[((1:Int)).toNat]?=some 92:=rfl;refine aCR ?_;refine rR (aCu rfl rfl cT (by omega) ‹_› ?_);(refine aCM o5 fT ty5 rfl rfl (by decide) (aI rfl ?_);intro b141 m141 o141);(refine aCO o141 1 rfl fT ty5 (by decide) (o141.boxArr 2 rfl (by simp) (by simp)).toN (by simp[Value.oneCell']) (by simp only[maxLen];first|omega|(simp;omega)) (by first|omega|(simp;omega)) ?_;intro v142 m142 o142);refine aCW (by omega) (by omega) ?_
          refine⟨rfl,?_⟩
          refine⟨⟨j+2,acc++[92],_,by omega,by simp;omega,rfl,hQ,?_⟩,by simp;omega⟩
          have q:=o142.sel [0,1] rfl
          simpa[pick] using q
         ·by_cases hd110:d=110
          ·have hk:Lib.indexByte [34,92,110] d=2:=by rw[hd110];decide
           rw[hE,hd110]at hQ
           rw[hk]
           rw[show aAr 110=some 10 by decide]at hQ
           simp only at hQ;have hy:([34,92,10]:aBs)[((2:Int)).toNat]?=some 10:=rfl;refine aCR ?_;refine rR (aCu rfl rfl cT (by omega) ‹_› ?_);(refine aCM o5 fT ty5 rfl rfl (by decide) (aI rfl ?_);intro b151 m151 o151);(refine aCO o151 1 rfl fT ty5 (by decide) (o151.boxArr 2 rfl (by simp) (by simp)).toN (by simp[Value.oneCell']) (by simp only[maxLen];first|omega|(simp;omega)) (by first|omega|(simp;omega)) ?_;intro v152 m152 o152);refine aCW (by omega) (by omega) ?_
           refine⟨rfl,?_⟩
           refine⟨⟨j+2,acc++[10],_,by omega,by simp;omega,rfl,hQ,?_⟩,by simp;omega⟩
           have q:=o152.sel [0,1] rfl
           simpa[pick] using q
          ·have hk:¬ 0≤Lib.indexByte [34,92,110] d:=fun e=>by
            have:=(iU [34,92,110] d).2.1 e
            simp[hd34,hd92,hd110]at this
           have hk2:=(iU [34,92,110] d).1;have hn:aAr d=none:=by
            have e1:d.toNat≠34:=fun e=>hd34 (UInt8.toNat_inj.1 e);have e2:d.toNat≠92:=fun e=>hd92 (UInt8.toNat_inj.1 e);have e3:d.toNat≠110:=fun e=>hd110 (UInt8.toNat_inj.1 e)
            simp[aAr,e1,e2,e3]
           rw[hE,hn]at hQ
           simp only at hQ;subst hQ;generalize Lib.indexByte [34,92,110] d=q at *;refine aCP (fun c155=>?_) (fun hc=>absurd (by omega) hc);exact aCU (gT 5 b t i _ (o5.old h1)) (fun _ _ h=>h.elim) (fun c h' ⟨hc,ho⟩=>⟨hc,(ho.thenE o5).sel [] rfl⟩)
      ·rw[quoF_other hx hx34 hx10 hx92]at hQ
       refine rR (aCy rfl cT ?_);refine aCP (fun c161=>?_) (fun hc=>absurd (by omega) hc);refine rR (aCu rfl rfl cT (by omega) ‹_› ?_);refine aCP (fun hc=>absurd hc (by omega)) (fun c163=>?_);refine aCR ?_;refine aCP (fun hc=>absurd hc (by omega)) (fun c164=>?_);refine aCP (fun hc=>absurd hc (by omega)) (fun c165=>?_);refine aCP (fun hc=>absurd hc (by omega)) (fun c166=>?_);(refine aCM oh fT ty5 rfl rfl (by decide) (aI rfl ?_);intro b167 m167 o167);(refine aCO o167 1 rfl fT ty5 (by decide) (o167.boxArr 2 rfl (by simp) (by simp)).toN (by simp[Value.oneCell']) (by simp only[maxLen];first|omega|(simp;omega)) (by first|omega|(simp;omega)) ?_;intro v168 m168 o168);refine aCW (by omega) (by omega) ?_
       refine⟨rfl,?_⟩
       refine⟨⟨j+1,acc++[x],_,by omega,by simp;omega,rfl,hQ,?_⟩,by simp;omega⟩
       have q:=o168.sel [0,1] rfl
       simpa[pick] using q
   ·have:rest.drop j=[]:=aDr (by omega)
    rw[this]at hQ
    subst hQ;refine rR (aCy rfl cT ?_);refine aCP (fun hc=>absurd hc (by omega)) (fun c191=>?_);exact aCU (gT 7 b t i _ (oh.old h1)) (fun _ _ h=>h.elim) (fun c h' ⟨hc,ho⟩=>⟨hc,(ho.thenE oh).sel [] rfl⟩)
 ·rw[if_neg hq]
  (refine aCN o0 bB ?_;intro b200 m200 o200);refine aCS [0,1,2,4,5,6,8,9] [3,7] [] [0,1,2,3,4,5,6,7,8,9] mixed (by kernel_rfl) rfl (fun _ _ _ _ h=>h) ?_;refine nC rfl ?_;refine fA dA rfl rfl rfl ?_;refine load1 aL rfl (o200.old h0) ?_;refine nC rfl ?_;refine fA dA rfl rfl rfl ?_;refine load1 aT rfl (o200.old h1) ?_;refine aCu rfl rfl cT (by omega) ‹_› ?_;refine aCi (fun c208=>?_) (fun hc=>absurd hc (by first|omega|assumption|decide|exact rfl));refine rR (aCl eN ?_);(refine aCf o200 0 rfl bB rfl (by decide) (aI ⟨rfl,rfl⟩ ?_);intro m210 o210)
  first|refine aCs rfl o210 0 rfl bB rfl rfl ?_|refine aCr rfl o210 0 rfl bB rfl rfl ?_|refine RetVC.cellTT rfl o210 0 rfl bB rfl rfl ?_
  exact⟨⟨0,[],0,0,rfl⟩,Own.sel ‹_› [] rfl⟩
def zE (p q r v:Value):aVs:=[p,q,r,v,undef,undef,v,undef,undef,undef,undef,undef,undef,undef,undef,undef,undef,undef,undef,undef,undef]
theorem uK (p q r:Value):Recovers Tryz.prog (match Tryz.f48.body with|some (.seq (.region _ ops _) _)=>ops|_=>#[]) ([p,q,r]++List.replicate (21 - [p,q,r].length) undef) (zE p q r):=by
 intro cs w Q hQ;unfold wpOpsS
 simp[Tryz.f48,List.range,List.range.loop,wpOpsS,Region.wanted,yielded,execOp,resolve,invoke,builtin,act,Act.put]
 cases hrec:recoverD cs with
 | none=>exact hQ _ _ (.inr ⟨hrec,rfl,rfl⟩)
 | some x=>exact hQ _ _ (.inl hrec)
theorem leave_ok (s:aVs)(h:Heap)(R:Ending→Heap→Prop)(p q r:Value)
  (hr:RetVC Tryz.prog Tryz.f25 s h fun v h=>R (.returned v) h) :
  LeaveVC Tryz.prog Tryz.f25 ⟨.fn (.func 48) ⟨[p,q,r]⟩,#[]⟩ .returning s h R:=by
 refine LeaveVC.recovers (f:=zE p q r) .nilIface Tryz.func48 rfl (n:=21) (by kernel_rfl) (by kernel_rfl) rfl (.inl ⟨rfl,rfl⟩) (uK p q r) ?_;refine rR (neI aBp (by first|assumption|rfl) ?_);refine aCR ?_;exact hr
theorem vU (s:aVs)(h:Heap)(R:Ending→Heap→Prop)(B:Base)(b2 b3 b4:Nat)(x y z:Value)(e:Int)(i:Nat)
  (o0:Own B [box b2 [x] 64,box b3 [y] 27,box b4 [z] 3] h)
  (h2:sget s 2=.pointer (some ⟨b2,0,none⟩)) (h3:sget s 3=.pointer (some ⟨b3,0,none⟩)) (h4:sget s 4=.pointer (some ⟨b4,0,none⟩))
  (hR:∀ h',Own B [] h'→R (.returned (.tuple ⟨[.slice none 0 0,.int .i64 e,.int .i64 i]⟩)) h') :
  LeaveVC Tryz.prog Tryz.f25 ⟨.fn (.func 48) ⟨[.pointer (some ⟨b2,0,none⟩),.pointer (some ⟨b3,0,none⟩),.pointer (some ⟨b4,0,none⟩)]⟩,#[]⟩ (.panicking (faultC e i)) s h R:=by
 refine LeaveVC.recovers (f:=zE (.pointer (some ⟨b2,0,none⟩)) (.pointer (some ⟨b3,0,none⟩)) (.pointer (some ⟨b4,0,none⟩))) (.iface 102 (.agg ⟨[.int .i64 e,.int .i64 i]⟩)) Tryz.func48 rfl (n:=21) (by kernel_rfl) (by kernel_rfl) rfl (.inr rfl) (uK _ _ _) ?_;refine rR (neI aBp (by first|assumption|rfl) ?_);refine aCQ ?_;refine rR (assertOk con102 rfl ?_);(refine aCN o0 ty102 ?_;intro b12 m12 o12);(refine aCf o12 3 rfl ty102 rfl (by decide) (aI ⟨rfl,rfl⟩ ?_);intro m13 o13);refine aCR ?_;refine DrawVC.introB b12 [0,2] [1,3] [6] [0,1,2,3,4,5,6] mixed (by kernel_rfl) rfl (fun _ _ _ _ h=>h) ?_;refine fA st102 rfl rfl rfl ?_;refine StillVCA.load1 iE rfl rfl ((o13.cellB 3 rfl _).trans rfl) ?_;refine fA st102 rfl rfl rfl ?_;refine StillVCA.load1 aT rfl rfl ((o13.cellB 3 rfl _).trans rfl) ?_;(refine aCL o13 0 rfl eL rfl (by simp) (aI ⟨rfl,rfl⟩ ?_);intro m24 o24);refine aI ((o24.boxBlk 3 rfl).trans (o13.boxBlk 3 rfl).symm) ?_;(refine aCL o24 1 rfl iE rfl (by simp) (aI ⟨rfl,rfl⟩ ?_);intro m25 o25);refine aI ((o25.boxBlk 3 rfl).trans (o24.boxBlk 3 rfl).symm) ?_;(refine aCL o25 2 rfl aT rfl (by simp) (aI ⟨rfl,rfl⟩ ?_);intro m26 o26);exact RetVC.cell3 rfl eL iE aT h2 h3 h4 (o26.cellB 0 rfl 0) (o26.cellB 1 rfl 0) (o26.cellB 2 rfl 0) (hR _ (o26.sel [] rfl))
structure Tok where
 kind:Int
 text:aBs
 num:Int
 off:Nat
def qI (t:Tok):aVs:=[.int .i64 t.kind,.string ⟨⟨t.text⟩⟩,.int .i64 t.num,.int .i64 t.off]
def jB:List (aBs→Rd)→aBs→Rd
 | [],_=>.err 5
 | r::rs,l=>match r l with
  | .none=>jB rs l
  | x=>x
def readers:List (aBs→Rd):=[xC,pK,sB,tM]
def dQ (l:aBs):Rd:=jB readers l
def iL:Nat→aBs→Nat→Nat→Except (Int×Nat) (List Tok)
 | 0,_,_,_=>.ok []
 | f+1,l,i,k=>match l with
  | []=>.ok []
  | c::r=>match dQ (c::r) with
   | .err e=>.error (e,i)
   | .none=>.error (5,i)
   | .tok kd x n len=>if k=5000 then .error (3,i) else
    match iL f ((c::r).drop (len+cH false ((c::r).drop len))) (i+(len+cH false ((c::r).drop len))) (k+1) with
    | .error e=>.error e
    | .ok ts=>.ok (⟨kd,x,n,i⟩::ts)
def sL (t:aBs):Except (Int×Nat) (List Tok):=iL t.length (t.drop (cH false t)) (cH false t) 0
def xP (acc:List Tok):Except (Int×Nat) (List Tok)→Except (Int×Nat) (List Tok)
 | .error e=>.error e
 | .ok ts=>.ok (acc++ts)
theorem aBn {f:Nat}{l:aBs}{i k len:Nat}{kd n:Int}{x:aBs}(hl:l≠[])(hr:dQ l=.tok kd x n len)(hk:k≠5000)(acc:List Tok) :
  xP acc (iL (f+1) l i k)=xP (acc++[⟨kd,x,n,i⟩]) (iL f (l.drop (len+cH false (l.drop len))) (i+(len+cH false (l.drop len))) (k+1)):=by
 cases l with
 | nil=>exact absurd rfl hl
 | cons c r =>
  rw[iL,hr]
  simp only[if_neg hk]
  cases iL f _ _ _ with
  | error e=>rfl
  | ok ts=>simp[xP]
theorem zZ {f:Nat}{l:aBs}{i len:Nat}{kd n:Int}{x:aBs}(hl:l≠[])(hr:dQ l=.tok kd x n len) :
  iL (f+1) l i 5000=.error (3,i):=by
 cases l with
 | nil=>exact absurd rfl hl
 | cons c r=>rw[iL,hr];rfl
theorem vT {f:Nat}{l:aBs}{i k:Nat}{e:Int}(hl:l≠[])(hr:dQ l=.err e) :
  iL (f+1) l i k=.error (e,i):=by
 cases l with
 | nil=>exact absurd rfl hl
 | cons c r=>rw[iL,hr]
theorem vS (f i k:Nat):iL f [] i k=.ok []:=by
 cases f<;>rfl
theorem nF:∀(l acc:aBs)(k:Nat) {kd n:Int}{x:aBs}{len:Nat},dX l acc k=.tok kd x n len→k+2≤len∧len≤k+1+l.length
 | [],_,_,_,_,_,_,h=>by cases h
 | [c],acc,k,_,_,_,_,h=>by
  rw[dX]at h
  split at h
  ·split at h
   ·cases h
   ·injection h with _ _ _ e;subst e;simp
  ·split at h<;>cases h
 | c::d::r,acc,k,_,_,_,_,h=>by
  rw[dX]at h
  split at h
  ·split at h
   ·cases h
   ·injection h with _ _ _ e;subst e;simp;omega
  ·split at h
   ·cases h
   ·split at h
    ·split at h
     ·cases h
     ·have:=nF r _ _ h;simp;omega
    ·have:=nF (d::r) _ _ h;simp at this ⊢;omega
theorem aA5 {p:UInt8→Bool}{c:UInt8}{r:aBs}(h:p c=true):1≤bM p (c::r):=by
 unfold bM;rw[aDu,h];simp
theorem jT {l:aBs}{kd n:Int}{x:aBs}{len:Nat}(h:dQ l=.tok kd x n len):1≤len∧len≤l.length:=by
 have h1:=nB cJ l;have h2:=nB bU l;unfold dQ readers jB at h;split at h
 ·unfold jB at h
  split at h
  ·unfold jB at h
   split at h
   ·unfold jB at h
    split at h
    ·cases h
    ·unfold tM at h
     split at h
     ·cases h
     ·rename_i hs
      injection h with _ _ _ e
      subst e
      refine⟨by omega,?_⟩
      unfold sJ;split
      ·rename_i hh
       rcases hh with hh|hh
       ·exact lD hh
       ·exact lD hh
      ·split
       ·simp
       ·split<;>simp
   ·unfold sB at h
    split at h
    ·cases h
    ·split at h
     ·have:=nF _ _ _ h
      simp;omega
     ·cases h
  ·unfold pK at h
   split at h
   ·cases h
   ·split at h
    ·cases h
    ·injection h with _ _ _ e
     omega
 ·cases l with
  | nil=>cases h
  | cons c r =>
   simp only[xC]at h
   split at h
   ·rename_i hc
    split at h
    ·cases h
    ·injection h with _ _ _ e
     have:=aA5 (p:=cJ) (c:=c) (r:=r) (by unfold cJ;rw[hc];rfl)
     omega
   ·cases h
def lG (h:Heap)(t:aBs)(v:Value)(h':Heap):Prop :=
 if 20000<t.length then v=.tuple ⟨[.slice none 0 0,.int .i64 3,.int .i64 (-1)]⟩∧Own h [] h'
 else match sL t with
  | .error (e,i)=>v=.tuple ⟨[.slice none 0 0,.int .i64 e,.int .i64 i]⟩∧Own h [] h'
  | .ok ts=>∃ u,v=.tuple ⟨[u,.int .i64 0,.int .i64 0]⟩∧Own h [row u 112 4 ts.length (ts.flatMap qI)] h'
def fnV (b:Nat)(f:FuncId):Value:=.func (.func f) ⟨[.pointer (some ⟨b,0,none⟩)]⟩ ⟨[]⟩
def fnsV (b:Nat):aVs:=[fnV b 49,fnV b 50,fnV b 51,fnV b 52]
theorem reader_at (b:Nat)(t:aBs)(q:Nat)(hq:q<4):∃ g r,(fnsV b)[q]?=some (fnV b g)∧readers.drop q=r::readers.drop (q+1) ∧
  ∀(i:Nat) (h:Heap),i<t.length→t.length≤1000000→aY h ⟨b,0,none⟩=some (.string ⟨⟨t⟩⟩)→aY h ⟨b,1,none⟩=some (.int .i64 i)→Spec Tryz.prog g [.pointer (some ⟨b,0,none⟩)] h (RdE h i (r (t.drop i))):=by
 match q,hq with
 | 0,_=>exact⟨_,_,rfl,rfl,fun i h hi hl h0 h1=>name_spec b t i h hi hl h0 h1⟩
 | 1,_=>exact⟨_,_,rfl,rfl,fun i h hi hl h0 h1=>number_spec b t i h hi hl h0 h1⟩
 | 2,_=>exact⟨_,_,rfl,rfl,fun i h hi hl h0 h1=>quoted_spec b t i h hi hl h0 h1⟩
 | 3,_=>exact⟨_,_,rfl,rfl,fun i h hi hl h0 h1=>symbol_spec b t i h hi hl h0 h1⟩
theorem lex_spec (t:aBs)(h:Heap)(hl:t.length≤9223372036854775807) :
  bZ Tryz.prog 25 [.string ⟨⟨t⟩⟩] h (lG h t):=by
 refine Spec.enterD Tryz.func25 rfl (n:=77) (by kernel_rfl) (by kernel_rfl) ?_;have o0:=Own.refl h;by_cases hbig:20000<t.length
 ·(refine aCN o0 eL ?_;intro b10 m10 o10)
  (refine aCN o10 iE ?_;intro b11 m11 o11);(refine aCN o11 aT ?_;intro b12 m12 o12);refine rR (aCy rfl cT ?_);refine aCP (fun c14=>?_) (fun hc=>absurd (by omega) hc);(refine aCf o12 0 rfl eL rfl (by decide) (aI ⟨rfl,rfl⟩ ?_);intro m15 o15);(refine aCf o15 1 rfl iE rfl (by decide) (aI ⟨rfl,rfl⟩ ?_);intro m16 o16);(refine aCf o16 2 rfl aT rfl (by decide) (aI ⟨rfl,rfl⟩ ?_);intro m17 o17);refine RetVC.cell3 rfl eL iE aT rfl rfl rfl (o17.cellB 0 rfl 0) (o17.cellB 1 rfl 0) (o17.cellB 2 rfl 0) ?_;show lG h t _ _
  rw[lG,if_pos hbig]
  exact⟨rfl,o17.sel [] rfl⟩
 ·have hP:∀ v h',lG h t v h'=_:=fun v h'=>by rw[lG,if_neg hbig]
  (refine aCN o0 eL ?_;intro b20 m20 o20);(refine aCN o20 iE ?_;intro b21 m21 o21);(refine aCN o21 aT ?_;intro b22 m22 o22);refine rR (aCy rfl cT ?_);refine aCP (fun hc=>absurd hc (by omega)) (fun c24=>?_);refine DeferVC.closure (by simp) ?_;refine rR (aCl dA ?_);refine aI rfl ?_;(refine aCq o22 rfl ?_;intro b31 m31 o31);refine rR (aCx ?_);refine rR (aCx ?_);refine rR (aCx ?_);refine rR (aCx ?_);refine rR (buildA arr108 ty108 rfl rfl rfl (aI rfl ?_));refine rR (aCl st110 ?_);refine aI rfl ?_;(refine aCN o31 ty110 ?_;intro b38 m38 o38);(refine aCf o38 4 rfl ty110 rfl (by decide) (aI ⟨rfl,rfl⟩ ?_);intro m39 o39);have ol:=o39.lend [3] [0,1,2,4] rfl;refine aCT (aA6 _ b31 t 0 _ (by omega) (by omega) ol) ?_;rintro _ m40 ⟨rfl,os⟩;have o40:Own h [box b20 [.slice none 0 0] 64,box b21 [.int .i64 0] 27,box b22 [.int .i64 0] 3,box b31 [.string ⟨⟨t⟩⟩,.int .i64 (0+cH false (t.drop 0):Nat)] 106,box b38 (fnsV b31) 110] m40:=os.back.sel [1,2,3,0,4] rfl;have hgle:=pQ false t
  simp only[aDp,List.drop_zero]at o40
  generalize hT:sL t=T at hP
  have hT0:xP [] (iL (t.length) (t.drop (cH false t)) (cH false t) 0)=T:=by
   rw[← hT,sL]
   cases iL t.length (t.drop (cH false t)) (cH false t) 0<;>rfl
  have on:=o40.nilRow 112 4;refine aCZ [8,9,10,30,31,32,33,34,35,36,37,38,39,40,41,42,43,44,45,46,47,48,49,50,51,52,53,54,55,56,57,58,59,60,61,62,63,64,65,66,67,68,69,70,71,72,73,74,75] [] (fun _ hh=>∃(f j:Nat) (acc:List Tok) (v:Value),j≤t.length∧t.length≤j+f∧acc.length≤j∧acc.length≤5000∧xP acc (iL f (t.drop j) j acc.length)=T∧Own h [box b20 [v] 64,box b21 [.int .i64 0] 27,box b22 [.int .i64 0] 3,box b31 [.string ⟨⟨t⟩⟩,.int .i64 (j:Nat)] 106,box b38 (fnsV b31) 110,row v 112 4 acc.length (acc.flatMap qI)] hh) (fun _ hh=>leftM b31 t hh) ?_ ?_
  ·exact⟨t.length,cH false t,[],_,hgle,by omega,by simp,by simp,hT0,on⟩
  ·rintro vs junk hh ⟨f,j,acc,v,hj,hf,haj,hac,hQ,oh⟩
   obtain⟨va,vc,rfl⟩:=oh.rowIs 5 rfl
   by_cases hlt:j<t.length
   ·have hdn:t.drop j≠[]:=fun e=>by have:=congrArg List.length e;simp at this;omega
    obtain⟨f,rfl⟩:∃ f',f=f'+1:=⟨f - 1,by omega⟩
    refine rR (nC rfl ?_);refine rR (fA dA rfl rfl rfl ?_);refine rR (aCc oh 3 rfl aT rfl rfl ?_);refine rR (aCy rfl cT ?_);refine aCP (fun c64=>?_) (fun hc=>absurd (by omega) hc);refine rR (fA st110 rfl rfl rfl ?_);refine rR (aCg oh 4 rfl ty108 rfl rfl rfl ?_);refine aCZ [8,9,10,39,40,41,42,43,44,45,46,47,48,49,50,51,52,53,54,55,56,57,58,59,60,61,62,63,64,65,66,67,68,69,70,71,72,73] [39] (fun vs h2=>∃ q,q≤4∧vs=[.int .i64 (q:Nat)]∧jB (readers.drop q) (t.drop j)=dQ (t.drop j)∧Own h [box b20 [.slice va acc.length vc] 64,box b21 [.int .i64 0] 27,box b22 [.int .i64 0] 3,box b31 [.string ⟨⟨t⟩⟩,.int .i64 (j:Nat)] 106,box b38 (fnsV b31) 110,row (.slice va acc.length vc) 112 4 acc.length (acc.flatMap qI)] h2) (fun vs _=>match vs with|[.int _ q]=>4 - q.toNat|_=>0) ?_ ?_
    ·exact⟨0,by omega,rfl,rfl,oh⟩
    ·rintro vs junk h2 ⟨q,hq,rfl,hR,oq⟩
     by_cases hq4:q<4
     ·obtain⟨g,r,hg,hd,hsp⟩:=reader_at b31 t q hq4
      rw[hd]at hR
      refine aCP (fun c70=>?_) (fun hc=>absurd (by omega) hc);refine rR (indexA arr108 rfl rfl (by omega) (by omega) (by first|rfl|assumption) ?_);refine aC0 ?_;refine aCU (hsp j _ hlt (by omega) (oq.cellB 3 rfl 0) (oq.cellB 3 rfl 1)) ?_ ?_
      ·rintro v h3 ⟨hv,oe⟩
       have o3:=oq.ext' oe;cases hr:r (t.drop j) with
       | err e=>rw[hr]at hv;exact hv.elim
       | none =>
        rw[hr]at hv
        obtain⟨k',x',n',a',rfl⟩:=hv
        have hR':jB (readers.drop (q+1)) (t.drop j)=dQ (t.drop j):=by rw[← hR,jB,hr]
        (refine aCN o3 bB ?_;intro b100 m100 o100);(refine aCf o100 6 rfl bB rfl (by decide) (aI ⟨rfl,rfl⟩ ?_);intro m101 o101);refine aCQ ?_;refine aCW (by omega) (by omega) ?_
        refine⟨rfl,?_⟩
        exact⟨⟨q+1,by omega,rfl,hR',Own.sel ‹_› [0,1,2,3,4,5] rfl⟩,by simp;omega⟩
       | tok k' x' n' len =>
        rw[hr]at hv
        obtain rfl:=hv;have hR':dQ (t.drop j)=.tok k' x' n' len:=by rw[← hR,jB,hr]
        obtain⟨hl1,hl2⟩:=jT hR'
        rw[aDF]at hl2
        by_cases hfull:acc.length=5000
        ·rw[hfull,zZ hdn hR']at hQ
         (refine aCN o3 bB ?_;intro b120 m120 o120);(refine aCf o120 6 rfl bB rfl (by decide) (aI ⟨rfl,rfl⟩ ?_);intro m121 o121);refine aCP (fun hc=>absurd hc (by omega)) (fun c122=>?_);refine rR (aCc o121 0 rfl eL rfl rfl ?_);refine rR (aCk rfl fH ?_);refine aCP (fun c125=>?_) (fun hc=>absurd (by omega) hc);refine aCU (gT 3 b31 t j _ (Own.cellB ‹_› 3 rfl 1)) (fun _ _ h=>h.elim) (fun c h4 ⟨hc,ho⟩=>?_);subst hc;have o5:Own h [box b20 [.slice va acc.length vc] 64,box b21 [.int .i64 0] 27,box b22 [.int .i64 0] 3] _:=(Own.ext' ‹_› ho).sel [0,1,2] rfl;refine vU _ _ _ _ b20 b21 b22 _ _ _ 3 j o5 rfl rfl rfl fun h' o'=>?_;show lG h t _ _
         rw[hP,← hQ]
         exact⟨rfl,o'⟩
        ·rw[aBn hdn hR' hfull]at hQ
         (refine aCN o3 bB ?_;intro b140 m140 o140);(refine aCf o140 6 rfl bB rfl (by decide) (aI ⟨rfl,rfl⟩ ?_);intro m141 o141);refine aCP (fun hc=>absurd hc (by omega)) (fun c142=>?_);refine rR (aCc o141 0 rfl eL rfl rfl ?_);refine rR (aCk rfl fH ?_);refine aCP (fun hc=>absurd hc (by omega)) (fun c145=>?_);refine rR (nC rfl ?_);refine rR (fA dA rfl rfl rfl ?_);refine rR (aCc o141 3 rfl aT rfl rfl ?_);refine rR (fA eN rfl rfl rfl ?_);(refine aCL o141 6 rfl aT rfl (by simp) (aI ⟨rfl,rfl⟩ ?_);intro m150 o150);refine rR (aCc o150 0 rfl eL rfl rfl ?_);refine rR (aCg o150 6 rfl bB rfl rfl rfl ?_);(refine aCB o150 fH bB rfl rfl (by decide) ?_);refine aI rfl ?_;intro b154 m154 o154;refine aCO ‹_› 5 rfl fH bB (by decide) (Own.boxArrN ‹_› 7 rfl (n:=1) rfl (by omega)) (by simp[Value.oneCell']) (by simp only[maxLen];omega) (by omega) ?_;intro v155 m155 o155
         obtain⟨ua,uc,rfl⟩:=o155.rowIs 5 rfl
         (refine aCL o155 0 rfl eL rfl (by simp) (aI ⟨rfl,rfl⟩ ?_);intro m160 o160);refine rR (nC rfl ?_);refine rR (fA dA rfl rfl rfl ?_);refine rR (aCc o160 3 rfl aT rfl rfl ?_);refine aCW (by omega) (by omega) ?_;refine rR (nC rfl ?_);refine rR (fA dA rfl rfl rfl ?_);(refine aCL o160 3 rfl aT rfl (by simp) (aI ⟨rfl,rfl⟩ ?_);intro m166 o166);refine aCT (aA6 _ b31 t (j+len) _ (by omega) (by omega) (Own.lend ‹_› [3] [0,1,2,4,5] rfl)) ?_;rintro _ m170 ⟨rfl,os⟩;have o170:Own h [box b20 [.slice ua (acc.length+1) uc] 64,box b21 [.int .i64 0] 27,box b22 [.int .i64 0] 3,box b31 [.string ⟨⟨t⟩⟩,.int .i64 (j+len+cH false (t.drop (j+len)):Nat)] 106,box b38 (fnsV b31) 110,row (.slice ua (acc.length+1) uc) 112 4 (acc.length+1) (acc.flatMap qI++qI ⟨k',x',n',j⟩)] m170:=os.back.sel [1,2,3,0,4,5] rfl;have hgl:=pQ false (t.drop (j+len))
         rw[aDF]at hgl
         simp only[aDA]at hQ
         generalize cH false (t.drop (j+len))=gg at *
         refine⟨rfl,?_⟩
         have hm1:=rF (b:=b31) (j:=j) (t:=t) (ty:=106) (oh.lend [3] [0,1,2,4,5] rfl);have hm2:=rF (b:=b31) (j:=j+len+gg) (t:=t) (ty:=106) (o170.lend [3] [0,1,2,4,5] rfl)
         refine⟨⟨f,j+len+gg,acc++[⟨k',x',n',j⟩],.slice ua (acc.length+1) uc,by omega,by omega,by simp;omega,by simp;omega,?_,?_⟩,?_⟩
         ·rw[← hQ,aDa]
          simp only[aDb,aDn,aDp,Nat.add_assoc]
         ·have e1:(acc++[(⟨k',x',n',j⟩:Tok)]).length=acc.length+1:=by simp
          have e2:(acc++[(⟨k',x',n',j⟩:Tok)]).flatMap qI=acc.flatMap qI++qI ⟨k',x',n',j⟩:=by simp
          rw[e1,e2]
          exact o170
         ·rw[hm1,hm2]
          omega
      ·rintro c h3 ⟨hc,oe⟩
       cases hr:r (t.drop j) with
       | err e =>
        rw[hr]at hc
        subst hc;have hR':dQ (t.drop j)=.err e:=by rw[← hR,jB,hr]
        rw[vT hdn hR']at hQ
        refine vU _ _ _ _ b20 b21 b22 _ _ _ e j ((oq.ext' oe).sel [0,1,2] rfl) rfl rfl rfl fun h' o'=>?_;show lG h t _ _
        rw[hP,← hQ]
        exact⟨rfl,o'⟩
       | none=>rw[hr]at hc;exact hc.elim
       | tok _ _ _ _=>rw[hr]at hc;exact hc.elim
     ·obtain rfl:q=4:=by omega
      refine aCR ?_;refine aCU (gT 5 b31 t j _ (oq.cellB 3 rfl 1)) (fun _ _ h=>h.elim) (fun c h4 ⟨hc,ho⟩=>?_);subst hc
      rw[vT hdn hR.symm]at hQ
      refine vU _ _ _ _ b20 b21 b22 _ _ _ 5 j ((oq.ext' ho).sel [0,1,2] rfl) rfl rfl rfl fun h' o'=>?_;show lG h t _ _
      rw[hP,← hQ]
      exact⟨rfl,o'⟩
   ·have hd:t.drop j=[]:=aDr (by omega)
    rw[hd,vS]at hQ
    simp only[xP,aDc]at hQ
    refine rR (nC rfl ?_);refine rR (fA dA rfl rfl rfl ?_);refine rR (aCc oh 3 rfl aT rfl rfl ?_);refine rR (aCy rfl cT ?_);refine aCP (fun hc=>absurd hc (by omega)) (fun c84=>?_);refine rR (aCc oh 0 rfl eL rfl rfl ?_);(refine aCL oh 0 rfl eL rfl (by simp) (aI ⟨rfl,rfl⟩ ?_);intro m86 o86);(refine aCf o86 1 rfl iE rfl (by decide) (aI ⟨rfl,rfl⟩ ?_);intro m87 o87);(refine aCf o87 2 rfl aT rfl (by decide) (aI ⟨rfl,rfl⟩ ?_);intro m88 o88);refine leave_ok _ _ _ _ _ _ ?_;refine RetVC.cell3 rfl eL iE aT rfl rfl rfl (o88.cellB 0 rfl 0) (o88.cellB 1 rfl 0) (o88.cellB 2 rfl 0) ?_;show lG h t _ _
    rw[hP,← hQ]
    exact⟨_,rfl,o88.sel [5] rfl⟩
structure Vl where
 k:Int
 n:Int
 t:aBs
structure Opd where
 var:aBs
 attr:aBs
 con:Bool
 val:Vl
structure Cnd where
 left:Opd
 op:Int
 right:Opd
 add:Int
structure Col where
 name:aBs
 kind:Int
 dflt:Vl
structure Trm where
 attr:aBs
 measure:Int
 tol:Int
 num:Int
 den:Int
 gives:Int
 takes:Int
structure Nmd where
 name:aBs
 val:Vl
structure Vr where
 name:aBs
 table:aBs
inductive Ex where
 | mk (kind:Int) (table:aBs) (kids:List Ex) (conds:List Cnd) (names:List aBs) (attr:aBs) (as_:aBs) (agg:Int) (off:Nat)
structure It where
 kind:Int
 name:aBs
 off:Nat
 table:aBs
 attr:aBs
 cols:List Col
 names:List aBs
 by_:Int
 n:Int
 m:Int
 terms:List Trm
 other:aBs
 oattr:aBs
 fixed:List Nmd
 vars:List Vr
 conds:List Cnd
 expr:Ex
def vl0:Vl:=⟨0,0,[]⟩
def ex0:Ex:=.mk 0 [] [] [] [] [] [] 0 0
def it0:It:=⟨0,[],0,[],[],[],[],0,0,0,[],[],[],[],[],[],ex0⟩
def PM (α:Type):=List Tok→Except (Int×Nat) (α×List Tok)
instance:Monad PM where
 pure a:=fun ts=>.ok (a,ts)
 bind m f:=fun ts=>match m ts with
  | .error e=>.error e
  | .ok (a,r)=>f a r
def ifP {α:Type}(c:Bool)(m:PM α)(d:α):PM α:=if c=true then m else pure d
theorem jI {α:Type}{c:Bool}{m:PM α}{d:α}(h:c=true):ifP c m d=m:=if_pos h
theorem lX {α:Type}{c:Bool}{m:PM α}{d:α}(h:c=false):ifP c m d=pure d:=if_neg (by rw[h];decide)
section
variable (z : Nat)
def aA0 (e:Int)(ts:List Tok):Int×Nat:=match ts with
 | []=>(7,z)
 | t::_=>(e,t.off)
def pZ {α:Type}(e:Int):PM α:=fun ts=>.error (aA0 z e ts)
def dF (t:Tok)(s:aBs):Bool:=decide (t.text=s∧(t.kind=1∨t.kind=4))
def bC:List aBs→List Tok→Bool
 | [],_=>true
 | _::_,[]=>false
 | s::ss,t::ts=>dF t s&&bC ss ts
def cM (s:aBs):PM Bool:=fun ts=>if bC [s] ts then .ok (true,ts.tail) else .ok (false,ts)
def need1 (s:aBs):PM Unit:=do
 if ← cM s then pure () else pZ z 4
def aW:List aBs→PM Unit
 | []=>pure ()
 | s::r=>do
  need1 z s
  aW r
def fO (k:Int):PM Tok:=fun ts=>match ts with
 | []=>.error (7,z)
 | t::r=>if t.kind=k then .ok (t,r) else .error (4,t.off)
def cV:PM aBs:=do
 let t ← fO z 1
 pure t.text
def lU:PM Int:=do
 let t ← fO z 2
 pure t.num
def eC:List aBs→Int→PM Int
 | [],_=>pZ z 4
 | s::r,i=>do
  if ← cM s then pure i else eC r (i+1)
def listA {α:Type}(sep:aBs)(one:PM α):Nat→List α→PM (List α)
 | 0,acc=>pure acc
 | f+1,acc=>do
  if ← cM sep then
   let a ← one
   listA sep one f (acc++[a])
  else pure acc
def hO {α:Type}(sep:aBs)(one:PM α):PM (List α):=do
 let a ← one
 fun ts=>listA sep one (ts.length+1) [a] ts
def nI:PM (List aBs):=hO [44] (cV z)
def oK:PM (Option Vl):=do
 if ← cM [45] then
  let n ← lU z
  pure (some ⟨2,-n,[]⟩)
 else if ← cM [64] then
  let n ← lU z
  pure (some ⟨3,n,[]⟩)
 else if ← cM [116,114,117,101] then pure (some ⟨4,1,[]⟩)
 else if ← cM [102,97,108,115,101] then pure (some ⟨4,0,[]⟩)
 else if ← cM [110,117,108,108] then pure (some vl0)
 else pure none
def namesU (s:aBs):PM (List aBs):=fun ts=>if bC [s] ts=true then .ok ([],ts) else nI z ts
def dM:PM (Option Vl):=fun ts=>match ts with
 | []=>.ok (none,[])
 | t::r =>
  if t.kind=3 then .ok (some ⟨1,0,t.text⟩,r)
  else if t.kind=2 then .ok (some ⟨2,t.num,[]⟩,r)
  else oK z (t::r)
def mX:PM Vl:=do
 match ← dM z with
 | some v=>pure v
 | none=>pZ z 4
def nY:PM Opd:=do
 match ← dM z with
 | some v=>pure ⟨[],[],true,v⟩
 | none =>
  let first ← cV z
  if ← cM [46] then
   let a ← cV z
   pure ⟨first,a,false,vl0⟩
  else pure ⟨[],first,false,vl0⟩
def sR:PM Cnd:=do
 let l ← nY z
 let op ← eC z [[61],[33,61],[60],[60,61]] 1
 let r ← nY z
 if ← cM [43] then
  let n ← lU z
  pure ⟨l,op,r,n⟩
 else if ← cM [45] then
  let n ← lU z
  pure ⟨l,op,r,-n⟩
 else pure ⟨l,op,r,0⟩
def mC:PM (List Cnd):=do
 aW z [[119,104,101,114,101]]
 hO [97,110,100] (sR z)
def cG:List aBs:=[[115,101,108,101,99,116],[112,114,111,106,101,99,116],[106,111,105,110],[117,110,105,111,110],[109,105,110,117,115],[114,101,110,97,109,101],[103,114,111,117,112]]
def gP (ts:List Tok):Option Nat:=(List.range 7).find? fun i=>bC [cG.getD i [],[40]] ts
def mQ (off:Nat)(t:aBs):Ex:=.mk 1 t [] [] [] [] [] 0 off
def dZ (i:Nat)(off:Nat)(kids:List Ex):PM Ex :=
 match i with
 | 0=>do
  let c ← mC z
  pure (.mk 2 [] kids c [] [] [] 0 off)
 | 1=>do
  aW z [[111,110]]
  let l ← namesU z [41]
  pure (.mk 3 [] kids [] l [] [] 0 off)
 | 5=>do
  aW z [[44]]
  let a ← cV z
  aW z [[97,115]]
  let b ← cV z
  pure (.mk 7 [] kids [] [] a b 0 off)
 | 6=>do
  aW z [[111,110]]
  let l ← namesU z [119,105,116,104]
  aW z [[119,105,116,104]]
  let g ← eC z [[99,111,117,110,116],[115,117,109],[108,101,97,115,116],[103,114,101,97,116,101,115,116]] 1
  let a ← ifP (g != 1) (cV z) []
  aW z [[97,115]]
  let b ← cV z
  pure (.mk 8 [] kids [] l a b g off)
 | i=>pure (.mk (2+i) [] kids [] [] [] [] 0 off)
def sH (i:Nat):Bool:=i == 2||i == 3||i == 4
def bF:List Tok→Nat
 | []=>0
 | t::_=>t.off
def bT:Nat→PM Ex
 | 0=>pZ z 3
 | n+1=>fun ts=>match gP ts with
  | none=>(do
   let t ← cV z
   pure (mQ (bF ts) t):PM Ex) ts
  | some i=>(do
   aW z [cG.getD i [],[40]]
   let a ← bT n
   let kids ← ifP (sH i) (do
    aW z [[44]]
    let b ← bT n
    pure [a,b]) [a]
   let x ← dZ z i (bF ts) kids
   aW z [[41]]
   pure x:PM Ex) ts
def lE:PM Col:=do
 let a ← cV z
 let k ← eC z [[116,101,120,116],[110,117,109,98,101,114],[100,97,121],[102,108,97,103]] 1
 if ← cM [61] then
  let v ← mX z
  pure ⟨a,k,v⟩
 else pure ⟨a,k,vl0⟩
def mG:PM Trm:=do
 let a ← cV z
 let m ← eC z [[101,113,117,97,108],[101,100,105,116],[106,97,99,99,97,114,100],[106,97,114,111],[110,101,97,114]] 1
 let tol ← ifP (m == 5) (lU z) 0
 aW z [[108,101,97,115,116]]
 let num ← lU z
 let den ← (do if ← cM [47] then lU z else pure 1:PM Int)
 aW z [[103,105,118,101,115]]
 let g ← lU z
 let tk ← (do if ← cM [116,97,107,101,115] then lU z else pure 0:PM Int)
 aW z [[59]]
 pure ⟨a,m,tol,num,den,g,tk⟩
def kA:PM (aBs×aBs):=do
 let t ← cV z
 aW z [[46]]
 let a ← cV z
 pure (t,a)
def lY:PM Nmd:=do
 let n ← cV z
 aW z [[61]]
 let v ← mX z
 pure ⟨n,v⟩
def yM:PM Vr:=do
 let t ← cV z
 let n ← cV z
 pure ⟨n,t⟩
def yS (x:It):PM It:=do
 aW z [[40]]
 let c ← hO [44] (lE z)
 aW z [[41],[107,101,121]]
 let l ← nI z
 pure { x with cols:=c,names:=l }
def tO (x:It):PM It:=do
 aW z [[116,114,117,115,116]]
 let n ← lU z
 pure { x with n:=n }
def aAE (x:It):PM It:=do
 aW z [[111,110]]
 let p ← kA z
 aW z [[98,121]]
 let b ← eC z [[101,120,97,99,116],[116,111,107,101,110],[112,114,101,102,105,120],[115,107,101,116,99,104]] 1
 if b=3 then
  let n ← lU z
  pure { x with table:=p.1,attr:=p.2,by_:=b,n:=n }
 else if b=4 then
  let n ← lU z
  let m ← lU z
  pure { x with table:=p.1,attr:=p.2,by_:=b,n:=n,m:=m }
 else pure { x with table:=p.1,attr:=p.2,by_:=b }
def termsA:Nat→List Trm→PM (List Trm)
 | 0,acc=>pure acc
 | f+1,acc=>fun ts=>(if bC [[125]] ts then pure acc else do
  let a ← mG z
  termsA f (acc++[a]):PM (List Trm)) ts
def zT (x:It):PM It:=do
 aW z [[111,110]]
 let t ← cV z
 aW z [[97,116]]
 let n ← lU z
 aW z [[123]]
 let l ← (fun ts=>termsA z (ts.length+1) [] ts)
 pure { x with table:=t,n:=n,terms:=l }
def keepP (x:It):PM It:=do
 let p ← kA z
 aW z [[98,121]]
 let b ← eC z [[108,97,116,101,115,116],[109,111,115,116],[116,114,117,115,116,101,100],[108,111,110,103,101,115,116],[108,101,97,115,116],[103,114,101,97,116,101,115,116]] 1
 pure { x with table:=p.1,attr:=p.2,by_:=b }
def jG (x:It):PM It:=do
 aW z [[111,110]]
 let t ← cV z
 aW z [[40]]
 let l ← nI z
 aW z [[41]]
 pure { x with table:=t,names:=l }
def uO (x:It):PM It:=do
 let y ← jG z x
 aW z [[116,111]]
 let a ← cV z
 if ← cM [119,104,101,114,101] then
  let f ← hO [44] (lY z)
  pure { y with attr:=a,fixed:=f }
 else pure { y with attr:=a }
def rH (x:It):PM It:=do
 let p ← kA z
 aW z [[105,110]]
 let q ← kA z
 pure { x with table:=p.1,attr:=p.2,other:=q.1,oattr:=q.2 }
def denyP (x:It):PM It:=do
 let v ← hO [44] (yM z)
 let c ← mC z
 pure { x with vars:=v,conds:=c }
def zH (x:It):PM It:=do
 aW z [[61]]
 let e ← bT z 12
 pure { x with expr:=e }
def dS:List aBs:=[[116,97,98,108,101],[115,111,117,114,99,101],[98,108,111,99,107],[109,97,116,99,104],[107,101,101,112],[117,110,105,113,117,101],[100,101,112,101,110,100],[105,110,99,108,117,100,101],[100,101,110,121],[113,117,101,114,121]]
def jU (k:Int)(x:It):PM It :=
 if k=1 then yS z x else if k=2 then tO z x else if k=3 then aAE z x else if k=4 then zT z x else if k=5 then keepP z x
 else if k=6 then jG z x else if k=7 then uO z x else if k=8 then rH z x else if k=9 then denyP z x else zH z x
def iA:PM It:=fun ts=>(do
 let k ← eC z dS 1
 let nm ← ifP (k != 5) (cV z) []
 let x ← jU z k { it0 with kind:=k,name:=nm,off:=bF ts }
 if k=4 then aW z [[125]] else aW z [[59]]
 pure x:PM It) ts
def iY:Nat→List It→List Tok→Except (Int×Nat) (List It)
 | 0,acc,_=>.ok acc
 | f+1,acc,ts=>match ts with
  | []=>.ok acc
  | t::r=>if acc.length=200 then .error (3,t.off) else match iA z (t::r) with
   | .error e=>.error e
   | .ok (x,q)=>iY f (acc++[x]) q
end
def kU (s:aBs):Except (Int×Nat) (List It):=match sL s with
 | .error e=>.error e
 | .ok ts=>iY s.length (ts.length+1) [] ts
theorem StillVC.aCd {α β:Type}{m:PM α}{f:α→PM β}{ts r:List Tok}{a:α}(h:m ts=.ok (a,r)):(m >>= f) ts=f a r:=by
 show(match m ts with|Except.error e=>Except.error e|Except.ok (a,r)=>f a r)=_
 rw[h]
theorem StillVC.aCe {α β:Type}{m:PM α}{f:α→PM β}{ts:List Tok}{e:Int×Nat}(h:m ts=.error e):(m >>= f) ts=.error e:=by
 show(match m ts with|Except.error e=>Except.error e|Except.ok (a,r)=>f a r)=_
 rw[h]
theorem PM.pure_eq {α:Type}(a:α)(ts:List Tok):(pure a:PM α) ts=.ok (a,ts):=rfl
theorem nH {z:Nat}{s:aBs}{ts:List Tok}(h:bC [s] ts=true):namesU z s ts=.ok ([],ts):=if_pos h
theorem kV {z:Nat}{s:aBs}{ts:List Tok}(h:bC [s] ts=false):namesU z s ts=nI z ts:=if_neg (by rw[h];decide)
theorem kR {s:aBs}{ts:List Tok}(h:bC [s] ts=true):cM s ts=.ok (true,ts.tail):=by unfold cM;rw[if_pos h]
theorem jZ {s:aBs}{ts:List Tok}(h:bC [s] ts=false):cM s ts=.ok (false,ts):=by unfold cM;rw[h];rfl
def kM (e:Int×Nat):List PanicEntry:=[{ v:=.iface 68 (.agg ⟨[.int .i64 e.1,.int .i64 e.2]⟩),recovered:=false }]
abbrev PSt (bp z:Nat)(w:Value)(tk:Item):List Item:=[box bp [w,.int .i64 z] 72,tk]
def TokOK (ts:List Tok):Prop:=∀ t∈ts,0≤t.num∧t.num≤10000000000
def cI (tk:Item)(w:Value)(ts:List Tok):Prop:=Reads tk 4 w ts.length (ts.flatMap qI)∧TokOK ts
def PEnd {α:Type}(B:Base)(bp z:Nat)(tk:Item)(n:Nat)(res:Except (Int×Nat) (α×List Tok))(V:α→Value→Prop):Ending→Heap→Prop :=
 Ends (fun v h'=>∃ a r w,res=.ok (a,r)∧V a v∧r.length≤n∧cI tk w r∧Own B (PSt bp z w tk) h')
  (fun c h'=>∃ e w,res=.error e∧c=kM e∧Own B (PSt bp z w tk) h')
def PSpec {α:Type}(g:FuncId)(args:Nat→aVs)(m:Nat→PM α)(V:α→Value→Prop):Prop :=
 ∀(B:Base) (bp z:Nat) (tk:Item) (w:Value) (ts:List Tok) (h:Heap),Own B (PSt bp z w tk) h→cI tk w ts→ts.length≤5000→Spec Tryz.prog g (args bp) h (PEnd B bp z tk ts.length (m z ts) V)
theorem PSpec.call {α:Type}{g:FuncId}{args:Nat→aVs}{m:Nat→PM α}{V:α→Value→Prop}(sp:PSpec g args m V) {s:aVs}{h:Heap}{K:KK}{Q:QQ}{B:Base}{bp z:Nat}{tk:Item}{w:Value}{ts:List Tok}
  (o:Own B (PSt bp z w tk) h) (hR:cI tk w ts) (hl:ts.length≤5000)
  (hret:∀ a r w' v h',m z ts=.ok (a,r)→V a v→r.length≤ts.length→cI tk w' r→Own B (PSt bp z w' tk) h'→K v false h')
  (hpan:∀ e w' h',m z ts=.error e→Own B (PSt bp z w' tk) h'→Q (.panic (kM e)) s h'):CallVC Tryz.prog g (args bp) s h K Q :=
 aCU (sp B bp z tk w ts h o hR hl) (fun _ _ ⟨_,_,_,h1,h2,h3,h4,h5⟩=>hret _ _ _ _ _ h1 h2 h3 h4 h5) (fun _ _ ⟨_,_,h1,h2,h3⟩=>by subst h2;exact hpan _ _ _ h1 h3)
theorem kS (e:Int)(bp z:Nat)(w:Value)(ts:List Tok)(h:Heap)(h0:aY h ⟨bp,0,none⟩=some w)(h1:aY h ⟨bp,1,none⟩=some (.int .i64 z))(hA:dD 4 h w ts.length (ts.flatMap qI)) :
  Spec Tryz.prog 27 [.pointer (some ⟨bp,0,none⟩),.int .i64 e] h (Ends (fun _ _=>False) fun c h'=>c=kM (aA0 z e ts)∧Own h [] h'):=by
 refine aCV Tryz.func27 rfl Tryz.ntmps27 (by kernel_rfl) ?_;have o0:=Own.refl h;cases ts with
 | nil =>
  refine rR (nC rfl ?_);refine rR (fA fG rfl rfl rfl ?_);refine rR (load1 eL rfl ‹_› ?_);refine rR (aCD hA fH ?_);refine aCQ ?_;refine rR (nC rfl ?_);refine rR (fA fG rfl rfl rfl ?_);refine rR (load1 aT rfl ‹_› ?_);refine rR (aCl st68 ?_);refine aI rfl ?_;refine aI rfl ?_;refine rR (aCK con68 rfl ?_);refine RunVC.panicI rfl ?_
  exact⟨rfl,o0⟩
 | cons t r =>
  have hx:(t::r)[0]?=some t:=rfl;have hln:(t::r).length=r.length+1:=rfl;refine rR (nC rfl ?_);refine rR (fA fG rfl rfl rfl ?_);refine rR (load1 eL rfl ‹_› ?_);refine rR (aCD hA fH ?_);refine aCP (fun hc=>absurd hc (by omega)) (fun c24=>?_);refine rR (nC rfl ?_);refine rR (fA fG rfl rfl rfl ?_);refine rR (load1 eL rfl ‹_› ?_);refine rR (aCn fH bB hA rfl (by omega) (by omega) ?_);refine rR (aCv hA (by omega) eN rfl rfl rfl ?_);refine rR (aCA hA aT (fun _=>rfl) rfl ‹_› rfl ?_);refine rR (aCl st68 ?_);refine aI rfl ?_;refine aI rfl ?_;refine rR (aCK con68 rfl ?_);refine RunVC.panicI rfl ?_
  exact⟨rfl,o0⟩
theorem wQ:∀(ss:List aBs)(ts:List Tok),ts.length<ss.length→bC ss ts=false
 | [],_,h=>absurd h (Nat.not_lt_zero _)
 | _::_,[],_=>rfl
 | s::ss,t::ts,h=>by
  rw[bC,wQ ss ts (by simpa using h),Bool.and_false]
theorem seesB_step {ss:List aBs}{ts:List Tok}{i:Nat}{s:aBs}{t:Tok}(hs:ss[i]?=some s)(ht:ts[i]?=some t):bC (ss.drop i) (ts.drop i)=(dF t s&&bC (ss.drop (i+1)) (ts.drop (i+1))):=by
 obtain⟨h1,rfl⟩:=aC6.1 hs
 obtain⟨h2,rfl⟩:=aC6.1 ht
 rw[aDf h1,aDf h2,bC]
theorem bL (ss:List aBs)(vs:Value)(bp:Nat)(w:Value)(ts:List Tok)(h:Heap)(h0:aY h ⟨bp,0,none⟩=some w)(hA:dD 4 h w ts.length (ts.flatMap qI))(hS:Arr h vs (strs ss))(hl:ts.length≤5000) :
  bZ Tryz.prog 111 [.pointer (some ⟨bp,0,none⟩),vs] h fun v h'=>v=.bool (bC ss ts)∧Own h [] h':=by
 refine aCV Tryz.func111 rfl Tryz.ntmps111 (by kernel_rfl) ?_;have o0:=Own.refl h;by_cases hlt:ts.length<ss.length
 ·rw[wQ ss ts hlt]
  have hsl:(strs ss).length=ss.length:=by simp[strs]
  refine rR (nC rfl ?_);refine rR (fA fG rfl rfl rfl ?_);refine rR (load1 eL rfl ‹_› ?_);refine rR (aCD hA fH ?_);refine rR (aCC hS ‹_› aK ?_);refine aCP (fun c15=>?_) (fun hc=>absurd (by omega) hc);refine aCX rfl ?_
  exact⟨rfl,o0⟩
 have hsl:(strs ss).length=ss.length:=by simp[strs]
 refine rR (nC rfl ?_);refine rR (fA fG rfl rfl rfl ?_);refine rR (load1 eL rfl ‹_› ?_);refine rR (aCD hA fH ?_);refine rR (aCC hS ‹_› aK ?_);refine aCP (fun hc=>absurd hc (by omega)) (fun c25=>?_);refine rR (aCC hS ‹_› aK ?_);refine aCZ [4,5,6,7,18,19,20,21,22,23,24,25,26,27,28,29,30,31,32,33,34,35,36,37,38,39,40,41,42,43,44] [18] (fun vs hh=>∃(i:Nat),i≤ss.length∧vs=[.int .i64 i]∧bC (ss.drop i) (ts.drop i)=bC ss ts∧Own h [] hh) (fun vs _=>match vs with|[.int _ i]=>ss.length - i.toNat|_=>0) ?_ ?_
 ·exact⟨0,by omega,rfl,rfl,o0⟩
 ·rintro vs junk hh ⟨i,hi,rfl,hE,oh⟩
  by_cases hlt2:i<ss.length
  ·obtain⟨s,hs⟩:=getx hlt2
   obtain⟨t,ht⟩:=getx (show i<ts.length by omega)
   have hss:(strs ss)[i]?=some (.string ⟨⟨s⟩⟩):=by simp[strs,hs]
   rw[seesB_step hs ht]at hE
   by_cases hw:t.text=s
   ·by_cases hk:t.kind=1∨t.kind=4
    ·have hb:dF t s=true:=decide_eq_true ⟨hw,hk⟩
     rw[hb,Bool.true_and]at hE
     refine aCP (fun c30=>?_) (fun hc=>absurd (by omega) hc);refine rR (idx aK aL (hS.ext oh.ext) rfl (by omega) (by omega) ?_);refine rR (aCE (hS.ext oh.ext) aL rfl (by first|assumption|rfl) ?_);refine rR (nC rfl ?_);refine rR (fA fG rfl rfl rfl ?_);refine rR (load1 eL rfl (oh.old h0) ?_);refine rR (aCn fH bB (hA.ext oh.ext) rfl (by omega) (by omega) ?_);refine rR (aCp bB (hA.ext oh.ext) (fun _=>rfl) (by decide) rfl ‹_› ?_);(refine aCN oh bB ?_;intro b38 m38 o38);(refine aCf o38 0 rfl bB rfl (by decide) (aI ⟨rfl,rfl⟩ ?_);intro m39 o39);refine rR (fA eN rfl rfl rfl ?_);refine rR (aCc o39 0 rfl aL rfl rfl ?_);refine aCi (fun hc=>absurd (by first|omega|assumption|decide|exact rfl) hc) (fun c42=>?_);refine rR (fA eN rfl rfl rfl ?_);refine rR (aCc o39 0 rfl aT rfl rfl ?_);refine aCi (fun c45=>?_) (fun c45=>?_);refine rR (fA eN rfl rfl rfl ?_);refine rR (aCc o39 0 rfl aT rfl rfl ?_);refine aCi (fun hc=>absurd (by first|omega|assumption|decide|exact rfl) hc) (fun c48=>?_);refine aCW (by omega) (by omega) ?_
     refine⟨rfl,?_⟩
     rotate_left
     refine aCR ?_;refine aCW (by omega) (by omega) ?_
     refine⟨rfl,?_⟩
     all_goals exact⟨⟨i+1,by omega,rfl,hE,Own.sel ‹_› [] rfl⟩,by simp;omega⟩
    ·have hb:dF t s=false:=decide_eq_false (fun e=>hk e.2)
     rw[hb,Bool.false_and]at hE
     rw[← hE]
     refine aCP (fun c50=>?_) (fun hc=>absurd (by omega) hc);refine rR (idx aK aL (hS.ext oh.ext) rfl (by omega) (by omega) ?_);refine rR (aCE (hS.ext oh.ext) aL rfl (by first|assumption|rfl) ?_);refine rR (nC rfl ?_);refine rR (fA fG rfl rfl rfl ?_);refine rR (load1 eL rfl (oh.old h0) ?_);refine rR (aCn fH bB (hA.ext oh.ext) rfl (by omega) (by omega) ?_);refine rR (aCp bB (hA.ext oh.ext) (fun _=>rfl) (by decide) rfl ‹_› ?_);(refine aCN oh bB ?_;intro b58 m58 o58);(refine aCf o58 0 rfl bB rfl (by decide) (aI ⟨rfl,rfl⟩ ?_);intro m59 o59);refine rR (fA eN rfl rfl rfl ?_);refine rR (aCc o59 0 rfl aL rfl rfl ?_);refine aCi (fun hc=>absurd (by first|omega|assumption|decide|exact rfl) hc) (fun c62=>?_);refine rR (fA eN rfl rfl rfl ?_);refine rR (aCc o59 0 rfl aT rfl rfl ?_);refine aCi (fun c65=>?_) (fun hc=>absurd hc (by first|omega|assumption|decide|exact rfl));refine rR (fA eN rfl rfl rfl ?_);refine rR (aCc o59 0 rfl aT rfl rfl ?_);refine aCi (fun c68=>?_) (fun hc=>absurd hc (by first|omega|assumption|decide|exact rfl));refine aCX rfl ?_
     exact⟨rfl,Own.sel ‹_› [] rfl⟩
   ·have hb:dF t s=false:=decide_eq_false (fun e=>hw e.1)
    rw[hb,Bool.false_and]at hE
    rw[← hE]
    refine aCP (fun c70=>?_) (fun hc=>absurd (by omega) hc);refine rR (idx aK aL (hS.ext oh.ext) rfl (by omega) (by omega) ?_);refine rR (aCE (hS.ext oh.ext) aL rfl (by first|assumption|rfl) ?_);refine rR (nC rfl ?_);refine rR (fA fG rfl rfl rfl ?_);refine rR (load1 eL rfl (oh.old h0) ?_);refine rR (aCn fH bB (hA.ext oh.ext) rfl (by omega) (by omega) ?_);refine rR (aCp bB (hA.ext oh.ext) (fun _=>rfl) (by decide) rfl ‹_› ?_);(refine aCN oh bB ?_;intro b78 m78 o78);(refine aCf o78 0 rfl bB rfl (by decide) (aI ⟨rfl,rfl⟩ ?_);intro m79 o79);refine rR (fA eN rfl rfl rfl ?_);refine rR (aCc o79 0 rfl aL rfl rfl ?_);refine aCi (fun c82=>?_) (fun hc=>absurd hc (by first|omega|assumption|decide|exact rfl));refine aCQ ?_;refine aCX rfl ?_
    exact⟨rfl,Own.sel ‹_› [] rfl⟩
  ·have hb:ss.drop i=[]:=aDr (by omega)
   rw[hb]at hE
   rw[← hE]
   refine aCP (fun hc=>absurd hc (by omega)) (fun c90=>?_);refine aCX rfl ?_
   exact⟨rfl,oh⟩
theorem cI.tail {tk:Item}{v:Value}{t:Tok}{r:List Tok}(a:Reads tk 4 v ((t::r).length - 1) (((t::r).flatMap qI).drop 4))(k:TokOK (t::r)):cI tk v r:=⟨a,fun x hx=>k x (aDU _ hx)⟩
def rU (B:Base)(v:Value)(ss:List aBs):Prop:=∀ L h,Own B L h→Arr h v (strs ss)
theorem cC (s:aBs):PSpec 104 (fun bp=>[.pointer (some ⟨bp,0,none⟩),.string ⟨⟨s⟩⟩]) (fun _=>cM s) (fun b v=>v=.bool b):=by
 intro B bp z tk w ts h o hR hl
 obtain⟨hR,hK⟩:=hR
 refine aCV Tryz.func104 rfl Tryz.ntmps104 (by kernel_rfl) ?_;(refine aCM o aK aL rfl rfl (by decide) (aI rfl ?_);intro b10 m10 o10);refine aCT (bL [s] _ bp w ts _ (Own.cellB ‹_› 0 rfl 0) (Own.reads ‹_› 1 hR rfl) (Own.boxArr ‹_› 2 rfl rfl (by decide)) hl) ?_;rintro _ h1 ⟨rfl,oc⟩;have o1:=oc.thenE ‹_›;clear oc;cases hb:bC [s] ts with
 | false =>
  refine aCQ ?_;refine aCX rfl ?_
  exact⟨false,ts,w,jZ hb,rfl,aDg _,⟨hR,hK⟩,Own.sel ‹_› [0,1] rfl⟩
 | true =>
  have ht:=kR hb;cases ts with
  | nil=>cases hb
  | cons t r =>
   have hln:(t::r).length=r.length+1:=rfl;refine aCR ?_;refine rR (nC rfl ?_);refine rR (fA fG rfl rfl rfl ?_);refine rR (aCc o1 0 rfl eL rfl rfl ?_);(refine rR (sliceTok fH bB hR (o1.satK 1 rfl) rfl (by omega) (by omega) ?_);intro v33 a33);refine rR (nC rfl ?_);refine rR (fA fG rfl rfl rfl ?_)
   obtain⟨va,vc,rfl⟩:=Reads.isS ‹_› (Own.satK o1 1 rfl)
   (refine aCL o1 0 rfl eL rfl (by simp) (aI ⟨rfl,rfl⟩ ?_);intro m40 o40);refine aCX rfl ?_
   exact⟨true,r,_,ht,rfl,by omega,cI.tail ‹_› hK,Own.sel ‹_› [0,1] rfl⟩
theorem tA (k:Int):PSpec 105 (fun bp=>[.pointer (some ⟨bp,0,none⟩),.int .i64 k]) (fun z=>fO z k) (fun t v=>v=.agg ⟨qI t⟩∧0≤t.num∧t.num≤10000000000):=by
 intro B bp z tk w ts h o hR hl
 obtain⟨hR,hK⟩:=hR
 refine aCV Tryz.func105 rfl Tryz.ntmps105 (by kernel_rfl) ?_;cases ts with
 | nil =>
  (refine aCN o bB ?_;intro b10 m10 o10);refine rR (nC rfl ?_);refine rR (fA fG rfl rfl rfl ?_);refine rR (aCc o10 0 rfl eL rfl rfl ?_);refine rR (aCD (o10.reads 1 hR rfl) fH ?_);refine aCQ ?_;refine aCQ ?_;refine aCU (kS 4 bp z w [] _ (Own.cellB ‹_› 0 rfl 0) (Own.cellB ‹_› 0 rfl 1) (Own.reads ‹_› 1 hR rfl)) (fun _ _ h=>h.elim) (fun c h4 ⟨hc,ho⟩=>?_)
  exact⟨(7,z),w,rfl,hc,(ho.thenE ‹_›).sel [0,1] rfl⟩
 | cons t r =>
  have hx:(t::r)[0]?=some t:=rfl;have hln:(t::r).length=r.length+1:=rfl;by_cases hk:t.kind=k
  ·have hm:fO z k (t::r)=.ok (t,r):=if_pos hk
   (refine aCN o bB ?_;intro b30 m30 o30);refine rR (nC rfl ?_);refine rR (fA fG rfl rfl rfl ?_);refine rR (aCc o30 0 rfl eL rfl rfl ?_);refine rR (aCD (o30.reads 1 hR rfl) fH ?_);refine aCP (fun hc=>absurd hc (by omega)) (fun c35=>?_);refine rR (nC rfl ?_);refine rR (fA fG rfl rfl rfl ?_);refine rR (aCc o30 0 rfl eL rfl rfl ?_);refine rR (aCn fH bB (o30.reads 1 hR rfl) rfl (by omega) (by omega) ?_);refine rR (aCv (o30.reads 1 hR rfl) (by omega) eN rfl rfl rfl ?_);refine rR (aCA (o30.reads 1 hR rfl) aT (fun _=>rfl) rfl ‹_› rfl ?_);refine aCi (fun hc=>absurd (by first|omega|assumption|decide|exact rfl) hc) (fun c42=>?_);refine rR (nC rfl ?_);refine rR (fA fG rfl rfl rfl ?_);refine rR (aCc o30 0 rfl eL rfl rfl ?_);refine rR (aCn fH bB (o30.reads 1 hR rfl) rfl (by omega) (by omega) ?_);refine rR (aCp bB (o30.reads 1 hR rfl) (fun _=>rfl) (by decide) rfl ‹_› ?_);(refine aCN o30 bB ?_;intro b48 m48 o48);(refine aCf o48 3 rfl bB rfl (by decide) (aI ⟨rfl,rfl⟩ ?_);intro m49 o49);refine rR (nC rfl ?_);refine rR (fA fG rfl rfl rfl ?_);refine rR (aCc o49 0 rfl eL rfl rfl ?_);(refine rR (sliceTok fH bB hR (o49.satK 1 rfl) rfl (by omega) (by omega) ?_);intro v53 a53);refine rR (nC rfl ?_);refine rR (fA fG rfl rfl rfl ?_)
   obtain⟨va,vc,rfl⟩:=Reads.isS ‹_› (Own.satK o 1 rfl)
   (refine aCL o49 0 rfl eL rfl (by simp) (aI ⟨rfl,rfl⟩ ?_);intro m60 o60);refine rR (aCg o60 3 rfl bB rfl rfl rfl ?_);(refine aCf o60 2 rfl bB rfl (by decide) (aI ⟨rfl,rfl⟩ ?_);intro m62 o62)
   first|refine aCs rfl o62 2 rfl bB rfl rfl ?_|refine aCr rfl o62 2 rfl bB rfl rfl ?_|refine RetVC.cellTT rfl o62 2 rfl bB rfl rfl ?_
   exact⟨t,r,_,hm,⟨rfl,hK t (by simp)⟩,by omega,cI.tail ‹_› hK,Own.sel ‹_› [0,1] rfl⟩
  ·have hm:fO z k (t::r)=.error (4,t.off):=if_neg hk
   (refine aCN o bB ?_;intro b70 m70 o70);refine rR (nC rfl ?_);refine rR (fA fG rfl rfl rfl ?_);refine rR (aCc o70 0 rfl eL rfl rfl ?_);refine rR (aCD (o70.reads 1 hR rfl) fH ?_);refine aCP (fun hc=>absurd hc (by omega)) (fun c75=>?_);refine rR (nC rfl ?_);refine rR (fA fG rfl rfl rfl ?_);refine rR (aCc o70 0 rfl eL rfl rfl ?_);refine rR (aCn fH bB (o70.reads 1 hR rfl) rfl (by omega) (by omega) ?_);refine rR (aCv (o70.reads 1 hR rfl) (by omega) eN rfl rfl rfl ?_);refine rR (aCA (o70.reads 1 hR rfl) aT (fun _=>rfl) rfl ‹_› rfl ?_);refine aCi (fun c82=>?_) (fun hc=>absurd hc (by first|omega|assumption|decide|exact rfl));refine aCU (kS 4 bp z w (t::r) _ (Own.cellB ‹_› 0 rfl 0) (Own.cellB ‹_› 0 rfl 1) (Own.reads ‹_› 1 hR rfl)) (fun _ _ h=>h.elim) (fun c h4 ⟨hc,ho⟩=>?_)
   exact⟨(4,t.off),w,hm,hc,(ho.thenE ‹_›).sel [0,1] rfl⟩
theorem needP_step {z:Nat}{ss:List aBs}{i:Nat}{s:aBs}(hs:ss[i]?=some s):aW z (ss.drop i)=(need1 z s >>= fun _=>aW z (ss.drop (i+1))):=by
 obtain⟨h1,rfl⟩:=aC6.1 hs
 rw[aDf h1]
 rfl
theorem oV (z:Nat) {s:aBs}{ts r:List Tok}(h:cM s ts=.ok (true,r)):need1 z s ts=.ok ((),r):=aCd h
theorem need1_no (z:Nat) {s:aBs}{ts r:List Tok}(h:cM s ts=.ok (false,r)):need1 z s ts=.error (aA0 z 4 r):=aCd h
theorem cU (s:aBs)(ts:List Tok)(e:Int×Nat):cM s ts≠.error e:=by
 unfold cM;split<;>simp
theorem iG {s:aBs}{ts r:List Tok}(h:cM s ts=.ok (false,r)):ts=r:=by
 unfold cM at h;split at h
 ·cases h
 ·injection h with h;injection h
theorem pneed_spec (ss:List aBs)(vs:Value)(B:Base)(bp z:Nat)(tk:Item)(w:Value)(ts:List Tok)(h:Heap)(hS:rU B vs ss)(o:Own B (PSt bp z w tk) h)(hR:cI tk w ts)(hl:ts.length≤5000)(hsl:ss.length≤100) :
  Spec Tryz.prog 67 [.pointer (some ⟨bp,0,none⟩),vs] h (PEnd B bp z tk ts.length (aW z ss ts) (fun _ v=>v=.tuple ⟨[]⟩)):=by
 refine aCV Tryz.func67 rfl Tryz.ntmps67 (by kernel_rfl) ?_;have hA:=hS _ _ o;have hln:(strs ss).length=ss.length:=by simp[strs]
 refine rR (aCC hA ‹_› aK ?_);refine aCZ [5,8,9,10,11,12,13,14,15,16,17,18] [8] (fun vs hh=>∃(i:Nat) (w':Value) (ts':List Tok),i≤ss.length∧vs=[.int .i64 i]∧ts'.length≤ts.length∧aW z (ss.drop i) ts'=aW z ss ts∧cI tk w' ts'∧Own B (PSt bp z w' tk) hh) (fun vs _=>match vs with|[.int _ i]=>ss.length - i.toNat|_=>0) ?_ ?_
 ·exact⟨0,w,ts,by omega,rfl,aDg _,rfl,hR,o⟩
 ·rintro vs junk hh ⟨i,w',ts',hi,rfl,hle,hE,hR',oh⟩
  have hA:=hS _ _ oh;by_cases hlt:i<ss.length
  ·obtain⟨s,hs⟩:=getx hlt
   have hss:(strs ss)[i]?=some (.string ⟨⟨s⟩⟩):=by simp[strs,hs]
   rw[needP_step hs]at hE
   refine aCP (fun c20=>?_) (fun hc=>absurd (by omega) hc);refine rR (idx aK aL hA rfl (by omega) (by omega) ?_);refine rR (aCE hA aL rfl (by first|assumption|rfl) ?_)
   refine(cC s).call oh hR' (by omega) (fun a r w2 v h2 hm hv hle2 hR2 o2=>?_) (fun e w2 h2 hm o2=>?_)
   ·subst hv
    cases a with
    | true =>
     rw[aCd (oV z hm)]at hE
     refine aCR ?_;refine aCW (by omega) (by omega) ?_
     refine⟨rfl,?_⟩
     exact⟨⟨i+1,w2,r,by omega,rfl,by omega,hE,hR2,o2⟩,by simp;omega⟩
    | false =>
     obtain rfl:=iG hm
     rw[aCe (need1_no z hm)]at hE
     refine aCQ ?_;refine aCU (kS 4 bp z w2 ts' _ (Own.cellB ‹_› 0 rfl 0) (Own.cellB ‹_› 0 rfl 1) (Own.reads ‹_› 1 hR2.1 rfl)) (fun _ _ h=>h.elim) (fun c h4 ⟨hc,ho⟩=>?_)
     exact⟨_,w2,hE.symm,hc,(ho.thenE o2).sel [0,1] rfl⟩
   ·exact absurd hm (cU s ts' e)
  ·have hd:ss.drop i=[]:=aDr (by omega)
   rw[hd]at hE
   refine aCP (fun hc=>absurd hc (by omega)) (fun c60=>?_);refine aCY rfl ?_
   exact⟨(),ts',w',hE.symm,rfl,hle,hR',oh⟩
theorem cD:PSpec 56 (fun bp=>[.pointer (some ⟨bp,0,none⟩)]) (fun z=>cV z) (fun t v=>v=.string ⟨⟨t⟩⟩):=by
 intro B bp z tk w ts h o hR hl;refine aCV Tryz.func56 rfl Tryz.ntmps56 (by kernel_rfl) ?_
 refine(tA 1).call o hR hl (fun a r w' v h' hm hv hle hR' o'=>?_) (fun e w' h' hm o'=>?_)
 ·obtain⟨rfl,hv⟩:=hv
  refine rR (fieldV eN rfl rfl rfl rfl ?_);refine aCX rfl ?_
  exact⟨_,r,w',aCd hm,rfl,hle,hR',Own.sel ‹_› [0,1] rfl⟩
 ·exact⟨e,w',aCe hm,rfl,o'⟩
theorem bR:PSpec 109 (fun bp=>[.pointer (some ⟨bp,0,none⟩)]) (fun z=>lU z) (fun n v=>v=.int .i64 n∧0≤n∧n≤10000000000):=by
 intro B bp z tk w ts h o hR hl;refine aCV Tryz.func109 rfl Tryz.ntmps109 (by kernel_rfl) ?_
 refine(tA 2).call o hR hl (fun a r w' v h' hm hv hle hR' o'=>?_) (fun e w' h' hm o'=>?_)
 ·obtain⟨rfl,hv⟩:=hv
  refine rR (fieldV eN rfl rfl rfl rfl ?_);refine aCX rfl ?_
  exact⟨_,r,w',aCd hm,⟨rfl,hv⟩,hle,hR',Own.sel ‹_› [0,1] rfl⟩
 ·exact⟨e,w',aCe hm,rfl,o'⟩
theorem wordP_step {z:Nat}{ss:List aBs}{i:Nat}{s:aBs}{k:Int}(hs:ss[i]?=some s):eC z (ss.drop i) k=(cM s >>= fun b=>if b=true then pure k else eC z (ss.drop (i+1)) (k+1)):=by
 obtain⟨h1,rfl⟩:=aC6.1 hs
 rw[aDf h1]
 rfl
theorem word1_spec (s:aBs)(pb:Nat)(B:Base)(bp z:Nat)(tk:Item)(w:Value)(ts:List Tok)(h:Heap)(o:Own B [box bp [w,.int .i64 z] 72,tk,box pb [.pointer (some ⟨bp,0,none⟩)] 70] h)(hR:cI tk w ts)(hl:ts.length≤5000) :
  bZ Tryz.prog 103 [.string ⟨⟨s⟩⟩,.pointer (some ⟨pb,0,none⟩)] h fun v h'=>∃ b r w',cM s ts=.ok (b,r)∧v=.bool b∧r.length≤ts.length∧cI tk w' r∧Own B [box bp [w',.int .i64 z] 72,tk,box pb [.pointer (some ⟨bp,0,none⟩)] 70] h':=by
 refine aCV Tryz.func103 rfl Tryz.ntmps103 (by kernel_rfl) ?_;refine rR (aCc o 2 rfl kP rfl rfl ?_)
 refine(cC s).call (o.lend [0,1] [2] rfl) hR hl (fun a r w2 v h2 hm hv hle hR2 o2=>?_) (fun e w2 h2 hm o2=>?_)
 ·subst hv
  have o3:=o2.back;refine aCX rfl ?_
  exact⟨a,r,w2,hm,rfl,hle,hR2,o3.sel [0,1,2] rfl⟩
 ·exact absurd hm (cU s ts e)
theorem indexW_spec (ss:List aBs)(vs:Value)(pb:Nat)(B:Base)(bp z:Nat)(tk:Item)(w:Value)(ts:List Tok)(h:Heap)(hS:rU B vs ss)(o:Own B [box bp [w,.int .i64 z] 72,tk,box pb [.pointer (some ⟨bp,0,none⟩)] 70] h)(hR:cI tk w ts)(hl:ts.length≤5000)(hsl:ss.length≤100) :
  bZ Tryz.prog 102 [vs,.func (.func 103) ⟨[]⟩ ⟨[.pointer (some ⟨pb,0,none⟩)]⟩] h fun v h'=>∃(j:Int) (r:List Tok) (w':Value),v=.int .i64 j∧r.length≤ts.length∧cI tk w' r ∧
   ((0≤j∧j≤100∧eC z ss 1 ts=.ok (j+1,r))∨(j=-1∧eC z ss 1 ts=.error (aA0 z 4 r)))∧Own B [box bp [w',.int .i64 z] 72,tk,box pb [.pointer (some ⟨bp,0,none⟩)] 70] h':=by
 refine aCV Tryz.func102 rfl Tryz.ntmps102 (by kernel_rfl) ?_;have hA:=hS _ _ o;have hln:(strs ss).length=ss.length:=by simp[strs]
 refine rR (aCC hA ‹_› aK ?_);refine aCZ [4,5,8,9,10,11,12,13,14,15,16,17,18] [8] (fun vs hh=>∃(i:Nat) (w':Value),i≤ss.length∧vs=[.int .i64 i]∧eC z (ss.drop i) (i+1) ts=eC z ss 1 ts∧cI tk w' ts∧Own B [box bp [w',.int .i64 z] 72,tk,box pb [.pointer (some ⟨bp,0,none⟩)] 70] hh) (fun vs _=>match vs with|[.int _ i]=>ss.length - i.toNat|_=>0) ?_ ?_
 ·exact⟨0,w,by omega,rfl,rfl,hR,o⟩
 ·rintro vs' junk hh ⟨i,w',hi,rfl,hE,hR',oh⟩
  have hA:=hS _ _ oh;by_cases hlt:i<ss.length
  ·obtain⟨s,hs⟩:=getx hlt
   have hss:(strs ss)[i]?=some (.string ⟨⟨s⟩⟩):=by simp[strs,hs]
   rw[wordP_step hs]at hE
   refine aCP (fun c20=>?_) (fun hc=>absurd (by omega) hc);refine aC0 ?_;refine rR (idx aK aL hA rfl (by omega) (by omega) ?_);refine rR (aCE hA aL rfl (by first|assumption|rfl) ?_);refine aCT (word1_spec s pb B bp z tk w' ts _ oh hR' hl) ?_;rintro _ h2 ⟨b,r,w2,hm,rfl,hle,hR2,o2⟩
   rw[aCd hm]at hE
   cases b with
   | true =>
    refine aCQ ?_;refine aCX rfl ?_
    exact⟨i,r,w2,rfl,hle,hR2,.inl ⟨by omega,by omega,hE.symm⟩,o2⟩
   | false =>
    obtain rfl:=iG hm;refine aCR ?_;refine aCW (by omega) (by omega) ?_
    refine⟨rfl,?_⟩
    exact⟨⟨i+1,w2,by omega,rfl,hE,hR2,o2⟩,by simp;omega⟩
  ·have hd:ss.drop i=[]:=aDr (by omega)
   rw[hd]at hE
   refine aCP (fun hc=>absurd hc (by omega)) (fun c60=>?_);refine aCX rfl ?_
   exact⟨-1,ts,w',rfl,aDg _,hR',.inr ⟨rfl,hE.symm⟩,oh⟩
theorem zI (ss:List aBs)(vs:Value)(B:Base)(bp z:Nat)(tk:Item)(w:Value)(ts:List Tok)(h:Heap)(hS:rU B vs ss)(o:Own B (PSt bp z w tk) h)(hR:cI tk w ts)(hl:ts.length≤5000)(hsl:ss.length≤100) :
  Spec Tryz.prog 55 [.pointer (some ⟨bp,0,none⟩),vs] h (PEnd B bp z tk ts.length (eC z ss 1 ts) (fun i v=>v=.int .i64 i)):=by
 refine aCV Tryz.func55 rfl Tryz.ntmps55 (by kernel_rfl) ?_;(refine aCq o rfl ?_;intro b10 m10 o10);refine rR (aCx ?_);refine aCT (indexW_spec ss vs b10 B bp z tk w ts _ hS ‹_› hR hl hsl) ?_;rintro _ h2 ⟨j,r,w2,rfl,hle,hR2,hj,o2⟩
 rcases hj with ⟨hj0,hj1,hm⟩|⟨rfl,hm⟩
 ·refine aCP (fun hc=>absurd hc (by omega)) (fun c20=>?_)
  refine aCW (by omega) (by omega) ?_;refine aCX rfl ?_
  exact⟨j+1,r,w2,hm,rfl,hle,hR2,o2.sel [0,1] rfl⟩
 ·refine aCQ ?_
  refine rR (aCc o2 2 rfl kP rfl rfl ?_);refine aCU (kS 4 bp z w2 r _ (Own.cellB ‹_› 0 rfl 0) (Own.cellB ‹_› 0 rfl 1) (Own.reads ‹_› 1 hR2.1 rfl)) (fun _ _ h=>h.elim) (fun c h4 ⟨hc,ho⟩=>?_)
  exact⟨_,w2,hm,hc,(ho.thenE o2).sel [0,1] rfl⟩
end Go.Proofs.YtohlogbnpfofpaaGreatDoor
