/- Part 3 of the proof of canonical: Shelf, Dec, FnLexB, FnLexN, FnLexNum, FnLexS, FnLexQ, FnLexD, FnLex, FnPm, FnPa, FnPb, FnPc. -/
import Derived.Shelf.Strconv.Atoi
import Derived.Shelf.Small.Strs
import Derived.Shelf.Strings.Prefix
import Derived.Shelf.Strings.Search1
import Derived.Ground.Names2Prog
import Derived.Shelf.Strings.Count
import Derived.Shelf.LaysM
import Derived.Shelf.LaysC
import Derived.Shelf.Strconv.Itoa3
import Derived.Shelf.Strings.Builder1
import Derived.Test.YtohlogbnpfofpaaGreatDoorProg
import Derived.Lib.ItoaMem
import Derived.Lib.AtoiErrMem
import Derived.Test.YtohlogbnpfofpaaGreatDoorPC02
set_option linter.all false
set_option maxHeartbeats 100000000
set_option maxRecDepth 100000
namespace Go.Proofs.YtohlogbnpfofpaaGreatDoor
open Go Go.Proofs
open Go.Shelf
def Tryz.lays137_ren:Go.Shelf.Ren:=⟨fun|137=>99|217=>139|266=>157|n=>n,fun|9=>9|5=>5|3=>3|n=>n,fun|n=>n⟩
theorem Tryz.lays137:Go.Proofs.Lays.n137 Tryz.prog Tryz.lays137_ren:={
 mixed:=by kernel_rfl
 f137:=Tryz.func99.trans (congrArg some (by kernel_rfl))
 f217:=Tryz.func139.trans (congrArg some (by kernel_rfl))
 f266:=Tryz.func157.trans (congrArg some (by kernel_rfl))
 t3:=Tryz.underlying3
 a3:=Tryz.isAgg3
 z3:=Tryz.sizeOf3
 v3:=Tryz.zeroValue3
 t5:=Tryz.underlying5
 a5:=Tryz.isAgg5
 z5:=Tryz.sizeOf5
 v5:=Tryz.zeroValue5
 t9:=Tryz.underlying9
 a9:=Tryz.isAgg9
 z9:=Tryz.sizeOf9
 v9:=Tryz.zeroValue9 }
open Go.RowKit in
theorem Tryz.strings_IndexByte (s:ByteArray)(c:Int)(w:World) :
  Calls Tryz.prog 99 #[.string s,.int .u8 c] w fun e w'=>e=.returned (.int .i64 (Lib.indexByte s.data.toList c.toNat.toUInt8))∧w'=w:=Any.strings_IndexByte Tryz.lays137 s c w
def Tryz.lays172_ren:Go.Shelf.Ren:=⟨fun|172=>98|244=>137|245=>138|247=>152|279=>153|280=>154|281=>155|282=>156|287=>169|316=>170|171=>150|205=>171|321=>177|322=>178|243=>167|246=>175|283=>185|284=>186|285=>187|286=>188|129=>196|317=>195|318=>197|319=>198|320=>199|337=>209|338=>210|n=>n,fun|9=>9|3=>3|75=>84|76=>120|4=>4|5=>5|167=>196|37=>52|0=>0|85=>197|2=>2|168=>199|53=>178|175=>223|46=>225|210=>227|127=>86|145=>236|143=>234|21=>21|171=>251|173=>254|212=>271|51=>208|20=>20|213=>272|232=>289|233=>290|80=>61|n=>n,fun|15=>2|16=>3|17=>5|18=>6|19=>7|n=>n⟩
theorem Tryz.lays172:Go.Proofs.Lays.n172 Tryz.prog Tryz.lays172_ren:={
 mixed:=by kernel_rfl
 f129:=Tryz.func196.trans (congrArg some (by kernel_rfl))
 f171:=Tryz.func150.trans (congrArg some (by kernel_rfl))
 f172:=Tryz.func98.trans (congrArg some (by kernel_rfl))
 f205:=Tryz.func171.trans (congrArg some (by kernel_rfl))
 f243:=Tryz.func167.trans (congrArg some (by kernel_rfl))
 f244:=Tryz.func137.trans (congrArg some (by kernel_rfl))
 f245:=Tryz.func138.trans (congrArg some (by kernel_rfl))
 f246:=Tryz.func175.trans (congrArg some (by kernel_rfl))
 f247:=Tryz.func152.trans (congrArg some (by kernel_rfl))
 f279:=Tryz.func153.trans (congrArg some (by kernel_rfl))
 f280:=Tryz.func154.trans (congrArg some (by kernel_rfl))
 f281:=Tryz.func155.trans (congrArg some (by kernel_rfl))
 f282:=Tryz.func156.trans (congrArg some (by kernel_rfl))
 f283:=Tryz.func185.trans (congrArg some (by kernel_rfl))
 f284:=Tryz.func186.trans (congrArg some (by kernel_rfl))
 f285:=Tryz.func187.trans (congrArg some (by kernel_rfl))
 f286:=Tryz.func188.trans (congrArg some (by kernel_rfl))
 f287:=Tryz.func169.trans (congrArg some (by kernel_rfl))
 f316:=Tryz.func170.trans (congrArg some (by kernel_rfl))
 f317:=Tryz.func195.trans (congrArg some (by kernel_rfl))
 f318:=Tryz.func197.trans (congrArg some (by kernel_rfl))
 f319:=Tryz.func198.trans (congrArg some (by kernel_rfl))
 f320:=Tryz.func199.trans (congrArg some (by kernel_rfl))
 f321:=Tryz.func177.trans (congrArg some (by kernel_rfl))
 f322:=Tryz.func178.trans (congrArg some (by kernel_rfl))
 f337:=Tryz.func209.trans (congrArg some (by kernel_rfl))
 f338:=Tryz.func210.trans (congrArg some (by kernel_rfl))
 t0:=Tryz.underlying0
 a0:=Tryz.isAgg0
 z0:=Tryz.sizeOf0
 v0:=Tryz.zeroValue0
 t2:=Tryz.underlying2
 a2:=Tryz.isAgg2
 z2:=Tryz.sizeOf2
 v2:=Tryz.zeroValue2
 t3:=Tryz.underlying3
 a3:=Tryz.isAgg3
 z3:=Tryz.sizeOf3
 v3:=Tryz.zeroValue3
 t4:=Tryz.underlying4
 a4:=Tryz.isAgg4
 z4:=Tryz.sizeOf4
 v4:=Tryz.zeroValue4
 t5:=Tryz.underlying5
 a5:=Tryz.isAgg5
 z5:=Tryz.sizeOf5
 v5:=Tryz.zeroValue5
 t9:=Tryz.underlying9
 a9:=Tryz.isAgg9
 z9:=Tryz.sizeOf9
 v9:=Tryz.zeroValue9
 t20:=Tryz.underlying20
 a20:=Tryz.isAgg20
 z20:=Tryz.sizeOf20
 v20:=Tryz.zeroValue20
 t21:=Tryz.underlying21
 a21:=Tryz.isAgg21
 z21:=Tryz.sizeOf21
 v21:=Tryz.zeroValue21
 t37:=Tryz.underlying52
 a37:=Tryz.isAgg52
 z37:=Tryz.sizeOf52
 v37:=Tryz.zeroValue52
 t46:=Tryz.underlying225
 a46:=Tryz.isAgg225
 z46:=Tryz.sizeOf225
 v46:=Tryz.zeroValue225
 t51:=Tryz.underlying208
 a51:=Tryz.isAgg208
 z51:=Tryz.sizeOf208
 v51:=Tryz.zeroValue208
 t53:=Tryz.underlying178
 a53:=Tryz.isAgg178
 z53:=Tryz.sizeOf178
 v53:=Tryz.zeroValue178
 t75:=Tryz.underlying84
 a75:=Tryz.isAgg84
 z75:=Tryz.sizeOf84
 v75:=Tryz.zeroValue84
 t76:=Tryz.underlying120
 a76:=Tryz.isAgg120
 z76:=Tryz.sizeOf120
 v76:=Tryz.zeroValue120
 t85:=Tryz.underlying197
 a85:=Tryz.isAgg197
 z85:=Tryz.sizeOf197
 v85:=Tryz.zeroValue197
 t127:=Tryz.underlying86
 a127:=Tryz.isAgg86
 z127:=Tryz.sizeOf86
 v127:=Tryz.zeroValue86
 t143:=Tryz.underlying234
 a143:=Tryz.isAgg234
 z143:=Tryz.sizeOf234
 v143:=Tryz.zeroValue234
 t145:=Tryz.underlying236
 a145:=Tryz.isAgg236
 z145:=Tryz.sizeOf236
 v145:=Tryz.zeroValue236
 t167:=Tryz.underlying196
 a167:=Tryz.isAgg196
 z167:=Tryz.sizeOf196
 v167:=Tryz.zeroValue196
 t168:=Tryz.underlying199
 a168:=Tryz.isAgg199
 z168:=Tryz.sizeOf199
 v168:=Tryz.zeroValue199
 t171:=Tryz.underlying251
 a171:=Tryz.isAgg251
 z171:=Tryz.sizeOf251
 v171:=Tryz.zeroValue251
 t173:=Tryz.underlying254
 a173:=Tryz.isAgg254
 z173:=Tryz.sizeOf254
 v173:=Tryz.zeroValue254
 t175:=Tryz.underlying223
 a175:=Tryz.isAgg223
 z175:=Tryz.sizeOf223
 v175:=Tryz.zeroValue223
 t210:=Tryz.underlying227
 a210:=Tryz.isAgg227
 z210:=Tryz.sizeOf227
 v210:=Tryz.zeroValue227
 t212:=Tryz.underlying271
 a212:=Tryz.isAgg271
 z212:=Tryz.sizeOf271
 v212:=Tryz.zeroValue271
 t213:=Tryz.underlying272
 a213:=Tryz.isAgg272
 z213:=Tryz.sizeOf272
 t232:=Tryz.underlying289
 a232:=Tryz.isAgg289
 z232:=Tryz.sizeOf289
 v232:=Tryz.zeroValue289
 t233:=Tryz.underlying290
 a233:=Tryz.isAgg290
 z233:=Tryz.sizeOf290
 v233:=Tryz.zeroValue290
 g15:=by kernel_rfl
 g16:=by kernel_rfl
 g17:=by kernel_rfl
 g18:=by kernel_rfl
 g19:=by kernel_rfl }
open Go.RowKit in
theorem Tryz.strconv_Atoi (s:ByteArray)(n:Int)(hl:s.size≤18)(h:Lib.atoi s.data.toList=some n)(w:World) :
  Calls Tryz.prog 98 #[.string s] w fun e w'=>e=.returned (.tuple #[.int .i64 n,.nilIface])∧∃ t,w'=Lib.bytesWorld w 5 t:=Any.strconv_Atoi Tryz.lays172 s n hl h w
def Tryz.laysM171_ren:Go.Shelf.Ren:=⟨fun|171=>150|243=>167|246=>175|283=>185|284=>186|285=>187|286=>188|129=>196|317=>195|318=>197|319=>198|320=>199|337=>209|338=>210|n=>n,fun|3=>3|9=>9|2=>2|4=>4|171=>251|0=>0|53=>178|37=>52|5=>5|173=>254|212=>271|51=>208|20=>20|213=>272|46=>225|232=>289|233=>290|n=>n,fun|17=>5|18=>6|19=>7|n=>n⟩
theorem Tryz.laysM171:Go.Proofs.LaysM.n171 Tryz.prog Tryz.laysM171_ren:={
 mixed:=by kernel_rfl
 f129:=Tryz.func196.trans (congrArg some (by kernel_rfl))
 f171:=Tryz.func150.trans (congrArg some (by kernel_rfl))
 f243:=Tryz.func167.trans (congrArg some (by kernel_rfl))
 f246:=Tryz.func175.trans (congrArg some (by kernel_rfl))
 f283:=Tryz.func185.trans (congrArg some (by kernel_rfl))
 f284:=Tryz.func186.trans (congrArg some (by kernel_rfl))
 f285:=Tryz.func187.trans (congrArg some (by kernel_rfl))
 f286:=Tryz.func188.trans (congrArg some (by kernel_rfl))
 f317:=Tryz.func195.trans (congrArg some (by kernel_rfl))
 f318:=Tryz.func197.trans (congrArg some (by kernel_rfl))
 f319:=Tryz.func198.trans (congrArg some (by kernel_rfl))
 f320:=Tryz.func199.trans (congrArg some (by kernel_rfl))
 f337:=Tryz.func209.trans (congrArg some (by kernel_rfl))
 f338:=Tryz.func210.trans (congrArg some (by kernel_rfl))
 t0:=Tryz.underlying0
 a0:=Tryz.isAgg0
 z0:=Tryz.sizeOf0
 v0:=Tryz.zeroValue0
 t2:=Tryz.underlying2
 a2:=Tryz.isAgg2
 z2:=Tryz.sizeOf2
 v2:=Tryz.zeroValue2
 t3:=Tryz.underlying3
 a3:=Tryz.isAgg3
 z3:=Tryz.sizeOf3
 v3:=Tryz.zeroValue3
 t4:=Tryz.underlying4
 a4:=Tryz.isAgg4
 z4:=Tryz.sizeOf4
 v4:=Tryz.zeroValue4
 t5:=Tryz.underlying5
 a5:=Tryz.isAgg5
 z5:=Tryz.sizeOf5
 v5:=Tryz.zeroValue5
 t9:=Tryz.underlying9
 a9:=Tryz.isAgg9
 z9:=Tryz.sizeOf9
 v9:=Tryz.zeroValue9
 t20:=Tryz.underlying20
 a20:=Tryz.isAgg20
 z20:=Tryz.sizeOf20
 v20:=Tryz.zeroValue20
 t37:=Tryz.underlying52
 a37:=Tryz.isAgg52
 z37:=Tryz.sizeOf52
 v37:=Tryz.zeroValue52
 t46:=Tryz.underlying225
 a46:=Tryz.isAgg225
 z46:=Tryz.sizeOf225
 v46:=Tryz.zeroValue225
 t51:=Tryz.underlying208
 a51:=Tryz.isAgg208
 z51:=Tryz.sizeOf208
 v51:=Tryz.zeroValue208
 t53:=Tryz.underlying178
 a53:=Tryz.isAgg178
 z53:=Tryz.sizeOf178
 v53:=Tryz.zeroValue178
 t171:=Tryz.underlying251
 a171:=Tryz.isAgg251
 z171:=Tryz.sizeOf251
 v171:=Tryz.zeroValue251
 t173:=Tryz.underlying254
 a173:=Tryz.isAgg254
 z173:=Tryz.sizeOf254
 v173:=Tryz.zeroValue254
 t212:=Tryz.underlying271
 a212:=Tryz.isAgg271
 z212:=Tryz.sizeOf271
 v212:=Tryz.zeroValue271
 t213:=Tryz.underlying272
 a213:=Tryz.isAgg272
 z213:=Tryz.sizeOf272
 t232:=Tryz.underlying289
 a232:=Tryz.isAgg289
 z232:=Tryz.sizeOf289
 v232:=Tryz.zeroValue289
 t233:=Tryz.underlying290
 a233:=Tryz.isAgg290
 z233:=Tryz.sizeOf290
 v233:=Tryz.zeroValue290
 g17:=by kernel_rfl
 g18:=by kernel_rfl
 g19:=by kernel_rfl
 i0:=by kernel_rfl
 i2:=by kernel_rfl
 i3:=by kernel_rfl
 i4:=by kernel_rfl
 i5:=by kernel_rfl
 i9:=by kernel_rfl
 i20:=by kernel_rfl
 i37:=by kernel_rfl
 i46:=by kernel_rfl
 i51:=by kernel_rfl
 i53:=by kernel_rfl
 i171:=by kernel_rfl
 i173:=by kernel_rfl
 i212:=by kernel_rfl
 i232:=by kernel_rfl
 i233:=by kernel_rfl
 m17:=by kernel_rfl
 m18:=by kernel_rfl
 m19:=by kernel_rfl }
open Go.RowKit Go.Sort Go.Lib in
theorem Tryz.strconv_Itoa (n:Int)(h0:-9223372036854775808≤n)(h1:n≤9223372036854775807)(w:World)(htab:Lib.TabIs Tryz.prog w "internal/strconv.uint64pow10" .u64 Lib.pow10Tab) :
  Calls Tryz.prog 150 #[.int .i64 n] w fun e w'=>e=.returned (.string ⟨(Lib.itoa n).toArray⟩)∧∃ k os,w'=grow (w.drewN k) os:=Any.strconv_Itoa Tryz.laysM171 n h0 h1 w htab
def Tryz.lays138_ren:Go.Shelf.Ren:=⟨fun|138=>251|195=>252|218=>253|143=>254|219=>255|217=>139|225=>256|224=>257|267=>258|266=>157|314=>259|n=>n,fun|9=>9|3=>3|4=>4|5=>5|0=>0|46=>225|146=>320|51=>208|n=>n,fun|1=>4|n=>n⟩
theorem Tryz.lays138:Go.Proofs.Lays.n138 Tryz.prog Tryz.lays138_ren:={
 mixed:=by kernel_rfl
 f138:=Tryz.func251.trans (congrArg some (by kernel_rfl))
 f143:=Tryz.func254.trans (congrArg some (by kernel_rfl))
 f195:=Tryz.func252.trans (congrArg some (by kernel_rfl))
 f217:=Tryz.func139.trans (congrArg some (by kernel_rfl))
 f218:=Tryz.func253.trans (congrArg some (by kernel_rfl))
 f219:=Tryz.func255.trans (congrArg some (by kernel_rfl))
 f224:=Tryz.func257.trans (congrArg some (by kernel_rfl))
 f225:=Tryz.func256.trans (congrArg some (by kernel_rfl))
 f266:=Tryz.func157.trans (congrArg some (by kernel_rfl))
 f267:=Tryz.func258.trans (congrArg some (by kernel_rfl))
 f314:=Tryz.func259.trans (congrArg some (by kernel_rfl))
 t0:=Tryz.underlying0
 a0:=Tryz.isAgg0
 z0:=Tryz.sizeOf0
 v0:=Tryz.zeroValue0
 t3:=Tryz.underlying3
 a3:=Tryz.isAgg3
 z3:=Tryz.sizeOf3
 v3:=Tryz.zeroValue3
 t4:=Tryz.underlying4
 a4:=Tryz.isAgg4
 z4:=Tryz.sizeOf4
 v4:=Tryz.zeroValue4
 t5:=Tryz.underlying5
 a5:=Tryz.isAgg5
 z5:=Tryz.sizeOf5
 v5:=Tryz.zeroValue5
 t9:=Tryz.underlying9
 a9:=Tryz.isAgg9
 z9:=Tryz.sizeOf9
 v9:=Tryz.zeroValue9
 t46:=Tryz.underlying225
 a46:=Tryz.isAgg225
 z46:=Tryz.sizeOf225
 v46:=Tryz.zeroValue225
 t51:=Tryz.underlying208
 a51:=Tryz.isAgg208
 z51:=Tryz.sizeOf208
 v51:=Tryz.zeroValue208
 t146:=Tryz.underlying320
 a146:=Tryz.isAgg320
 z146:=Tryz.sizeOf320
 v146:=Tryz.zeroValue320
 g1:=by kernel_rfl }
open Go.RowKit Go.Lib in
theorem Tryz.strings_Count_one (s:ByteArray)(c:UInt8)(w:World) :
  Calls Tryz.prog 251 #[.string s,.string ⟨#[c]⟩] w fun e w'=>e=.returned (.int .i64 (Lib.countByte s.data.toList c))∧w'=w:=Any.strings_Count_one Tryz.lays138 s c w
def Tryz.lays99_ren:Go.Shelf.Ren:=⟨fun|99=>100|206=>140|n=>n,fun|9=>9|4=>4|3=>3|n=>n,fun|n=>n⟩
theorem Tryz.lays99:Go.Proofs.Lays.n99 Tryz.prog Tryz.lays99_ren:={
 mixed:=by kernel_rfl
 f99:=Tryz.func100.trans (congrArg some (by kernel_rfl))
 f206:=Tryz.func140.trans (congrArg some (by kernel_rfl))
 t3:=Tryz.underlying3
 a3:=Tryz.isAgg3
 z3:=Tryz.sizeOf3
 v3:=Tryz.zeroValue3
 t4:=Tryz.underlying4
 a4:=Tryz.isAgg4
 z4:=Tryz.sizeOf4
 v4:=Tryz.zeroValue4
 t9:=Tryz.underlying9
 a9:=Tryz.isAgg9
 z9:=Tryz.sizeOf9
 v9:=Tryz.zeroValue9 }
open Go.RowKit Go.Lib in
theorem Tryz.strings_HasPrefix (s p:ByteArray)(w:World) :
  Calls Tryz.prog 100 #[.string s,.string p] w fun e w'=>e=.returned (.bool (Lib.hasPrefix s.data.toList p.data.toList))∧w'=w:=Any.strings_HasPrefix Tryz.lays99 s p w
end Go.Proofs.YtohlogbnpfofpaaGreatDoor
namespace Go.Proofs.YtohlogbnpfofpaaGreatDoor
open Go StillVC
theorem oT {d:Nat}(h:d<10):(UInt8.ofNat (48+d)).toNat=48+d:=by
 rw[UInt8.toNat_ofNat'];omega
theorem dec_digits (u:Nat):∀ c∈Lib.decDigits u,48≤c.toNat∧c.toNat≤57:=by
 induction u using Nat.strongRecOn with
 | _ u ih =>
  intro c hc
  rw[Lib.decDigits]at hc
  split at hc
  ·rename_i h
   simp only[aEc]at hc;subst hc
   rw[oT h];omega
  ·rcases aEB.1 hc with hc|hc
   ·exact ih _ (by omega) c hc
   ·simp only[aEc]at hc;subst hc
    rw[oT (by omega)];omega
def undec (l:aBs):Nat:=l.foldl (fun n c=>n*10+(c.toNat - 48)) 0
theorem undec_dec (u:Nat):undec (Lib.decDigits u)=u:=by
 induction u using Nat.strongRecOn with
 | _ u ih =>
  rw[Lib.decDigits]
  split
  ·rename_i h
   simp only[undec,List.foldl_cons,List.foldl_nil,oT h];omega
  ·have:=ih (u / 10) (by omega)
   unfold undec at this ⊢
   rw[List.foldl_append,this]
   simp only[List.foldl_cons,List.foldl_nil,oT (show u % 10<10 by omega)];omega
theorem dec_ne_nil (u:Nat):Lib.decDigits u≠[]:=by
 intro h
 have:=Lib.decDigits_length u
 rw[h]at this
 rw[Lib.decDigits]at h
 split at h<;>simp at h
def cV (c:UInt8):Bool:=decide (97≤c.toNat∧c.toNat≤122∨65≤c.toNat∧c.toNat≤90)
def cA (c:UInt8):Bool:=decide (48≤c.toNat∧c.toNat≤57)
def cF (c:UInt8):Bool:=cV c||cA c||decide (c.toNat=95)
theorem lowered:∀ n:Fin 256,(97≤bits .or .u8 (n.val:Int) 32∧bits .or .u8 (n.val:Int) 32≤122)↔(97≤n.val∧n.val≤122∨65≤n.val∧n.val≤90):=by decide +kernel
theorem letterB_iff (c:UInt8):cV c=true↔(97≤bits .or .u8 (c.toNat:Int) 32∧bits .or .u8 (c.toNat:Int) 32≤122):=by
 rw[lowered ⟨c.toNat,c.toNat_lt⟩]
 simp[cV]
theorem aBa (c:UInt8)(h:Heap):cK Tryz.prog 97 [.int .u8 c.toNat] h fun r h'=>r=.bool (cA c)∧Own h [] h':=by
 refine aDX Tryz.func97 rfl Tryz.ntmps97 (by kernel_rfl) ?_;have o0:=Own.refl h;refine aDR (fun c10=>?_) (fun c10=>?_);refine aDZ rfl ?_
 rotate_left
 refine aDZ rfl ?_
 ·exact⟨congrArg Value.bool (decide_eq_false (by omega)).symm,o0⟩
 ·exact⟨congrArg Value.bool (decide_eq_decide.2 (by omega)),o0⟩
theorem yX (c:UInt8)(h:Heap):cK Tryz.prog 94 [.int .u8 c.toNat] h fun r h'=>r=.bool (cV c)∧Own h [] h':=by
 have hl:=letterB_iff c;refine aDX Tryz.func94 rfl Tryz.ntmps94 (by kernel_rfl) ?_;have o0:=Own.refl h;refine rR (bit rfl rfl rfl ?_);refine aDR (fun c11=>?_) (fun c11=>?_);refine rR (bit rfl rfl rfl ?_);refine aDZ rfl ?_
 rotate_left
 refine aDZ rfl ?_
 ·refine⟨congrArg Value.bool ?_,o0⟩
  cases hb:cV c with
  | false=>rfl
  | true=>exact absurd (hl.1 hb).1 ‹_›
 ·refine⟨congrArg Value.bool ?_,o0⟩
  rw[Bool.eq_iff_iff,hl,decide_eq_true_iff]
  exact⟨fun e=>⟨by assumption,e⟩,fun e=>e.2⟩
theorem aAY (c:UInt8)(h:Heap):cK Tryz.prog 96 [.int .u8 c.toNat] h fun r h'=>r=.bool (cF c)∧Own h [] h':=by
 unfold cF;refine aDX Tryz.func96 rfl Tryz.ntmps96 (by kernel_rfl) ?_;have o0:=Own.refl h;refine aDV (yX c _) ?_;rintro _ h1 ⟨rfl,oa⟩;have o1:=o0.ext' oa;cases hb:cV c with
 | true =>
  refine aDS ?_;refine aDZ rfl ?_
  exact⟨rfl,o1⟩
 | false =>
  refine aDT ?_;refine aDV (aBa c _) ?_;rintro _ h2 ⟨rfl,ob⟩;have o2:=o1.ext' ob;cases hd:cA c with
  | true =>
   refine aDS ?_;refine aDZ rfl ?_
   exact⟨rfl,o2⟩
  | false =>
   refine aDT ?_;refine aDZ rfl ?_
   refine⟨congrArg Value.bool ?_,o2⟩
   simp only[Bool.or_self,Bool.false_or]
   exact decide_eq_decide.2 (by omega)
def jZ (c:UInt8):Bool:=decide (c.toNat≠10)
theorem skip1_spec (c:UInt8)(h:Heap):cK Tryz.prog 101 [.int .u8 c.toNat] h fun r h'=>r=.bool (jZ c)∧Own h [] h':=by
 refine aDX Tryz.func101 rfl Tryz.ntmps101 (by kernel_rfl) ?_;have o0:=Own.refl h;refine aDZ rfl ?_
 refine⟨congrArg Value.bool ?_,o0⟩
 unfold jZ
 rw[← decide_not]
 exact decide_eq_decide.2 (by omega)
def bO (p:UInt8→Bool)(l:aBs):Nat:=(l.takeWhile p).length
theorem mQ (p:UInt8→Bool)(l:aBs):bO p l≤l.length:=by
 unfold bO
 exact(List.takeWhile_sublist p).length_le
theorem tG {p:UInt8→Bool}:∀ {l:aBs}{n:Nat},(∀ c∈l.take n,p c=true)→n≤l.length→(∀ c,l[n]?=some c→p c=false)→bO p l=n
 | [],n,_,hn,_=>by simp at hn;subst hn;rfl
 | c::l,0,_,_,h=>by
  have:=h c rfl
  unfold bO
  rw[aEq,this]
  rfl
 | c::l,n+1,ha,hn,h=>by
  have hc:=ha c (by simp);have ih:=tG (p:=p) (l:=l) (n:=n) (fun d hd=>ha d (by simp[hd])) (by simpa using hn) (fun d hd=>h d (by simpa using hd));unfold bO at ih ⊢
  rw[aEq,hc,if_pos rfl,aEa,ih]
theorem vD (p:UInt8→Bool)(g:Nat)(cap:aVs)(b:Nat)(t:aBs)(i:Nat)(h:Heap)(hi:i≤t.length)(hl:t.length≤1000000)
  (h0:bC h ⟨b,0,none⟩=some (.string ⟨⟨t⟩⟩)) (h1:bC h ⟨b,1,none⟩=some (.int .i64 i))
  (hp:∀(c:UInt8) (h':Heap),Ext h h'→cK Tryz.prog g (.int .u8 c.toNat::cap) h' fun r h''=>r=.bool (p c)∧Own h' [] h'') :
  cK Tryz.prog 95 [.pointer (some ⟨b,0,none⟩),.func (.func g) ⟨[]⟩ ⟨cap⟩] h fun r h'=>r=.int .i64 (bO p (t.drop i))∧Own h [] h':=by
 refine aDX Tryz.func95 rfl Tryz.ntmps95 (by kernel_rfl) ?_;have o0:=Own.refl h;refine aD1 [5,6,7,8,9,10,11,12,13,14,15,16,17,18,19,20,21,22,23,24,25,26,27,28,29,30,31,32,33,34] [5] (fun vs hh=>∃(n:Nat),i+n≤t.length∧vs=[.int .i64 n]∧(∀ c∈(t.drop i).take n,p c=true)∧Own h [] hh) (fun vs _=>match vs with|[.int _ n]=>t.length - n.toNat|_=>0) ?_ ?_
 ·exact⟨0,by omega,rfl,by simp,o0⟩
 ·rintro vs junk hh ⟨n,hn,rfl,ha,oh⟩
  by_cases hlt:i+n<t.length
  ·obtain⟨c,hc⟩:=getx hlt
   have hc':(t.drop i)[n]?=some c:=by rw[aEA];exact hc
   refine aDU [0,1,2,4,5,6,7,8,10,11,12,13,14,15,16,18,19,20,22,23,24,26] [3,9,17,21] [25] [0,1,2,3,4,5,6,7,8,9,10,11,12,13,14,15,16,17,18,19,20,21,22,23,24,25,26] mixed (by kernel_rfl) rfl (fun _ _ _ _ h=>h) ?_;refine nC rfl ?_;refine fA dI rfl rfl rfl ?_;refine load1 aY rfl (oh.old h1) ?_;refine aDY (by omega) (by omega) ?_;refine nC rfl ?_;refine fA dI rfl rfl rfl ?_;refine load1 aO rfl (oh.old h0) ?_;refine aDA rfl cX ?_;refine aDR (fun c27=>?_) (fun hc=>absurd (by omega) hc);refine nC rfl ?_;refine fA dI rfl rfl rfl ?_;refine load1 aO rfl (oh.old h0) ?_;refine nC rfl ?_;refine fA dI rfl rfl rfl ?_;refine load1 aY rfl (oh.old h1) ?_;refine aDY (by omega) (by omega) ?_;refine aDw rfl rfl cX (by omega) ‹_› ?_;refine aDV (hp c _ (Own.ext ‹_›)) ?_;rintro _ h2 ⟨rfl,ob⟩;have o2:=oh.ext' ob;cases hb:p c with
   | true =>
    refine aDS ?_;refine aDY (by omega) (by omega) ?_
    refine⟨rfl,?_⟩
    refine⟨⟨n+1,by omega,rfl,fun d hd=>?_,o2⟩,by simp;omega⟩
    rw[aEN,hc']at hd
    rcases aEB.1 hd with hd|hd
    ·exact ha d hd
    ·simp at hd;subst hd;exact hb
   | false =>
    have:bO p (t.drop i)=n:=tG ha (by simp;omega) (fun d hd=>by rw[hc']at hd;cases hd;exact hb)
    rw[this]
    refine aDT ?_;refine aDZ rfl ?_
    exact⟨rfl,o2⟩
  ·have:bO p (t.drop i)=n:=tG ha (by simp;omega) (fun d hd=>by
    obtain⟨hd',_⟩:=aD5.1 hd
    simp at hd'
    omega)
   rw[this]
   refine aDU [0,1,2,4,5,6,7,8,10,11,12,13,14,15,16,18,19,20,22,23,24,26] [3,9,17,21] [25] [0,1,2,3,4,5,6,7,8,9,10,11,12,13,14,15,16,17,18,19,20,21,22,23,24,25,26] mixed (by kernel_rfl) rfl (fun _ _ _ _ h=>h) ?_;refine nC rfl ?_;refine fA dI rfl rfl rfl ?_;refine load1 aY rfl (oh.old h1) ?_;refine aDY (by omega) (by omega) ?_;refine nC rfl ?_;refine fA dI rfl rfl rfl ?_;refine load1 aO rfl (oh.old h0) ?_;refine aDA rfl cX ?_;refine aDR (fun hc=>absurd hc (by omega)) (fun c87=>?_);refine aDT ?_;refine aDZ rfl ?_
   exact⟨rfl,oh⟩
def Ends (Post:Value→Heap→Prop)(Pan:List PanicEntry→Heap→Prop):Ending→Heap→Prop
 | .returned v,h=>Post v h
 | .panicked c,h=>Pan c h
 | .outgrown,_=>False
theorem StillVC.aDW {P:Program}{g:FuncId}{args s:aVs}{h:Heap}{K:KK}{Q:QQ}{Post:Value→Heap→Prop}{Pan:List PanicEntry→Heap→Prop}
  (sp:Spec P g args h (Ends Post Pan)) (hk:∀ v h',Post v h'→K v false h') (hq:∀ c h',Pan c h'→Q (.panic c) s h'):CallVC P g args s h K Q where
 spec:=⟨_,.inl sp,hk,hq,fun _ h=>h.elim⟩
def faultC (e:Int)(i:Nat):List PanicEntry:=[{ v:=.iface 102 (.agg ⟨[.int .i64 e,.int .i64 i]⟩),recovered:=false }]
inductive Rd where
 | tok (kind:Int) (text:aBs) (num:Int) (len:Nat)
 | none
 | err (e:Int)
def tokV (k:Int)(x:aBs)(n a:Int):Value:=.agg ⟨[.int .i64 k,.string ⟨⟨x⟩⟩,.int .i64 n,.int .i64 a]⟩
def RdE (h:Heap)(i:Nat)(r:Rd):Ending→Heap→Prop :=
 Ends (fun v h'=>(match r with
   | .tok k x n l=>v=.tuple ⟨[tokV k x n 0,.int .i64 l]⟩
   | .none=>∃ k x n a,v=.tuple ⟨[tokV k x n a,.int .i64 0]⟩
   | .err _=>False)∧Own h [] h')
  (fun c h'=>(match r with
   | .err e=>c=faultC e i
   | _=>False)∧Own h [] h')
theorem iO (e:Int)(b:Nat)(t:aBs)(i:Nat)(h:Heap)(h1:bC h ⟨b,1,none⟩=some (.int .i64 i)) :
  Spec Tryz.prog 54 [.pointer (some ⟨b,0,none⟩),.int .i64 e] h (Ends (fun _ _=>False) fun c h'=>c=faultC e i∧Own h [] h'):=by
 refine aDX Tryz.func54 rfl Tryz.ntmps54 (by kernel_rfl) ?_;have o0:=Own.refl h;refine rR (nC rfl ?_);refine rR (fA dI rfl rfl rfl ?_);refine rR (load1 aY rfl ‹_› ?_);refine rR (aDl st102 ?_);refine aI rfl ?_;refine aI rfl ?_;refine rR (aDM con102 rfl ?_);refine RunVC.panicI rfl ?_
 exact⟨rfl,o0⟩
def yT (l:aBs):Rd :=
 match l with
 | []=>.none
 | c::_=>if cV c=true then(if 24<bO cF l then .err 3 else .tok 1 (l.take (bO cF l)) 0 (bO cF l)) else .none
theorem nameR_at {t:aBs}{i:Nat}{c:UInt8}(hc:t[i]?=some c):yT (t.drop i)=if cV c=true then(if 24<bO cF (t.drop i) then .err 3 else .tok 1 ((t.drop i).take (bO cF (t.drop i))) 0 (bO cF (t.drop i))) else .none:=by
 obtain⟨hi,rfl⟩:=aD5.1 hc
 rw[aEe hi]
 rfl
theorem name_spec (b:Nat)(t:aBs)(i:Nat)(h:Heap)(hi:i<t.length)(hl:t.length≤1000000)
  (h0:bC h ⟨b,0,none⟩=some (.string ⟨⟨t⟩⟩)) (h1:bC h ⟨b,1,none⟩=some (.int .i64 i)) :
  Spec Tryz.prog 49 [.pointer (some ⟨b,0,none⟩)] h (RdE h i (yT (t.drop i))):=by
 obtain⟨c,hc⟩:=getx hi
 rw[nameR_at hc]
 have hsl:=mQ cF (t.drop i);have hdl:(t.drop i).length=t.length - i:=by simp
 refine aDX Tryz.func49 rfl Tryz.ntmps49 (by kernel_rfl) ?_;have o0:=Own.refl h;(refine aDP o0 bF ?_;intro b10 m10 o10);refine aDU [0,1,2,4,5,6,8,10] [3,7] [9] [0,1,2,3,4,5,6,7,8,9,10] mixed (by kernel_rfl) rfl (fun _ _ _ _ h=>h) ?_;refine nC rfl ?_;refine fA dI rfl rfl rfl ?_;refine load1 aO rfl (o10.old h0) ?_;refine nC rfl ?_;refine fA dI rfl rfl rfl ?_;refine load1 aY rfl (o10.old h1) ?_;refine aDw rfl rfl cX (by omega) ‹_› ?_;refine aDV (yX c _) ?_;rintro _ h2 ⟨rfl,oa⟩;have o2:=oa.thenE ‹_›;cases hb:cV c with
 | false =>
  rw[if_neg (by decide)]
  refine aDS ?_;refine rR (aDl eZ ?_);(refine aDh o2 0 rfl bF rfl (by decide) (aI ⟨rfl,rfl⟩ ?_);intro m21 o21)
  first|refine aDt rfl o21 0 rfl bF rfl rfl ?_|refine aDs rfl o21 0 rfl bF rfl rfl ?_|refine RetVC.cellTT rfl o21 0 rfl bF rfl rfl ?_
  exact⟨⟨0,[],0,0,rfl⟩,Own.sel ‹_› [] rfl⟩
 | true =>
  rw[if_pos rfl]
  refine aDT ?_;refine aDV (vD cF 96 [] b t i _ (by omega) hl (o2.old h0) (o2.old h1) (fun d h' e=>aAY d h')) ?_;rintro _ h3 ⟨rfl,ob⟩;have o3:=ob.thenE ‹_›;by_cases hn:24<bO cF (t.drop i)
  ·rw[if_pos hn]
   refine aDR (fun c60=>?_) (fun hc=>absurd (by omega) hc);exact aDW (iO 3 b t i _ (o3.old h1)) (fun _ _ h=>h.elim) (fun c h' ⟨hc,ho⟩=>⟨hc,(ho.thenE o3).sel [] rfl⟩)
  ·rw[if_neg hn]
   refine aDR (fun hc=>absurd hc (by omega)) (fun c80=>?_);refine aDU [0,1,2,4,5,6,8,9,10,12,13,14,15,16,18] [3,7,11] [17] [0,1,2,3,4,5,6,7,8,9,10,11,12,13,14,15,16,17,18] mixed (by kernel_rfl) rfl (fun _ _ _ _ h=>h) ?_;refine nC rfl ?_;refine fA dI rfl rfl rfl ?_;refine load1 aO rfl (o3.old h0) ?_;refine nC rfl ?_;refine fA dI rfl rfl rfl ?_;refine load1 aY rfl (o3.old h1) ?_;refine nC rfl ?_;refine fA dI rfl rfl rfl ?_;refine load1 aY rfl (o3.old h1) ?_;refine aDY (by omega) (by omega) ?_;refine aDH cX rfl ⟨_,rfl⟩ ⟨_,rfl⟩ (by omega) (by omega) (by omega) ?_;refine aDl eZ ?_;refine aI rfl ?_;refine aI rfl ?_;(refine aDh o3 0 rfl bF rfl (by decide) (aI ⟨rfl,rfl⟩ ?_);intro m92 o92)
   first|refine aDt rfl o92 0 rfl bF rfl rfl ?_|refine aDs rfl o92 0 rfl bF rfl rfl ?_|refine RetVC.cellTT rfl o92 0 rfl bF rfl rfl ?_
   refine⟨?_,Own.sel ‹_› [] rfl⟩
   have e:List.drop (i:Int).toNat (List.take ((i:Int)+(bO cF (t.drop i):Nat)).toNat t)=(t.drop i).take (bO cF (t.drop i)):=by
    rw[show((i:Int)+(bO cF (t.drop i):Nat)).toNat=i+bO cF (t.drop i) by omega,Int.toNat_natCast,List.drop_take]
    congr 1
    omega
   show Value.tuple _=Value.tuple _
   rw[← e]
   rfl
theorem digitVal_of {c:UInt8}(h:48≤c.toNat∧c.toNat≤57):Lib.digitVal c=some (c.toNat - 48):=if_pos h
theorem sW:∀(l:aBs)(acc:Nat),(∀ c∈l,48≤c.toNat∧c.toNat≤57)→Lib.decFrom acc l=some (l.foldl (fun n c=>n*10+(c.toNat - 48)) acc)
 | [],acc,_=>rfl
 | c::l,acc,h=>by
  rw[Lib.decFrom,digitVal_of (h c (by simp))]
  exact sW l _ (fun d hd=>h d (by simp[hd]))
theorem atoi_digits {l:aBs}(hl:l≠[])(h:∀ c∈l,48≤c.toNat∧c.toNat≤57):Lib.atoi l=some ((undec l:Nat):Int):=by
 cases l with
 | nil=>exact absurd rfl hl
 | cons b r =>
  have hb:=h b (by simp);have h45:(b == 45)=false:=by
   rw[beq_eq_false_iff_ne]
   rintro rfl
   simp at hb
  have h43:(b == 43)=false:=by
   rw[beq_eq_false_iff_ne]
   rintro rfl
   simp at hb
  rw[Lib.atoi,h45,h43]
  simp only[aEd,if_false,Lib.decNat,List.isEmpty_cons]
  rw[sW _ _ h]
  rfl
theorem atoi_spec (l:aBs)(h:Heap)(hl:l.length≤18)(hne:l≠[])(hd:∀ c∈l,48≤c.toNat∧c.toNat≤57) :
  cK Tryz.prog 98 [.string ⟨⟨l⟩⟩] h fun r h'=>r=.tuple ⟨[.int .i64 (undec l),.nilIface]⟩∧Own h [] h':=by
 refine⟨⟨_,Tryz.func98,rfl,by kernel_rfl⟩,fun w hw=>?_⟩
 subst hw
 refine(Tryz.strconv_Atoi ⟨⟨l⟩⟩ (undec l) hl (atoi_digits hne hd) w).mono ?_
 rintro e w' ⟨rfl,t,rfl⟩;have hb:=Lib.bytesWorld_below w 5 t
 exact⟨⟨hb.os,hb.tape,hb.output,hb.size⟩,rfl,Own.of_ext ⟨hb.size,hb.block⟩⟩
theorem sO (l:aBs)(c:UInt8)(h:Heap) :
  cK Tryz.prog 99 [.string ⟨⟨l⟩⟩,.int .u8 c.toNat] h fun r h'=>r=.int .i64 (Lib.indexByte l c)∧Own h [] h':=by
 refine⟨⟨_,Tryz.func99,rfl,by kernel_rfl⟩,fun w hw=>?_⟩
 subst hw
 refine(Tryz.strings_IndexByte ⟨⟨l⟩⟩ c.toNat w).mono ?_
 rintro e w' ⟨rfl,rfl⟩
 refine⟨.refl _,?_,Own.refl _⟩
 have:((c.toNat:Int).toNat).toUInt8=c:=by simp
 rw[this]
theorem sP (l p:aBs)(h:Heap) :
  cK Tryz.prog 100 [.string ⟨⟨l⟩⟩,.string ⟨⟨p⟩⟩] h fun r h'=>r=.bool (Lib.hasPrefix l p)∧Own h [] h':=by
 refine⟨⟨_,Tryz.func100,rfl,by kernel_rfl⟩,fun w hw=>?_⟩
 subst hw
 refine(Tryz.strings_HasPrefix ⟨⟨l⟩⟩ ⟨⟨p⟩⟩ w).mono ?_
 rintro e w' ⟨rfl,rfl⟩
 exact⟨.refl _,rfl,Own.refl _⟩
def qG (l:aBs):Rd :=
 if bO cA l=0 then .none
 else if 10<bO cA l∨bO cA l<bO cF l then .err 6
 else .tok 2 (l.take (bO cA l)) (undec (l.take (bO cA l))) (bO cA l)
theorem pK (p:UInt8→Bool):∀(l:aBs),∀ c∈l.take (bO p l),p c=true
 | [],c,hc=>by simp at hc
 | a::l,c,hc=>by
  unfold bO at hc
  rw[aEq]at hc
  cases ha:p a with
  | false=>rw[ha]at hc;simp at hc
  | true =>
   rw[ha]at hc
   simp only[if_true,aEa,aEF,aEg]at hc
   rcases hc with rfl|hc
   ·exact ha
   ·exact pK p l c hc
theorem aBb {c:UInt8}(h:cA c=true):48≤c.toNat∧c.toNat≤57:=of_decide_eq_true h
theorem number_spec (b:Nat)(t:aBs)(i:Nat)(h:Heap)(hi:i<t.length)(hl:t.length≤1000000)
  (h0:bC h ⟨b,0,none⟩=some (.string ⟨⟨t⟩⟩)) (h1:bC h ⟨b,1,none⟩=some (.int .i64 i)) :
  Spec Tryz.prog 50 [.pointer (some ⟨b,0,none⟩)] h (RdE h i (qG (t.drop i))):=by
 have hsl:=mQ cA (t.drop i);have hsi:=mQ cF (t.drop i);have hdl:(t.drop i).length=t.length - i:=by simp
 have hst:=pK cA (t.drop i);unfold qG;refine aDX Tryz.func50 rfl Tryz.ntmps50 (by kernel_rfl) ?_;have o0:=Own.refl h;(refine aDP o0 bF ?_;intro b10 m10 o10);refine aDV (vD cA 97 [] b t i _ (by omega) hl (Own.old ‹_› h0) (Own.old ‹_› h1) (fun d h' e=>aBa d h')) ?_;rintro _ h2 ⟨rfl,oa⟩;have o2:=oa.thenE ‹_›;by_cases hz:bO cA (t.drop i)=0
 ·rw[if_pos hz]
  refine aDR (fun c20=>?_) (fun hc=>absurd (by omega) hc);refine rR (aDl eZ ?_);(refine aDh o2 0 rfl bF rfl (by decide) (aI ⟨rfl,rfl⟩ ?_);intro m22 o22)
  first|refine aDt rfl o22 0 rfl bF rfl rfl ?_|refine aDs rfl o22 0 rfl bF rfl rfl ?_|refine RetVC.cellTT rfl o22 0 rfl bF rfl rfl ?_
  exact⟨⟨0,[],0,0,rfl⟩,Own.sel ‹_› [] rfl⟩
 ·rw[if_neg hz]
  by_cases hbig:10<bO cA (t.drop i)
  ·rw[if_pos (.inl hbig)]
   refine aDR (fun hc=>absurd hc (by omega)) (fun c30=>?_);refine aDR (fun c31=>?_) (fun hc=>absurd (by omega) hc);refine aDS ?_;exact aDW (iO 6 b t i _ (o2.old h1)) (fun _ _ h=>h.elim) (fun c h' ⟨hc,ho⟩=>⟨hc,(ho.thenE o2).sel [] rfl⟩)
  ·refine aDR (fun hc=>absurd hc (by omega)) (fun c40=>?_)
   refine aDR (fun hc=>absurd hc (by omega)) (fun c41=>?_);refine aDV (vD cF 96 [] b t i _ (by omega) hl (o2.old h0) (o2.old h1) (fun d h' e=>aAY d h')) ?_;rintro _ h3 ⟨rfl,ob⟩;have o3:=ob.thenE ‹_›;by_cases hin:bO cA (t.drop i)<bO cF (t.drop i)
   ·rw[if_pos (.inr hin)]
    refine aDR (fun c50=>?_) (fun hc=>absurd (by omega) hc);exact aDW (iO 6 b t i _ (o3.old h1)) (fun _ _ h=>h.elim) (fun c h' ⟨hc,ho⟩=>⟨hc,(ho.thenE o3).sel [] rfl⟩)
   ·rw[if_neg (by omega)]
    have e:List.drop (i:Int).toNat (List.take ((i:Int)+(bO cA (t.drop i):Nat)).toNat t)=(t.drop i).take (bO cA (t.drop i)):=by
     rw[show((i:Int)+(bO cA (t.drop i):Nat)).toNat=i+bO cA (t.drop i) by omega,Int.toNat_natCast,List.drop_take]
     congr 1
     omega
    refine aDR (fun hc=>absurd hc (by omega)) (fun c60=>?_);refine aDU [0,1,2,4,5,6,8,9,10,12,13,14,15] [3,7,11] [] [0,1,2,3,4,5,6,7,8,9,10,11,12,13,14,15] mixed (by kernel_rfl) rfl (fun _ _ _ _ h=>h) ?_;refine nC rfl ?_;refine fA dI rfl rfl rfl ?_;refine load1 aO rfl (o3.old h0) ?_;refine nC rfl ?_;refine fA dI rfl rfl rfl ?_;refine load1 aY rfl (o3.old h1) ?_;refine nC rfl ?_;refine fA dI rfl rfl rfl ?_;refine load1 aY rfl (o3.old h1) ?_;refine aDY (by omega) (by omega) ?_;refine aDH cX rfl ⟨_,rfl⟩ ⟨_,rfl⟩ (by omega) (by omega) (by omega) ?_
    rw[e]
    refine aDV (atoi_spec ((t.drop i).take (bO cA (t.drop i))) _ (by simp;omega) (fun hh=>by have:=congrArg List.length hh;simp at this;omega) (fun c hc=>aBb (hst c hc))) ?_;rintro _ h4 ⟨rfl,oc⟩;have o4:=oc.thenE ‹_›;refine rR (aDl eZ ?_);refine aI rfl ?_;refine aI rfl ?_;refine aI rfl ?_;(refine aDh o4 0 rfl bF rfl (by decide) (aI ⟨rfl,rfl⟩ ?_);intro m81 o81)
    first|refine aDt rfl o81 0 rfl bF rfl rfl ?_|refine aDs rfl o81 0 rfl bF rfl rfl ?_|refine RetVC.cellTT rfl o81 0 rfl bF rfl rfl ?_
    refine⟨?_,Own.sel ‹_› [] rfl⟩
    rfl
def zN:aBs:=[59,58,44,46,40,41,123,125,61,60,43,45,47,64]
def tQ (l:aBs):Nat:=if Lib.hasPrefix l [33,61]=true∨Lib.hasPrefix l [60,61]=true then 2 else match l with
 | []=>0
 | c::_=>if c∈zN then 1 else 0
def uZ (l:aBs):Rd:=if tQ l=0 then .none else .tok 4 (l.take (tQ l)) 0 (tQ l)
theorem jO:∀(l:aBs)(c:UInt8),-1≤Lib.indexByte l c∧(0≤Lib.indexByte l c↔c∈l)
 | [],c=>by simp[Lib.indexByte]
 | b::l,c=>by
  obtain⟨h1,h2⟩:=jO l c
  rw[Lib.indexByte]
  by_cases hb:b=c
  ·subst hb
   simp
  ·have hbe:(b == c)=false:=beq_eq_false_iff_ne.2 hb
   rw[hbe]
   simp only[aEd,if_false]
   by_cases hm:Lib.indexByte l c=-1
   ·have hbm:(Lib.indexByte l c == -1)=true:=by rw[hm];rfl
    rw[hbm]
    have:c∉l:=fun hc=>by have:=h2.2 hc;omega
    simp[this,Ne.symm hb]
   ·have hbm:(Lib.indexByte l c == -1)=false:=beq_eq_false_iff_ne.2 hm
    rw[hbm]
    simp only[aEd,if_false]
    refine⟨by omega,?_⟩
    have:0≤Lib.indexByte l c:=by omega
    simp[h2.1 this,Ne.symm hb]
    omega
theorem symN_at {t:aBs}{i:Nat}{c:UInt8}(hc:t[i]?=some c):tQ (t.drop i)=if Lib.hasPrefix (t.drop i) [33,61]=true∨Lib.hasPrefix (t.drop i) [60,61]=true then 2 else if c∈zN then 1 else 0:=by
 obtain⟨hi,rfl⟩:=aD5.1 hc
 rw[aEe hi]
 rfl
theorem mL {l p:aBs}(h:Lib.hasPrefix l p=true):p.length≤l.length:=by
 unfold Lib.hasPrefix at h
 exact(List.isPrefixOf_iff_prefix.1 h).length_le
theorem symbol_spec (b:Nat)(t:aBs)(i:Nat)(h:Heap)(hi:i<t.length)(hl:t.length≤1000000)
  (h0:bC h ⟨b,0,none⟩=some (.string ⟨⟨t⟩⟩)) (h1:bC h ⟨b,1,none⟩=some (.int .i64 i)) :
  Spec Tryz.prog 52 [.pointer (some ⟨b,0,none⟩)] h (RdE h i (uZ (t.drop i))):=by
 obtain⟨c,hc⟩:=getx hi
 have hs:=symN_at hc;have hdl:(t.drop i).length=t.length - i:=by simp
 have hc0:(t.drop i)[0]?=some c:=by rw[aEA];exact hc
 unfold uZ;refine aDX Tryz.func52 rfl Tryz.ntmps52 (by kernel_rfl) ?_;have o0:=Own.refl h;have er:List.drop (i:Int).toNat (List.take (Int.toNat (t.length:Nat)) t)=t.drop i:=by simp
 (refine aDP o0 bF ?_;intro b10 m10 o10);refine aDU [0,1,2,4,5,6,8,9] [3,7] [] [0,1,2,3,4,5,6,7,8,9] mixed (by kernel_rfl) rfl (fun _ _ _ _ h=>h) ?_;refine nC rfl ?_;refine fA dI rfl rfl rfl ?_;refine load1 aO rfl (o10.old h0) ?_;refine nC rfl ?_;refine fA dI rfl rfl rfl ?_;refine load1 aY rfl (o10.old h1) ?_;refine aDH cX rfl ⟨_,rfl⟩ rfl (by omega) (by omega) (by omega) ?_
 rw[er]
 refine aDV (sP (t.drop i) [33,61] _) ?_;rintro _ h2 ⟨rfl,oa⟩;have o2:=oa.thenE ‹_›;cases hp1:Lib.hasPrefix (t.drop i) [33,61] with
 | true =>
  have:2≤(t.drop i).length:=mL hp1
  have hn:tQ (t.drop i)=2:=by rw[hs,if_pos (.inl hp1)]
  rw[hn]
  refine aDS ?_;refine aDS ?_;refine rR (aDH cX rfl rfl ⟨_,rfl⟩ (by omega) (by omega) (by omega) ?_);refine rR (aDl eZ ?_);refine aI rfl ?_;refine aI rfl ?_;(refine aDh o2 0 rfl bF rfl (by decide) (aI ⟨rfl,rfl⟩ ?_);intro m22 o22)
  first|refine aDt rfl o22 0 rfl bF rfl rfl ?_|refine aDs rfl o22 0 rfl bF rfl rfl ?_|refine RetVC.cellTT rfl o22 0 rfl bF rfl rfl ?_
  exact⟨rfl,Own.sel ‹_› [] rfl⟩
 | false =>
  refine aDT ?_;refine aDV (sP (t.drop i) [60,61] _) ?_;rintro _ h3 ⟨rfl,ob⟩;have o3:=ob.thenE ‹_›;cases hp2:Lib.hasPrefix (t.drop i) [60,61] with
  | true =>
   have:2≤(t.drop i).length:=mL hp2
   have hn:tQ (t.drop i)=2:=by rw[hs,if_pos (.inr hp2)]
   rw[hn]
   refine aDS ?_;refine rR (aDH cX rfl rfl ⟨_,rfl⟩ (by omega) (by omega) (by omega) ?_);refine rR (aDl eZ ?_);refine aI rfl ?_;refine aI rfl ?_;(refine aDh o3 0 rfl bF rfl (by decide) (aI ⟨rfl,rfl⟩ ?_);intro m62 o62)
   first|refine aDt rfl o62 0 rfl bF rfl rfl ?_|refine aDs rfl o62 0 rfl bF rfl rfl ?_|refine RetVC.cellTT rfl o62 0 rfl bF rfl rfl ?_
   exact⟨rfl,Own.sel ‹_› [] rfl⟩
  | false =>
   rw[if_neg (by rw[hp1,hp2];simp)]at hs
   have hib:=jO zN c;refine aDT ?_;refine rR (aDw rfl rfl cX (by omega) ‹_› ?_);refine aDV (sO zN c _) ?_;rintro _ h4 ⟨rfl,od⟩;have o4:=od.thenE ‹_›;generalize Lib.indexByte zN c=q at *;by_cases hm:c∈zN
   ·have hn:tQ (t.drop i)=1:=by rw[hs,if_pos hm]
    rw[hn]
    have hq:=hib.2.2 hm;refine aDR (fun c90=>?_) (fun hc=>absurd (by omega) hc);refine rR (aDH cX rfl rfl ⟨_,rfl⟩ (by omega) (by omega) (by omega) ?_);refine rR (aDl eZ ?_);refine aI rfl ?_;refine aI rfl ?_;(refine aDh o4 0 rfl bF rfl (by decide) (aI ⟨rfl,rfl⟩ ?_);intro m93 o93)
    first|refine aDt rfl o93 0 rfl bF rfl rfl ?_|refine aDs rfl o93 0 rfl bF rfl rfl ?_|refine RetVC.cellTT rfl o93 0 rfl bF rfl rfl ?_
    exact⟨rfl,Own.sel ‹_› [] rfl⟩
   ·have hn:tQ (t.drop i)=0:=by rw[hs,if_neg hm]
    rw[hn]
    have hq:¬ 0≤q:=fun e=>hm (hib.2.1 e);refine aDR (fun hc=>absurd hc (by omega)) (fun c110=>?_);refine rR (aDH cX rfl rfl ⟨_,rfl⟩ (by omega) (by omega) (by omega) ?_);refine rR (aDl eZ ?_);refine aI rfl ?_;refine aI rfl ?_;(refine aDh o4 0 rfl bF rfl (by decide) (aI ⟨rfl,rfl⟩ ?_);intro m113 o113)
    first|refine aDt rfl o113 0 rfl bF rfl rfl ?_|refine aDs rfl o113 0 rfl bF rfl rfl ?_|refine RetVC.cellTT rfl o113 0 rfl bF rfl rfl ?_
    exact⟨⟨4,[],0,0,rfl⟩,Own.sel ‹_› [] rfl⟩
def cL (comment:Bool):aBs→Nat
 | []=>0
 | c::r=>if c.toNat=10 then 1+cL false r else if c.toNat=35 then 1+cL true r else if comment=false∧c.toNat≠32∧c.toNat≠9 then 0 else 1+cL comment r
theorem qO:∀(k:Bool)(l:aBs),cL k l≤l.length
 | _,[]=>aEf _
 | k,c::r=>by
  have h1:=qO false r;have h2:=qO true r;have h3:=qO k r;unfold cL;split
  ·simp;omega
  ·split
   ·simp;omega
   ·split
    ·simp
    ·simp;omega
theorem vY:∀(l:aBs),cL true l=bO jZ l+cL false (l.drop (bO jZ l))
 | []=>rfl
 | c::r=>by
  have ih:=vY r;by_cases hc:c.toNat=10
  ·have hn:jZ c=false:=by simp[jZ,hc]
   have hs:bO jZ (c::r)=0:=by unfold bO;rw[aEq,hn];rfl
   rw[hs]
   simp[cL,hc]
  ·have hn:jZ c=true:=by simp[jZ,hc]
   have hs:bO jZ (c::r)=bO jZ r+1:=by unfold bO;rw[aEq,hn];rfl
   rw[hs,List.drop_succ_cons]
   have:cL true (c::r)=1+cL true r:=by
    rw[cL,if_neg hc]
    by_cases h35:c.toNat=35
    ·rw[if_pos h35]
    ·rw[if_neg h35,if_neg (by simp)]
   rw[this,ih]
   omega
theorem gapF_hash {c:UInt8}{r:aBs}(hc:c.toNat=35):cL false (c::r)=bO jZ (c::r)+cL false ((c::r).drop (bO jZ (c::r))):=by
 rw[← vY]
 simp[cL,hc]
theorem gapF_at {t:aBs}{j:Nat}{c:UInt8}(hc:t[j]?=some c) :
  cL false (t.drop j)=if c.toNat=10 then 1+cL false (t.drop (j+1)) else if c.toNat=35 then 1+cL true (t.drop (j+1)) else if c.toNat≠32∧c.toNat≠9 then 0 else 1+cL false (t.drop (j+1)):=by
 obtain⟨hj,rfl⟩:=aD5.1 hc
 rw[aEe hj,cL]
 simp only[true_and]
theorem aC3 {t:aBs}{j:Nat}{c:UInt8}(hc:t[j]?=some c)(h35:c.toNat=35) :
  cL false (t.drop j)=bO jZ (t.drop j)+cL false (t.drop (j+bO jZ (t.drop j)))∧0<bO jZ (t.drop j):=by
 obtain⟨hj,rfl⟩:=aD5.1 hc
 constructor
 ·have:=gapF_hash (r:=t.drop (j+1)) h35
  rw[← aEe hj,aEJ]at this
  exact this
 ·have hn:jZ t[j]=true:=by simp[jZ,h35]
  rw[aEe hj]
  unfold bO
  rw[aEq,hn]
  simp
def leftM (b:Nat)(t:aBs)(hh:Heap):Nat :=
 match bC hh ⟨b,1,none⟩ with
 | some (.int _ n)=>t.length - n.toNat
 | _=>0
theorem sN {B:Base}{b j:Nat}{t:aBs}{h:Heap}{ty:TypeId}(o:Own B [box b [.string ⟨⟨t⟩⟩,.int .i64 j] ty] h):leftM b t h=t.length - j:=by
 unfold leftM
 rw[o.cellB 0 rfl 1]
 simp
theorem aBS (B:Base)(b:Nat)(t:aBs)(i:Nat)(h:Heap)(hi:i≤t.length)(hl:t.length≤1000000)
  (o0:Own B [box b [.string ⟨⟨t⟩⟩,.int .i64 i] 106] h) :
  cK Tryz.prog 53 [.pointer (some ⟨b,0,none⟩)] h fun r h'=>r=.tuple #[]∧Own B [box b [.string ⟨⟨t⟩⟩,.int .i64 (i+cL false (t.drop i):Nat)] 106] h':=by
 refine aDX Tryz.func53 rfl Tryz.ntmps53 (by kernel_rfl) ?_;refine aD1 [2,3,4,5,6,7,8,9,10,11,12,13,14,15,16,17,18,19,20,21,22,23,24,25,26,27,28,29,30,31,32,33,34,35,36,37,38,39,40,41,42] [] (fun vs hh=>vs=[]∧∃(j:Nat),j≤t.length∧j+cL false (t.drop j)=i+cL false (t.drop i)∧Own B [box b [.string ⟨⟨t⟩⟩,.int .i64 j] 106] hh) (fun _ hh=>leftM b t hh) ?_ ?_
 ·exact⟨rfl,i,hi,rfl,o0⟩
 ·rintro vs junk hh ⟨rfl,j,hj,hg,oh⟩
  have hm:=sN oh;by_cases hlt:j<t.length
  ·obtain⟨c,hc⟩:=getx hlt
   have ha:=gapF_at hc;have h1:=qO false (t.drop (j+1));have h35':=fun h=>aC3 hc h;by_cases h10:c.toNat=32∨c.toNat=9∨c.toNat=10
   ·have hstep:cL false (t.drop j)=1+cL false (t.drop (j+1)):=by
     rw[ha]
     by_cases h1:c.toNat=10
     ·rw[if_pos h1]
     ·rw[if_neg h1,if_neg (by omega),if_neg (by omega)]
    refine aDU [0,1,2,4,5,6,8,9] [3,7] [] [0,1,2,3,4,5,6,7,8,9] mixed (by kernel_rfl) rfl (fun _ _ _ _ h=>h) ?_;refine nC rfl ?_;refine fA dI rfl rfl rfl ?_;refine aDe oh 0 rfl aY rfl rfl ?_;refine nC rfl ?_;refine fA dI rfl rfl rfl ?_;refine aDe oh 0 rfl aO rfl rfl ?_;refine aDA rfl cX ?_;refine aDR (fun c27=>?_) (fun hc=>absurd (by omega) hc);refine aDU [0,1,2,4,5,6,8] [3,7] [] [0,1,2,3,4,5,6,7,8] mixed (by kernel_rfl) rfl (fun _ _ _ _ h=>h) ?_;refine nC rfl ?_;refine fA dI rfl rfl rfl ?_;refine aDe oh 0 rfl aO rfl rfl ?_;refine nC rfl ?_;refine fA dI rfl rfl rfl ?_;refine aDe oh 0 rfl aY rfl rfl ?_;refine aDw rfl rfl cX (by omega) ‹_› ?_;refine aDR (fun c35=>?_) (fun c35=>?_);refine aDR (fun c36=>?_) (fun hc=>absurd (by omega) hc);refine rR (nC rfl ?_);refine rR (fA dI rfl rfl rfl ?_);refine rR (aDe oh 0 rfl aY rfl rfl ?_);refine aDY (by omega) (by omega) ?_;refine rR (nC rfl ?_);refine rR (fA dI rfl rfl rfl ?_);(refine aDN oh 0 rfl aY rfl (by simp) (aI ⟨rfl,rfl⟩ ?_);intro m42 o42)
    refine⟨rfl,?_⟩
    rotate_left
    refine aDR (fun c43=>?_) (fun c43=>?_);refine aDR (fun c44=>?_) (fun hc=>absurd (by omega) hc);refine rR (nC rfl ?_);refine rR (fA dI rfl rfl rfl ?_);refine rR (aDe oh 0 rfl aY rfl rfl ?_);refine aDY (by omega) (by omega) ?_;refine rR (nC rfl ?_);refine rR (fA dI rfl rfl rfl ?_);(refine aDN oh 0 rfl aY rfl (by simp) (aI ⟨rfl,rfl⟩ ?_);intro m50 o50)
    refine⟨rfl,?_⟩
    rotate_left
    refine aDR (fun c51=>?_) (fun hc=>absurd (by omega) hc);refine rR (nC rfl ?_);refine rR (fA dI rfl rfl rfl ?_);refine rR (aDe oh 0 rfl aY rfl rfl ?_);refine aDY (by omega) (by omega) ?_;refine rR (nC rfl ?_);refine rR (fA dI rfl rfl rfl ?_);(refine aDN oh 0 rfl aY rfl (by simp) (aI ⟨rfl,rfl⟩ ?_);intro m57 o57)
    refine⟨rfl,?_⟩
    all_goals
     refine⟨⟨rfl,j+1,by omega,by omega,by assumption⟩,?_⟩
     rw[hm,sN (j:=j+1) (ty:=106) ‹_›]
     omega
   ·by_cases h35:c.toNat=35
    ·obtain⟨hs1,hs2⟩:=h35' h35
     have hsl:=mQ jZ (t.drop j);have hdl:(t.drop j).length=t.length - j:=by simp
     refine aDU [0,1,2,4,5,6,8,9] [3,7] [] [0,1,2,3,4,5,6,7,8,9] mixed (by kernel_rfl) rfl (fun _ _ _ _ h=>h) ?_;refine nC rfl ?_;refine fA dI rfl rfl rfl ?_;refine aDe oh 0 rfl aY rfl rfl ?_;refine nC rfl ?_;refine fA dI rfl rfl rfl ?_;refine aDe oh 0 rfl aO rfl rfl ?_;refine aDA rfl cX ?_;refine aDR (fun c47=>?_) (fun hc=>absurd (by omega) hc);refine aDU [0,1,2,4,5,6,8] [3,7] [] [0,1,2,3,4,5,6,7,8] mixed (by kernel_rfl) rfl (fun _ _ _ _ h=>h) ?_;refine nC rfl ?_;refine fA dI rfl rfl rfl ?_;refine aDe oh 0 rfl aO rfl rfl ?_;refine nC rfl ?_;refine fA dI rfl rfl rfl ?_;refine aDe oh 0 rfl aY rfl rfl ?_;refine aDw rfl rfl cX (by omega) ‹_› ?_;refine aDR (fun hc=>absurd hc (by omega)) (fun c55=>?_);refine aDR (fun hc=>absurd hc (by omega)) (fun c56=>?_);refine aDR (fun hc=>absurd hc (by omega)) (fun c57=>?_);refine aDR (fun c58=>?_) (fun hc=>absurd (by omega) hc);refine aDU [0,1,2,4,6,7,8] [3] [9] [0,1,2,3,4,5,6,7,8,9] mixed (by kernel_rfl) rfl (fun _ _ _ _ h=>h) ?_;refine nC rfl ?_;refine fA dI rfl rfl rfl ?_;refine aDe oh 0 rfl aY rfl rfl ?_;refine aDV (vD jZ 101 [] b t j _ hj hl (oh.cellB 0 rfl 0) (oh.cellB 0 rfl 1) (fun d h' e=>skip1_spec d h')) ?_;rintro _ h2 ⟨rfl,ob⟩;have o2:=ob.thenE ‹_›;generalize bO jZ (t.drop j)=n at *;refine aI ob.ext ?_;refine aDY (by omega) (by omega) ?_;refine nC rfl ?_;refine fA dI rfl rfl rfl ?_;(refine aDN o2 0 rfl aY rfl (by simp) (aI ⟨rfl,rfl⟩ ?_);intro m73 o73)
     refine⟨rfl,?_⟩
     all_goals
      refine⟨⟨rfl,j+n,by omega,by omega,by assumption⟩,?_⟩
      rw[hm,sN (j:=j+n) (ty:=106) ‹_›]
      omega
    ·have hz:cL false (t.drop j)=0:=by rw[ha,if_neg (by omega),if_neg h35,if_pos (by omega)]
     rw[← hg,hz,aEU]
     refine aDU [0,1,2,4,5,6,8,9] [3,7] [] [0,1,2,3,4,5,6,7,8,9] mixed (by kernel_rfl) rfl (fun _ _ _ _ h=>h) ?_;refine nC rfl ?_;refine fA dI rfl rfl rfl ?_;refine aDe oh 0 rfl aY rfl rfl ?_;refine nC rfl ?_;refine fA dI rfl rfl rfl ?_;refine aDe oh 0 rfl aO rfl rfl ?_;refine aDA rfl cX ?_;refine aDR (fun c87=>?_) (fun hc=>absurd (by omega) hc);refine aDU [0,1,2,4,5,6,8] [3,7] [] [0,1,2,3,4,5,6,7,8] mixed (by kernel_rfl) rfl (fun _ _ _ _ h=>h) ?_;refine nC rfl ?_;refine fA dI rfl rfl rfl ?_;refine aDe oh 0 rfl aO rfl rfl ?_;refine nC rfl ?_;refine fA dI rfl rfl rfl ?_;refine aDe oh 0 rfl aY rfl rfl ?_;refine aDw rfl rfl cX (by omega) ‹_› ?_;refine aDR (fun hc=>absurd hc (by omega)) (fun c95=>?_);refine aDR (fun hc=>absurd hc (by omega)) (fun c96=>?_);refine aDR (fun hc=>absurd hc (by omega)) (fun c97=>?_);refine aDR (fun hc=>absurd hc (by omega)) (fun c98=>?_);refine aD0 rfl ?_
     exact⟨rfl,oh⟩
  ·have hz:cL false (t.drop j)=0:=by rw[aEp (by omega)];rfl
   rw[← hg,hz,aEU]
   refine aDU [0,1,2,4,5,6,8,9] [3,7] [] [0,1,2,3,4,5,6,7,8,9] mixed (by kernel_rfl) rfl (fun _ _ _ _ h=>h) ?_;refine nC rfl ?_;refine fA dI rfl rfl rfl ?_;refine aDe oh 0 rfl aY rfl rfl ?_;refine nC rfl ?_;refine fA dI rfl rfl rfl ?_;refine aDe oh 0 rfl aO rfl rfl ?_;refine aDA rfl cX ?_;refine aDR (fun hc=>absurd hc (by omega)) (fun c97=>?_);refine aD0 rfl ?_
   exact⟨rfl,oh⟩
def zT (d:UInt8):Option UInt8:=if d.toNat=34 then some 34 else if d.toNat=92 then some 92 else if d.toNat=110 then some 10 else none
def eH:aBs→aBs→Nat→Rd
 | [],_,_=>.err 7
 | [c],acc,k=>if c.toNat=34 then(if 200<acc.length then .err 3 else .tok 3 acc 0 (k+2)) else if c.toNat=10 then .err 5 else .err 7
 | c::d::r,acc,k =>
  if c.toNat=34 then(if 200<acc.length then .err 3 else .tok 3 acc 0 (k+2))
  else if c.toNat=10 then .err 5
  else if c.toNat=92 then(match zT d with
   | none=>.err 5
   | some x=>eH r (acc++[x]) (k+2))
  else eH (d::r) (acc++[c]) (k+1)
def tI (l:aBs):Rd :=
 match l with
 | []=>.none
 | c::r=>if c.toNat=34 then eH r [] 0 else .none
theorem quotedR_at {t:aBs}{i:Nat}{c:UInt8}(hc:t[i]?=some c):tI (t.drop i)=if c.toNat=34 then eH (t.drop (i+1)) [] 0 else .none:=by
 obtain⟨hi,rfl⟩:=aD5.1 hc
 rw[aEe hi]
 rfl
theorem quoF_quote {l acc:aBs}{j:Nat}{x:UInt8}(hx:l[j]?=some x)(h:x.toNat=34):eH (l.drop j) acc j=if 200<acc.length then .err 3 else .tok 3 acc 0 (j+2):=by
 obtain⟨hj,rfl⟩:=aD5.1 hx
 rw[aEe hj]
 generalize l[j]=x at *
 cases l.drop (j+1) with
 | nil=>rw[eH,if_pos h]
 | cons d r=>rw[eH,if_pos h]
theorem quoF_nl {l acc:aBs}{j:Nat}{x:UInt8}(hx:l[j]?=some x)(h:x.toNat=10):eH (l.drop j) acc j=.err 5:=by
 obtain⟨hj,rfl⟩:=aD5.1 hx
 rw[aEe hj]
 generalize l[j]=x at *
 cases l.drop (j+1) with
 | nil=>rw[eH,if_neg (by omega),if_pos h]
 | cons d r=>rw[eH,if_neg (by omega),if_pos h]
theorem quoF_other {l acc:aBs}{j:Nat}{x:UInt8}(hx:l[j]?=some x)(h1:x.toNat≠34)(h2:x.toNat≠10)(h3:x.toNat≠92):eH (l.drop j) acc j=eH (l.drop (j+1)) (acc++[x]) (j+1):=by
 obtain⟨hj,rfl⟩:=aD5.1 hx
 rw[aEe hj]
 generalize l[j]=x at *
 cases l.drop (j+1) with
 | nil=>simp only[eH,if_neg h1,if_neg h2]
 | cons d r=>rw[eH,if_neg h1,if_neg h2,if_neg h3]
theorem quoF_esc {l acc:aBs}{j:Nat}{x d:UInt8}(hx:l[j]?=some x)(h:x.toNat=92)(hd:l[j+1]?=some d):eH (l.drop j) acc j=match zT d with
  | none=>.err 5
  | some y=>eH (l.drop (j+2)) (acc++[y]) (j+2):=by
 obtain⟨hj,rfl⟩:=aD5.1 hx
 obtain⟨hj1,rfl⟩:=aD5.1 hd
 rw[aEe hj,aEe hj1,eH,if_neg (by omega),if_neg (by omega),if_pos h]
theorem quoF_end {l acc:aBs}{j:Nat}{x:UInt8}(hx:l[j]?=some x)(h:x.toNat=92)(hd:l.length=j+1):eH (l.drop j) acc j=.err 7:=by
 obtain⟨hj,rfl⟩:=aD5.1 hx
 rw[aEe hj,aEp (by omega),eH,if_neg (by omega),if_neg (by omega)]
theorem quoted_spec (b:Nat)(t:aBs)(i:Nat)(h:Heap)(hi:i<t.length)(hl:t.length≤1000000)
  (h0:bC h ⟨b,0,none⟩=some (.string ⟨⟨t⟩⟩)) (h1:bC h ⟨b,1,none⟩=some (.int .i64 i)) :
  Spec Tryz.prog 51 [.pointer (some ⟨b,0,none⟩)] h (RdE h i (tI (t.drop i))):=by
 obtain⟨c,hc⟩:=getx hi
 rw[quotedR_at hc]
 refine aDX Tryz.func51 rfl Tryz.ntmps51 (by kernel_rfl) ?_;have o0:=Own.refl h;by_cases hq:c.toNat=34
 ·rw[if_pos hq]
  (refine aDP o0 bF ?_;intro b10 m10 o10);refine aDU [0,1,2,4,5,6,8,9] [3,7] [] [0,1,2,3,4,5,6,7,8,9] mixed (by kernel_rfl) rfl (fun _ _ _ _ h=>h) ?_;refine nC rfl ?_;refine fA dI rfl rfl rfl ?_;refine load1 aO rfl (o10.old h0) ?_;refine nC rfl ?_;refine fA dI rfl rfl rfl ?_;refine load1 aY rfl (o10.old h1) ?_;refine aDw rfl rfl cX (by omega) ‹_› ?_;refine aDp (fun hc=>absurd (by first|omega|assumption|decide|exact rfl) hc) (fun c18=>?_);refine aDU [0,1,2,4,5,6,8,9,10] [3,7] [] [0,1,2,3,4,5,6,7,8,9,10] mixed (by kernel_rfl) rfl (fun _ _ _ _ h=>h) ?_;refine nC rfl ?_;refine fA dI rfl rfl rfl ?_;refine load1 aO rfl (o10.old h0) ?_;refine nC rfl ?_;refine fA dI rfl rfl rfl ?_;refine load1 aY rfl (o10.old h1) ?_;refine aDY (by omega) (by omega) ?_;refine aDH cX rfl ⟨_,rfl⟩ rfl (by omega) (by omega) (by omega) ?_;have er:List.drop ((i:Int)+1).toNat (List.take (Int.toNat (t.length:Nat)) t)=t.drop (i+1):=by
   rw[show((i:Int)+1).toNat=i+1 by omega]
   simp
  rw[er]
  have hrl:(t.drop (i+1)).length≤1000000:=by simp;omega
  generalize t.drop (i+1)=rest at *
  generalize hR:eH rest [] 0=R
  have on:=o10.nilRow 5 1;refine aD1 [3,4,6,7,8,30,31,32,33,34,35,36,37,38,39,40,41,42,43,44,45,46,47,48,49,50,51,52,53,54,55,56,57,58,59,60,61,62,63,64,65,66,67,68,69,70,71,72,73,74,75,76,77,78,79,80,81,82,83,84,85,86] [4,6] (fun vs hh=>∃(j:Nat) (acc:aBs) (v:Value),j≤rest.length∧acc.length≤j∧vs=[v,.int .i64 j]∧eH (rest.drop j) acc j=R∧Own h [box b10 [.int .i64 0,.string ⟨⟨[]⟩⟩,.int .i64 0,.int .i64 0] 112,row v 5 1 acc.length (bytes acc)] hh) (fun vs _=>match vs with|[_,.int _ j]=>rest.length - j.toNat|_=>0) ?_ ?_
  ·exact⟨0,[],_,by omega,by simp,rfl,hR,on⟩
  ·rintro vs junk hh ⟨j,acc,v,hj,hal,rfl,hQ,oh⟩
   by_cases hlt:j<rest.length
   ·obtain⟨x,hx⟩:=getx hlt
    by_cases hx34:x.toNat=34
    ·rw[quoF_quote hx hx34]at hQ
     by_cases hbig:200<acc.length
     ·rw[if_pos hbig]at hQ
      subst hQ;refine rR (aDA rfl cX ?_);refine aDR (fun c41=>?_) (fun hc=>absurd (by omega) hc);refine rR (aDw rfl rfl cX (by omega) ‹_› ?_);refine aDR (fun c43=>?_) (fun hc=>absurd (by omega) hc);refine rR (aDE (oh.rowArrN 1 rfl) gP ?_);refine aDR (fun c45=>?_) (fun hc=>absurd (by omega) hc);exact aDW (iO 3 b t i _ (oh.old h1)) (fun _ _ h=>h.elim) (fun c h' ⟨hc,ho⟩=>⟨hc,(ho.thenE oh).sel [] rfl⟩)
     ·rw[if_neg hbig]at hQ
      subst hQ;refine rR (aDA rfl cX ?_);refine aDR (fun c61=>?_) (fun hc=>absurd (by omega) hc);refine rR (aDw rfl rfl cX (by omega) ‹_› ?_);refine aDR (fun c63=>?_) (fun hc=>absurd (by omega) hc);refine rR (aDE (oh.rowArrN 1 rfl) gP ?_);refine aDR (fun hc=>absurd hc (by omega)) (fun c65=>?_);refine aDR (fun c66=>?_) (fun hc=>absurd (by omega) hc);refine rR (aDK (oh.rowArr 1 rfl) gP int5 cX ?_);refine rR (aDl eZ ?_);refine aI rfl ?_;refine aI rfl ?_;refine aDY (by omega) (by omega) ?_;(refine aDh oh 0 rfl bF rfl (by decide) (aI ⟨rfl,rfl⟩ ?_);intro m69 o69)
      first|refine aDt rfl o69 0 rfl bF rfl rfl ?_|refine aDs rfl o69 0 rfl bF rfl rfl ?_|refine RetVC.cellTT rfl o69 0 rfl bF rfl rfl ?_
      exact⟨by first|rfl|(simp;omega),Own.sel ‹_› [] rfl⟩
    ·by_cases hx10:x.toNat=10
     ·rw[quoF_nl hx hx10]at hQ
      subst hQ;refine rR (aDA rfl cX ?_);refine aDR (fun c81=>?_) (fun hc=>absurd (by omega) hc);refine rR (aDw rfl rfl cX (by omega) ‹_› ?_);refine aDR (fun hc=>absurd hc (by omega)) (fun c83=>?_);refine aDT ?_;refine aDR (fun hc=>absurd hc (by omega)) (fun c84=>?_);refine aDR (fun c85=>?_) (fun hc=>absurd (by omega) hc);exact aDW (iO 5 b t i _ (oh.old h1)) (fun _ _ h=>h.elim) (fun c h' ⟨hc,ho⟩=>⟨hc,(ho.thenE oh).sel [] rfl⟩)
     ·by_cases hx92:x.toNat=92
      ·by_cases hlast:rest.length=j+1
       ·rw[quoF_end hx hx92 hlast]at hQ
        subst hQ;refine rR (aDA rfl cX ?_);refine aDR (fun c101=>?_) (fun hc=>absurd (by omega) hc);refine rR (aDw rfl rfl cX (by omega) ‹_› ?_);refine aDR (fun hc=>absurd hc (by omega)) (fun c103=>?_);refine aDT ?_;refine aDR (fun hc=>absurd hc (by omega)) (fun c104=>?_);refine aDR (fun hc=>absurd hc (by omega)) (fun c105=>?_);refine aDR (fun c106=>?_) (fun hc=>absurd (by omega) hc);refine aDY (by omega) (by omega) ?_;refine rR (aDA rfl cX ?_);refine aDR (fun c108=>?_) (fun hc=>absurd (by omega) hc);exact aDW (iO 7 b t i _ (oh.old h1)) (fun _ _ h=>h.elim) (fun c h' ⟨hc,ho⟩=>⟨hc,(ho.thenE oh).sel [] rfl⟩)
       ·obtain⟨d,hd⟩:=getx (show j+1<rest.length by omega)
        have hE:=quoF_esc (acc:=acc) hx hx92 hd;have hd':rest[((j:Int)+1).toNat]?=some d:=by rw[show((j:Int)+1).toNat=j+1 by omega];exact hd
        refine rR (aDA rfl cX ?_);refine aDR (fun c121=>?_) (fun hc=>absurd (by omega) hc);refine rR (aDw rfl rfl cX (by omega) ‹_› ?_);refine aDR (fun hc=>absurd hc (by omega)) (fun c123=>?_);refine aDT ?_;refine aDR (fun hc=>absurd hc (by omega)) (fun c124=>?_);refine aDR (fun hc=>absurd hc (by omega)) (fun c125=>?_);refine aDR (fun c126=>?_) (fun hc=>absurd (by omega) hc);refine aDY (by omega) (by omega) ?_;refine rR (aDA rfl cX ?_);refine aDR (fun hc=>absurd hc (by omega)) (fun c128=>?_);refine rR (aDw rfl rfl cX (by omega) ‹_› ?_);refine aDV (sO [34,92,110] d _) ?_;rintro _ h5 ⟨rfl,oi⟩;have o5:=oh.ext' oi;by_cases hd34:d=34
        ·have hk:Lib.indexByte [34,92,110] d=0:=by rw[hd34];decide
         rw[hE,hd34]at hQ
         rw[hk]
         rw[show zT 34=some 34 by decide]at hQ
         simp only at hQ;have hy:([34,92,10]:aBs)[((0:Int)).toNat]?=some 34:=rfl;refine aDT ?_;refine rR (aDw rfl rfl cX (by omega) ‹_› ?_);(refine aDO o5 gP ty5 rfl rfl (by decide) (aI rfl ?_);intro b131 m131 o131);(refine aDQ o131 1 rfl gP ty5 (by decide) (o131.boxArr 2 rfl (by simp) (by simp)).toN (by simp[Value.oneCell']) (by simp only[maxLen];first|omega|(simp;omega)) (by first|omega|(simp;omega)) ?_;intro v132 m132 o132);refine aDY (by omega) (by omega) ?_
         refine⟨rfl,?_⟩
         refine⟨⟨j+2,acc++[34],_,by omega,by simp;omega,rfl,hQ,?_⟩,by simp;omega⟩
         have q:=o132.sel [0,1] rfl
         simpa[pick] using q
        ·by_cases hd92:d=92
         ·have hk:Lib.indexByte [34,92,110] d=1:=by rw[hd92];decide
          rw[hE,hd92]at hQ
          rw[hk]
          rw[show zT 92=some 92 by decide]at hQ
          simp only at hQ;have hy:([34,92,10]:aBs)[((1:Int)).toNat]?=some 92:=rfl;refine aDT ?_;refine rR (aDw rfl rfl cX (by omega) ‹_› ?_);(refine aDO o5 gP ty5 rfl rfl (by decide) (aI rfl ?_);intro b141 m141 o141);(refine aDQ o141 1 rfl gP ty5 (by decide) (o141.boxArr 2 rfl (by simp) (by simp)).toN (by simp[Value.oneCell']) (by simp only[maxLen];first|omega|(simp;omega)) (by first|omega|(simp;omega)) ?_;intro v142 m142 o142);refine aDY (by omega) (by omega) ?_
          refine⟨rfl,?_⟩
          refine⟨⟨j+2,acc++[92],_,by omega,by simp;omega,rfl,hQ,?_⟩,by simp;omega⟩
          have q:=o142.sel [0,1] rfl
          simpa[pick] using q
         ·by_cases hd110:d=110
          ·have hk:Lib.indexByte [34,92,110] d=2:=by rw[hd110];decide
           rw[hE,hd110]at hQ
           rw[hk]
           rw[show zT 110=some 10 by decide]at hQ
           simp only at hQ;have hy:([34,92,10]:aBs)[((2:Int)).toNat]?=some 10:=rfl;refine aDT ?_;refine rR (aDw rfl rfl cX (by omega) ‹_› ?_);(refine aDO o5 gP ty5 rfl rfl (by decide) (aI rfl ?_);intro b151 m151 o151);(refine aDQ o151 1 rfl gP ty5 (by decide) (o151.boxArr 2 rfl (by simp) (by simp)).toN (by simp[Value.oneCell']) (by simp only[maxLen];first|omega|(simp;omega)) (by first|omega|(simp;omega)) ?_;intro v152 m152 o152);refine aDY (by omega) (by omega) ?_
           refine⟨rfl,?_⟩
           refine⟨⟨j+2,acc++[10],_,by omega,by simp;omega,rfl,hQ,?_⟩,by simp;omega⟩
           have q:=o152.sel [0,1] rfl
           simpa[pick] using q
          ·have hk:¬ 0≤Lib.indexByte [34,92,110] d:=fun e=>by
            have:=(jO [34,92,110] d).2.1 e
            simp[hd34,hd92,hd110]at this
           have hk2:=(jO [34,92,110] d).1;have hn:zT d=none:=by
            have e1:d.toNat≠34:=fun e=>hd34 (UInt8.toNat_inj.1 e);have e2:d.toNat≠92:=fun e=>hd92 (UInt8.toNat_inj.1 e);have e3:d.toNat≠110:=fun e=>hd110 (UInt8.toNat_inj.1 e)
            simp[zT,e1,e2,e3]
           rw[hE,hn]at hQ
           simp only at hQ;subst hQ;generalize Lib.indexByte [34,92,110] d=q at *;refine aDR (fun c155=>?_) (fun hc=>absurd (by omega) hc);exact aDW (iO 5 b t i _ (o5.old h1)) (fun _ _ h=>h.elim) (fun c h' ⟨hc,ho⟩=>⟨hc,(ho.thenE o5).sel [] rfl⟩)
      ·rw[quoF_other hx hx34 hx10 hx92]at hQ
       refine rR (aDA rfl cX ?_);refine aDR (fun c161=>?_) (fun hc=>absurd (by omega) hc);refine rR (aDw rfl rfl cX (by omega) ‹_› ?_);refine aDR (fun hc=>absurd hc (by omega)) (fun c163=>?_);refine aDT ?_;refine aDR (fun hc=>absurd hc (by omega)) (fun c164=>?_);refine aDR (fun hc=>absurd hc (by omega)) (fun c165=>?_);refine aDR (fun hc=>absurd hc (by omega)) (fun c166=>?_);(refine aDO oh gP ty5 rfl rfl (by decide) (aI rfl ?_);intro b167 m167 o167);(refine aDQ o167 1 rfl gP ty5 (by decide) (o167.boxArr 2 rfl (by simp) (by simp)).toN (by simp[Value.oneCell']) (by simp only[maxLen];first|omega|(simp;omega)) (by first|omega|(simp;omega)) ?_;intro v168 m168 o168);refine aDY (by omega) (by omega) ?_
       refine⟨rfl,?_⟩
       refine⟨⟨j+1,acc++[x],_,by omega,by simp;omega,rfl,hQ,?_⟩,by simp;omega⟩
       have q:=o168.sel [0,1] rfl
       simpa[pick] using q
   ·have:rest.drop j=[]:=aEp (by omega)
    rw[this]at hQ
    subst hQ;refine rR (aDA rfl cX ?_);refine aDR (fun hc=>absurd hc (by omega)) (fun c191=>?_);exact aDW (iO 7 b t i _ (oh.old h1)) (fun _ _ h=>h.elim) (fun c h' ⟨hc,ho⟩=>⟨hc,(ho.thenE oh).sel [] rfl⟩)
 ·rw[if_neg hq]
  (refine aDP o0 bF ?_;intro b200 m200 o200);refine aDU [0,1,2,4,5,6,8,9] [3,7] [] [0,1,2,3,4,5,6,7,8,9] mixed (by kernel_rfl) rfl (fun _ _ _ _ h=>h) ?_;refine nC rfl ?_;refine fA dI rfl rfl rfl ?_;refine load1 aO rfl (o200.old h0) ?_;refine nC rfl ?_;refine fA dI rfl rfl rfl ?_;refine load1 aY rfl (o200.old h1) ?_;refine aDw rfl rfl cX (by omega) ‹_› ?_;refine aDp (fun c208=>?_) (fun hc=>absurd hc (by first|omega|assumption|decide|exact rfl));refine rR (aDl eZ ?_);(refine aDh o200 0 rfl bF rfl (by decide) (aI ⟨rfl,rfl⟩ ?_);intro m210 o210)
  first|refine aDt rfl o210 0 rfl bF rfl rfl ?_|refine aDs rfl o210 0 rfl bF rfl rfl ?_|refine RetVC.cellTT rfl o210 0 rfl bF rfl rfl ?_
  exact⟨⟨0,[],0,0,rfl⟩,Own.sel ‹_› [] rfl⟩
def aAw (p q r v:Value):aVs:=[p,q,r,v,undef,undef,v,undef,undef,undef,undef,undef,undef,undef,undef,undef,undef,undef,undef,undef,undef]
theorem vW (p q r:Value):Recovers Tryz.prog (match Tryz.f48.body with|some (.seq (.region _ ops _) _)=>ops|_=>#[]) ([p,q,r]++List.replicate (21 - [p,q,r].length) undef) (aAw p q r):=by
 intro cs w Q hQ;unfold wpOpsS
 simp[Tryz.f48,List.range,List.range.loop,wpOpsS,Region.wanted,yielded,execOp,resolve,invoke,builtin,act,Act.put]
 cases hrec:recoverD cs with
 | none=>exact hQ _ _ (.inr ⟨hrec,rfl,rfl⟩)
 | some x=>exact hQ _ _ (.inl hrec)
theorem leave_ok (s:aVs)(h:Heap)(R:Ending→Heap→Prop)(p q r:Value)
  (hr:RetVC Tryz.prog Tryz.f25 s h fun v h=>R (.returned v) h) :
  LeaveVC Tryz.prog Tryz.f25 ⟨.fn (.func 48) ⟨[p,q,r]⟩,#[]⟩ .returning s h R:=by
 refine LeaveVC.recovers (f:=aAw p q r) .nilIface Tryz.func48 rfl (n:=21) (by kernel_rfl) (by kernel_rfl) rfl (.inl ⟨rfl,rfl⟩) (vW p q r) ?_;refine rR (neI aCg (by first|assumption|rfl) ?_);refine aDT ?_;exact hr
theorem xM (s:aVs)(h:Heap)(R:Ending→Heap→Prop)(B:Base)(b2 b3 b4:Nat)(x y z:Value)(e:Int)(i:Nat)
  (o0:Own B [box b2 [x] 64,box b3 [y] 27,box b4 [z] 3] h)
  (h2:sget s 2=.pointer (some ⟨b2,0,none⟩)) (h3:sget s 3=.pointer (some ⟨b3,0,none⟩)) (h4:sget s 4=.pointer (some ⟨b4,0,none⟩))
  (hR:∀ h',Own B [] h'→R (.returned (.tuple ⟨[.slice none 0 0,.int .i64 e,.int .i64 i]⟩)) h') :
  LeaveVC Tryz.prog Tryz.f25 ⟨.fn (.func 48) ⟨[.pointer (some ⟨b2,0,none⟩),.pointer (some ⟨b3,0,none⟩),.pointer (some ⟨b4,0,none⟩)]⟩,#[]⟩ (.panicking (faultC e i)) s h R:=by
 refine LeaveVC.recovers (f:=aAw (.pointer (some ⟨b2,0,none⟩)) (.pointer (some ⟨b3,0,none⟩)) (.pointer (some ⟨b4,0,none⟩))) (.iface 102 (.agg ⟨[.int .i64 e,.int .i64 i]⟩)) Tryz.func48 rfl (n:=21) (by kernel_rfl) (by kernel_rfl) rfl (.inr rfl) (vW _ _ _) ?_;refine rR (neI aCg (by first|assumption|rfl) ?_);refine aDS ?_;refine rR (assertOk con102 rfl ?_);(refine aDP o0 ty102 ?_;intro b12 m12 o12);(refine aDh o12 3 rfl ty102 rfl (by decide) (aI ⟨rfl,rfl⟩ ?_);intro m13 o13);refine aDT ?_;refine DrawVC.introB b12 [0,2] [1,3] [6] [0,1,2,3,4,5,6] mixed (by kernel_rfl) rfl (fun _ _ _ _ h=>h) ?_;refine fA st102 rfl rfl rfl ?_;refine StillVCA.load1 iX rfl rfl ((o13.cellB 3 rfl _).trans rfl) ?_;refine fA st102 rfl rfl rfl ?_;refine StillVCA.load1 aY rfl rfl ((o13.cellB 3 rfl _).trans rfl) ?_;(refine aDN o13 0 rfl eX rfl (by simp) (aI ⟨rfl,rfl⟩ ?_);intro m24 o24);refine aI ((o24.boxBlk 3 rfl).trans (o13.boxBlk 3 rfl).symm) ?_;(refine aDN o24 1 rfl iX rfl (by simp) (aI ⟨rfl,rfl⟩ ?_);intro m25 o25);refine aI ((o25.boxBlk 3 rfl).trans (o24.boxBlk 3 rfl).symm) ?_;(refine aDN o25 2 rfl aY rfl (by simp) (aI ⟨rfl,rfl⟩ ?_);intro m26 o26);exact RetVC.cell3 rfl eX iX aY h2 h3 h4 (o26.cellB 0 rfl 0) (o26.cellB 1 rfl 0) (o26.cellB 2 rfl 0) (hR _ (o26.sel [] rfl))
structure Tok where
 kind:Int
 text:aBs
 num:Int
 off:Nat
def rL (t:Tok):aVs:=[.int .i64 t.kind,.string ⟨⟨t.text⟩⟩,.int .i64 t.num,.int .i64 t.off]
def jX:List (aBs→Rd)→aBs→Rd
 | [],_=>.err 5
 | r::rs,l=>match r l with
  | .none=>jX rs l
  | x=>x
def readers:List (aBs→Rd):=[yT,qG,tI,uZ]
def eA (l:aBs):Rd:=jX readers l
def gZ:Nat→aBs→Nat→Nat→Except (Int×Nat) (List Tok)
 | 0,_,_,_=>.ok []
 | f+1,l,i,k=>match l with
  | []=>.ok []
  | c::r=>match eA (c::r) with
   | .err e=>.error (e,i)
   | .none=>.error (5,i)
   | .tok kd x n len=>if k=5000 then .error (3,i) else
    match gZ f ((c::r).drop (len+cL false ((c::r).drop len))) (i+(len+cL false ((c::r).drop len))) (k+1) with
    | .error e=>.error e
    | .ok ts=>.ok (⟨kd,x,n,i⟩::ts)
def rF (t:aBs):Except (Int×Nat) (List Tok):=gZ t.length (t.drop (cL false t)) (cL false t) 0
def zG (acc:List Tok):Except (Int×Nat) (List Tok)→Except (Int×Nat) (List Tok)
 | .error e=>.error e
 | .ok ts=>.ok (acc++ts)
theorem aCc {f:Nat}{l:aBs}{i k len:Nat}{kd n:Int}{x:aBs}(hl:l≠[])(hr:eA l=.tok kd x n len)(hk:k≠5000)(acc:List Tok) :
  zG acc (gZ (f+1) l i k)=zG (acc++[⟨kd,x,n,i⟩]) (gZ f (l.drop (len+cL false (l.drop len))) (i+(len+cL false (l.drop len))) (k+1)):=by
 cases l with
 | nil=>exact absurd rfl hl
 | cons c r =>
  rw[gZ,hr]
  simp only[if_neg hk]
  cases gZ f _ _ _ with
  | error e=>rfl
  | ok ts=>simp[zG]
theorem aAQ {f:Nat}{l:aBs}{i len:Nat}{kd n:Int}{x:aBs}(hl:l≠[])(hr:eA l=.tok kd x n len) :
  gZ (f+1) l i 5000=.error (3,i):=by
 cases l with
 | nil=>exact absurd rfl hl
 | cons c r=>rw[gZ,hr];rfl
theorem xL {f:Nat}{l:aBs}{i k:Nat}{e:Int}(hl:l≠[])(hr:eA l=.err e) :
  gZ (f+1) l i k=.error (e,i):=by
 cases l with
 | nil=>exact absurd rfl hl
 | cons c r=>rw[gZ,hr]
theorem xK (f i k:Nat):gZ f [] i k=.ok []:=by
 cases f<;>rfl
theorem nX:∀(l acc:aBs)(k:Nat) {kd n:Int}{x:aBs}{len:Nat},eH l acc k=.tok kd x n len→k+2≤len∧len≤k+1+l.length
 | [],_,_,_,_,_,_,h=>by cases h
 | [c],acc,k,_,_,_,_,h=>by
  rw[eH]at h
  split at h
  ·split at h
   ·cases h
   ·injection h with _ _ _ e;subst e;simp
  ·split at h<;>cases h
 | c::d::r,acc,k,_,_,_,_,h=>by
  rw[eH]at h
  split at h
  ·split at h
   ·cases h
   ·injection h with _ _ _ e;subst e;simp;omega
  ·split at h
   ·cases h
   ·split at h
    ·split at h
     ·cases h
     ·have:=nX r _ _ h;simp;omega
    ·have:=nX (d::r) _ _ h;simp at this ⊢;omega
theorem aBR {p:UInt8→Bool}{c:UInt8}{r:aBs}(h:p c=true):1≤bO p (c::r):=by
 unfold bO;rw[aEq,h];simp
theorem kQ {l:aBs}{kd n:Int}{x:aBs}{len:Nat}(h:eA l=.tok kd x n len):1≤len∧len≤l.length:=by
 have h1:=mQ cF l;have h2:=mQ cA l;unfold eA readers jX at h;split at h
 ·unfold jX at h
  split at h
  ·unfold jX at h
   split at h
   ·unfold jX at h
    split at h
    ·cases h
    ·unfold uZ at h
     split at h
     ·cases h
     ·rename_i hs
      injection h with _ _ _ e
      subst e
      refine⟨by omega,?_⟩
      unfold tQ;split
      ·rename_i hh
       rcases hh with hh|hh
       ·exact mL hh
       ·exact mL hh
      ·split
       ·simp
       ·split<;>simp
   ·unfold tI at h
    split at h
    ·cases h
    ·split at h
     ·have:=nX _ _ _ h
      simp;omega
     ·cases h
  ·unfold qG at h
   split at h
   ·cases h
   ·split at h
    ·cases h
    ·injection h with _ _ _ e
     omega
 ·cases l with
  | nil=>cases h
  | cons c r =>
   simp only[yT]at h
   split at h
   ·rename_i hc
    split at h
    ·cases h
    ·injection h with _ _ _ e
     have:=aBR (p:=cF) (c:=c) (r:=r) (by unfold cF;rw[hc];rfl)
     omega
   ·cases h
def mN (h:Heap)(t:aBs)(v:Value)(h':Heap):Prop :=
 if 20000<t.length then v=.tuple ⟨[.slice none 0 0,.int .i64 3,.int .i64 (-1)]⟩∧Own h [] h'
 else match rF t with
  | .error (e,i)=>v=.tuple ⟨[.slice none 0 0,.int .i64 e,.int .i64 i]⟩∧Own h [] h'
  | .ok ts=>∃ u,v=.tuple ⟨[u,.int .i64 0,.int .i64 0]⟩∧Own h [row u 112 4 ts.length (ts.flatMap rL)] h'
def fnV (b:Nat)(f:FuncId):Value:=.func (.func f) ⟨[.pointer (some ⟨b,0,none⟩)]⟩ ⟨[]⟩
def fnsV (b:Nat):aVs:=[fnV b 49,fnV b 50,fnV b 51,fnV b 52]
theorem reader_at (b:Nat)(t:aBs)(q:Nat)(hq:q<4):∃ g r,(fnsV b)[q]?=some (fnV b g)∧readers.drop q=r::readers.drop (q+1) ∧
  ∀(i:Nat) (h:Heap),i<t.length→t.length≤1000000→bC h ⟨b,0,none⟩=some (.string ⟨⟨t⟩⟩)→bC h ⟨b,1,none⟩=some (.int .i64 i)→Spec Tryz.prog g [.pointer (some ⟨b,0,none⟩)] h (RdE h i (r (t.drop i))):=by
 match q,hq with
 | 0,_=>exact⟨_,_,rfl,rfl,fun i h hi hl h0 h1=>name_spec b t i h hi hl h0 h1⟩
 | 1,_=>exact⟨_,_,rfl,rfl,fun i h hi hl h0 h1=>number_spec b t i h hi hl h0 h1⟩
 | 2,_=>exact⟨_,_,rfl,rfl,fun i h hi hl h0 h1=>quoted_spec b t i h hi hl h0 h1⟩
 | 3,_=>exact⟨_,_,rfl,rfl,fun i h hi hl h0 h1=>symbol_spec b t i h hi hl h0 h1⟩
theorem lex_spec (t:aBs)(h:Heap)(hl:t.length≤9223372036854775807) :
  cK Tryz.prog 25 [.string ⟨⟨t⟩⟩] h (mN h t):=by
 refine Spec.enterD Tryz.func25 rfl (n:=77) (by kernel_rfl) (by kernel_rfl) ?_;have o0:=Own.refl h;by_cases hbig:20000<t.length
 ·(refine aDP o0 eX ?_;intro b10 m10 o10)
  (refine aDP o10 iX ?_;intro b11 m11 o11);(refine aDP o11 aY ?_;intro b12 m12 o12);refine rR (aDA rfl cX ?_);refine aDR (fun c14=>?_) (fun hc=>absurd (by omega) hc);(refine aDh o12 0 rfl eX rfl (by decide) (aI ⟨rfl,rfl⟩ ?_);intro m15 o15);(refine aDh o15 1 rfl iX rfl (by decide) (aI ⟨rfl,rfl⟩ ?_);intro m16 o16);(refine aDh o16 2 rfl aY rfl (by decide) (aI ⟨rfl,rfl⟩ ?_);intro m17 o17);refine RetVC.cell3 rfl eX iX aY rfl rfl rfl (o17.cellB 0 rfl 0) (o17.cellB 1 rfl 0) (o17.cellB 2 rfl 0) ?_;show mN h t _ _
  rw[mN,if_pos hbig]
  exact⟨rfl,o17.sel [] rfl⟩
 ·have hP:∀ v h',mN h t v h'=_:=fun v h'=>by rw[mN,if_neg hbig]
  (refine aDP o0 eX ?_;intro b20 m20 o20);(refine aDP o20 iX ?_;intro b21 m21 o21);(refine aDP o21 aY ?_;intro b22 m22 o22);refine rR (aDA rfl cX ?_);refine aDR (fun hc=>absurd hc (by omega)) (fun c24=>?_);refine DeferVC.closure (by simp) ?_;refine rR (aDl dI ?_);refine aI rfl ?_;(refine aDz o22 rfl ?_;intro b31 m31 o31);refine rR (aDy ?_);refine rR (aDy ?_);refine rR (aDy ?_);refine rR (aDy ?_);refine rR (buildA arr108 ty108 rfl rfl rfl (aI rfl ?_));refine rR (aDl st110 ?_);refine aI rfl ?_;(refine aDP o31 ty110 ?_;intro b38 m38 o38);(refine aDh o38 4 rfl ty110 rfl (by decide) (aI ⟨rfl,rfl⟩ ?_);intro m39 o39);have ol:=o39.lend [3] [0,1,2,4] rfl;refine aDV (aBS _ b31 t 0 _ (by omega) (by omega) ol) ?_;rintro _ m40 ⟨rfl,os⟩;have o40:Own h [box b20 [.slice none 0 0] 64,box b21 [.int .i64 0] 27,box b22 [.int .i64 0] 3,box b31 [.string ⟨⟨t⟩⟩,.int .i64 (0+cL false (t.drop 0):Nat)] 106,box b38 (fnsV b31) 110] m40:=os.back.sel [1,2,3,0,4] rfl;have hgle:=qO false t
  simp only[aEo,List.drop_zero]at o40
  generalize hT:rF t=T at hP
  have hT0:zG [] (gZ (t.length) (t.drop (cL false t)) (cL false t) 0)=T:=by
   rw[← hT,rF]
   cases gZ t.length (t.drop (cL false t)) (cL false t) 0<;>rfl
  have on:=o40.nilRow 112 4;refine aD1 [8,9,10,30,31,32,33,34,35,36,37,38,39,40,41,42,43,44,45,46,47,48,49,50,51,52,53,54,55,56,57,58,59,60,61,62,63,64,65,66,67,68,69,70,71,72,73,74,75] [] (fun _ hh=>∃(f j:Nat) (acc:List Tok) (v:Value),j≤t.length∧t.length≤j+f∧acc.length≤j∧acc.length≤5000∧zG acc (gZ f (t.drop j) j acc.length)=T∧Own h [box b20 [v] 64,box b21 [.int .i64 0] 27,box b22 [.int .i64 0] 3,box b31 [.string ⟨⟨t⟩⟩,.int .i64 (j:Nat)] 106,box b38 (fnsV b31) 110,row v 112 4 acc.length (acc.flatMap rL)] hh) (fun _ hh=>leftM b31 t hh) ?_ ?_
  ·exact⟨t.length,cL false t,[],_,hgle,by omega,by simp,by simp,hT0,on⟩
  ·rintro vs junk hh ⟨f,j,acc,v,hj,hf,haj,hac,hQ,oh⟩
   obtain⟨va,vc,rfl⟩:=oh.rowIs 5 rfl
   by_cases hlt:j<t.length
   ·have hdn:t.drop j≠[]:=fun e=>by have:=congrArg List.length e;simp at this;omega
    obtain⟨f,rfl⟩:∃ f',f=f'+1:=⟨f - 1,by omega⟩
    refine rR (nC rfl ?_);refine rR (fA dI rfl rfl rfl ?_);refine rR (aDe oh 3 rfl aY rfl rfl ?_);refine rR (aDA rfl cX ?_);refine aDR (fun c64=>?_) (fun hc=>absurd (by omega) hc);refine rR (fA st110 rfl rfl rfl ?_);refine rR (aDi oh 4 rfl ty108 rfl rfl rfl ?_);refine aD1 [8,9,10,39,40,41,42,43,44,45,46,47,48,49,50,51,52,53,54,55,56,57,58,59,60,61,62,63,64,65,66,67,68,69,70,71,72,73] [39] (fun vs h2=>∃ q,q≤4∧vs=[.int .i64 (q:Nat)]∧jX (readers.drop q) (t.drop j)=eA (t.drop j)∧Own h [box b20 [.slice va acc.length vc] 64,box b21 [.int .i64 0] 27,box b22 [.int .i64 0] 3,box b31 [.string ⟨⟨t⟩⟩,.int .i64 (j:Nat)] 106,box b38 (fnsV b31) 110,row (.slice va acc.length vc) 112 4 acc.length (acc.flatMap rL)] h2) (fun vs _=>match vs with|[.int _ q]=>4 - q.toNat|_=>0) ?_ ?_
    ·exact⟨0,by omega,rfl,rfl,oh⟩
    ·rintro vs junk h2 ⟨q,hq,rfl,hR,oq⟩
     by_cases hq4:q<4
     ·obtain⟨g,r,hg,hd,hsp⟩:=reader_at b31 t q hq4
      rw[hd]at hR
      refine aDR (fun c70=>?_) (fun hc=>absurd (by omega) hc);refine rR (indexA arr108 rfl rfl (by omega) (by omega) (by first|rfl|assumption) ?_);refine aD2 ?_;refine aDW (hsp j _ hlt (by omega) (oq.cellB 3 rfl 0) (oq.cellB 3 rfl 1)) ?_ ?_
      ·rintro v h3 ⟨hv,oe⟩
       have o3:=oq.ext' oe;cases hr:r (t.drop j) with
       | err e=>rw[hr]at hv;exact hv.elim
       | none =>
        rw[hr]at hv
        obtain⟨k',x',n',a',rfl⟩:=hv
        have hR':jX (readers.drop (q+1)) (t.drop j)=eA (t.drop j):=by rw[← hR,jX,hr]
        (refine aDP o3 bF ?_;intro b100 m100 o100);(refine aDh o100 6 rfl bF rfl (by decide) (aI ⟨rfl,rfl⟩ ?_);intro m101 o101);refine aDS ?_;refine aDY (by omega) (by omega) ?_
        refine⟨rfl,?_⟩
        exact⟨⟨q+1,by omega,rfl,hR',Own.sel ‹_› [0,1,2,3,4,5] rfl⟩,by simp;omega⟩
       | tok k' x' n' len =>
        rw[hr]at hv
        obtain rfl:=hv;have hR':eA (t.drop j)=.tok k' x' n' len:=by rw[← hR,jX,hr]
        obtain⟨hl1,hl2⟩:=kQ hR'
        rw[aEE]at hl2
        by_cases hfull:acc.length=5000
        ·rw[hfull,aAQ hdn hR']at hQ
         (refine aDP o3 bF ?_;intro b120 m120 o120);(refine aDh o120 6 rfl bF rfl (by decide) (aI ⟨rfl,rfl⟩ ?_);intro m121 o121);refine aDR (fun hc=>absurd hc (by omega)) (fun c122=>?_);refine rR (aDe o121 0 rfl eX rfl rfl ?_);refine rR (aDn rfl fX ?_);refine aDR (fun c125=>?_) (fun hc=>absurd (by omega) hc);refine aDW (iO 3 b31 t j _ (Own.cellB ‹_› 3 rfl 1)) (fun _ _ h=>h.elim) (fun c h4 ⟨hc,ho⟩=>?_);subst hc;have o5:Own h [box b20 [.slice va acc.length vc] 64,box b21 [.int .i64 0] 27,box b22 [.int .i64 0] 3] _:=(Own.ext' ‹_› ho).sel [0,1,2] rfl;refine xM _ _ _ _ b20 b21 b22 _ _ _ 3 j o5 rfl rfl rfl fun h' o'=>?_;show mN h t _ _
         rw[hP,← hQ]
         exact⟨rfl,o'⟩
        ·rw[aCc hdn hR' hfull]at hQ
         (refine aDP o3 bF ?_;intro b140 m140 o140);(refine aDh o140 6 rfl bF rfl (by decide) (aI ⟨rfl,rfl⟩ ?_);intro m141 o141);refine aDR (fun hc=>absurd hc (by omega)) (fun c142=>?_);refine rR (aDe o141 0 rfl eX rfl rfl ?_);refine rR (aDn rfl fX ?_);refine aDR (fun hc=>absurd hc (by omega)) (fun c145=>?_);refine rR (nC rfl ?_);refine rR (fA dI rfl rfl rfl ?_);refine rR (aDe o141 3 rfl aY rfl rfl ?_);refine rR (fA eZ rfl rfl rfl ?_);(refine aDN o141 6 rfl aY rfl (by simp) (aI ⟨rfl,rfl⟩ ?_);intro m150 o150);refine rR (aDe o150 0 rfl eX rfl rfl ?_);refine rR (aDi o150 6 rfl bF rfl rfl rfl ?_);(refine aDD o150 fX bF rfl rfl (by decide) ?_);refine aI rfl ?_;intro b154 m154 o154;refine aDQ ‹_› 5 rfl fX bF (by decide) (Own.boxArrN ‹_› 7 rfl (n:=1) rfl (by omega)) (by simp[Value.oneCell']) (by simp only[maxLen];omega) (by omega) ?_;intro v155 m155 o155
         obtain⟨ua,uc,rfl⟩:=o155.rowIs 5 rfl
         (refine aDN o155 0 rfl eX rfl (by simp) (aI ⟨rfl,rfl⟩ ?_);intro m160 o160);refine rR (nC rfl ?_);refine rR (fA dI rfl rfl rfl ?_);refine rR (aDe o160 3 rfl aY rfl rfl ?_);refine aDY (by omega) (by omega) ?_;refine rR (nC rfl ?_);refine rR (fA dI rfl rfl rfl ?_);(refine aDN o160 3 rfl aY rfl (by simp) (aI ⟨rfl,rfl⟩ ?_);intro m166 o166);refine aDV (aBS _ b31 t (j+len) _ (by omega) (by omega) (Own.lend ‹_› [3] [0,1,2,4,5] rfl)) ?_;rintro _ m170 ⟨rfl,os⟩;have o170:Own h [box b20 [.slice ua (acc.length+1) uc] 64,box b21 [.int .i64 0] 27,box b22 [.int .i64 0] 3,box b31 [.string ⟨⟨t⟩⟩,.int .i64 (j+len+cL false (t.drop (j+len)):Nat)] 106,box b38 (fnsV b31) 110,row (.slice ua (acc.length+1) uc) 112 4 (acc.length+1) (acc.flatMap rL++rL ⟨k',x',n',j⟩)] m170:=os.back.sel [1,2,3,0,4,5] rfl;have hgl:=qO false (t.drop (j+len))
         rw[aEE]at hgl
         simp only[aEJ]at hQ
         generalize cL false (t.drop (j+len))=gg at *
         refine⟨rfl,?_⟩
         have hm1:=sN (b:=b31) (j:=j) (t:=t) (ty:=106) (oh.lend [3] [0,1,2,4,5] rfl);have hm2:=sN (b:=b31) (j:=j+len+gg) (t:=t) (ty:=106) (o170.lend [3] [0,1,2,4,5] rfl)
         refine⟨⟨f,j+len+gg,acc++[⟨k',x',n',j⟩],.slice ua (acc.length+1) uc,by omega,by omega,by simp;omega,by simp;omega,?_,?_⟩,?_⟩
         ·rw[← hQ,aD9]
          simp only[aEa,aEr,aEo,Nat.add_assoc]
         ·have e1:(acc++[(⟨k',x',n',j⟩:Tok)]).length=acc.length+1:=by simp
          have e2:(acc++[(⟨k',x',n',j⟩:Tok)]).flatMap rL=acc.flatMap rL++rL ⟨k',x',n',j⟩:=by simp
          rw[e1,e2]
          exact o170
         ·rw[hm1,hm2]
          omega
      ·rintro c h3 ⟨hc,oe⟩
       cases hr:r (t.drop j) with
       | err e =>
        rw[hr]at hc
        subst hc;have hR':eA (t.drop j)=.err e:=by rw[← hR,jX,hr]
        rw[xL hdn hR']at hQ
        refine xM _ _ _ _ b20 b21 b22 _ _ _ e j ((oq.ext' oe).sel [0,1,2] rfl) rfl rfl rfl fun h' o'=>?_;show mN h t _ _
        rw[hP,← hQ]
        exact⟨rfl,o'⟩
       | none=>rw[hr]at hc;exact hc.elim
       | tok _ _ _ _=>rw[hr]at hc;exact hc.elim
     ·obtain rfl:q=4:=by omega
      refine aDT ?_;refine aDW (iO 5 b31 t j _ (oq.cellB 3 rfl 1)) (fun _ _ h=>h.elim) (fun c h4 ⟨hc,ho⟩=>?_);subst hc
      rw[xL hdn hR.symm]at hQ
      refine xM _ _ _ _ b20 b21 b22 _ _ _ 5 j ((oq.ext' ho).sel [0,1,2] rfl) rfl rfl rfl fun h' o'=>?_;show mN h t _ _
      rw[hP,← hQ]
      exact⟨rfl,o'⟩
   ·have hd:t.drop j=[]:=aEp (by omega)
    rw[hd,xK]at hQ
    simp only[zG,aEb]at hQ
    refine rR (nC rfl ?_);refine rR (fA dI rfl rfl rfl ?_);refine rR (aDe oh 3 rfl aY rfl rfl ?_);refine rR (aDA rfl cX ?_);refine aDR (fun hc=>absurd hc (by omega)) (fun c84=>?_);refine rR (aDe oh 0 rfl eX rfl rfl ?_);(refine aDN oh 0 rfl eX rfl (by simp) (aI ⟨rfl,rfl⟩ ?_);intro m86 o86);(refine aDh o86 1 rfl iX rfl (by decide) (aI ⟨rfl,rfl⟩ ?_);intro m87 o87);(refine aDh o87 2 rfl aY rfl (by decide) (aI ⟨rfl,rfl⟩ ?_);intro m88 o88);refine leave_ok _ _ _ _ _ _ ?_;refine RetVC.cell3 rfl eX iX aY rfl rfl rfl (o88.cellB 0 rfl 0) (o88.cellB 1 rfl 0) (o88.cellB 2 rfl 0) ?_;show mN h t _ _
    rw[hP,← hQ]
    exact⟨_,rfl,o88.sel [5] rfl⟩
structure Vl where
 k:Int
 n:Int
 t:aBs
structure Opd where
 var:aBs
 attr:aBs
 con:Bool
 val:Vl
structure Cnd where
 left:Opd
 op:Int
 right:Opd
 add:Int
structure Col where
 name:aBs
 kind:Int
 dflt:Vl
structure Trm where
 attr:aBs
 measure:Int
 tol:Int
 num:Int
 den:Int
 gives:Int
 takes:Int
structure Nmd where
 name:aBs
 val:Vl
structure Vr where
 name:aBs
 table:aBs
inductive Ex where
 | mk (kind:Int) (table:aBs) (kids:List Ex) (conds:List Cnd) (names:List aBs) (attr:aBs) (as_:aBs) (agg:Int) (off:Nat)
structure It where
 kind:Int
 name:aBs
 off:Nat
 table:aBs
 attr:aBs
 cols:List Col
 names:List aBs
 by_:Int
 n:Int
 m:Int
 terms:List Trm
 other:aBs
 oattr:aBs
 fixed:List Nmd
 vars:List Vr
 conds:List Cnd
 expr:Ex
def vl0:Vl:=⟨0,0,[]⟩
def ex0:Ex:=.mk 0 [] [] [] [] [] [] 0 0
def tZ:It:=⟨0,[],0,[],[],[],[],0,0,0,[],[],[],[],[],[],ex0⟩
def PM (α:Type):=List Tok→Except (Int×Nat) (α×List Tok)
instance:Monad PM where
 pure a:=fun ts=>.ok (a,ts)
 bind m f:=fun ts=>match m ts with
  | .error e=>.error e
  | .ok (a,r)=>f a r
def ifP {α:Type}(c:Bool)(m:PM α)(d:α):PM α:=if c=true then m else pure d
theorem kB {α:Type}{c:Bool}{m:PM α}{d:α}(h:c=true):ifP c m d=m:=if_pos h
theorem nB {α:Type}{c:Bool}{m:PM α}{d:α}(h:c=false):ifP c m d=pure d:=if_neg (by rw[h];decide)
section
variable (z : Nat)
def aBM (e:Int)(ts:List Tok):Int×Nat:=match ts with
 | []=>(7,z)
 | t::_=>(e,t.off)
def pV {α:Type}(e:Int):PM α:=fun ts=>.error (aBM z e ts)
def dH (t:Tok)(s:aBs):Bool:=decide (t.text=s∧(t.kind=1∨t.kind=4))
def bD:List aBs→List Tok→Bool
 | [],_=>true
 | _::_,[]=>false
 | s::ss,t::ts=>dH t s&&bD ss ts
def cG (s:aBs):PM Bool:=fun ts=>if bD [s] ts then .ok (true,ts.tail) else .ok (false,ts)
def need1 (s:aBs):PM Unit:=do
 if ← cG s then pure () else pV z 4
def aX:List aBs→PM Unit
 | []=>pure ()
 | s::r=>do
  need1 z s
  aX r
def fI (k:Int):PM Tok:=fun ts=>match ts with
 | []=>.error (7,z)
 | t::r=>if t.kind=k then .ok (t,r) else .error (4,t.off)
def cI:PM aBs:=do
 let t ← fI z 1
 pure t.text
def lK:PM Int:=do
 let t ← fI z 2
 pure t.num
def eO:List aBs→Int→PM Int
 | [],_=>pV z 4
 | s::r,i=>do
  if ← cG s then pure i else eO r (i+1)
def listA {α:Type}(sep:aBs)(one:PM α):Nat→List α→PM (List α)
 | 0,acc=>pure acc
 | f+1,acc=>do
  if ← cG sep then
   let a ← one
   listA sep one f (acc++[a])
  else pure acc
def gX {α:Type}(sep:aBs)(one:PM α):PM (List α):=do
 let a ← one
 fun ts=>listA sep one (ts.length+1) [a] ts
def lW:PM (List aBs):=gX [44] (cI z)
def oC:PM (Option Vl):=do
 if ← cG [45] then
  let n ← lK z
  pure (some ⟨2,-n,[]⟩)
 else if ← cG [64] then
  let n ← lK z
  pure (some ⟨3,n,[]⟩)
 else if ← cG [116,114,117,101] then pure (some ⟨4,1,[]⟩)
 else if ← cG [102,97,108,115,101] then pure (some ⟨4,0,[]⟩)
 else if ← cG [110,117,108,108] then pure (some vl0)
 else pure none
def namesU (s:aBs):PM (List aBs):=fun ts=>if bD [s] ts=true then .ok ([],ts) else lW z ts
def dA:PM (Option Vl):=fun ts=>match ts with
 | []=>.ok (none,[])
 | t::r =>
  if t.kind=3 then .ok (some ⟨1,0,t.text⟩,r)
  else if t.kind=2 then .ok (some ⟨2,t.num,[]⟩,r)
  else oC z (t::r)
def mX:PM Vl:=do
 match ← dA z with
 | some v=>pure v
 | none=>pV z 4
def nW:PM Opd:=do
 match ← dA z with
 | some v=>pure ⟨[],[],true,v⟩
 | none =>
  let first ← cI z
  if ← cG [46] then
   let a ← cI z
   pure ⟨first,a,false,vl0⟩
  else pure ⟨[],first,false,vl0⟩
def sY:PM Cnd:=do
 let l ← nW z
 let op ← eO z [[61],[33,61],[60],[60,61]] 1
 let r ← nW z
 if ← cG [43] then
  let n ← lK z
  pure ⟨l,op,r,n⟩
 else if ← cG [45] then
  let n ← lK z
  pure ⟨l,op,r,-n⟩
 else pure ⟨l,op,r,0⟩
def lF:PM (List Cnd):=do
 aX z [[119,104,101,114,101]]
 gX [97,110,100] (sY z)
def cJ:List aBs:=[[115,101,108,101,99,116],[112,114,111,106,101,99,116],[106,111,105,110],[117,110,105,111,110],[109,105,110,117,115],[114,101,110,97,109,101],[103,114,111,117,112]]
def gO (ts:List Tok):Option Nat:=(List.range 7).find? fun i=>bD [cJ.getD i [],[40]] ts
def kC (off:Nat)(t:aBs):Ex:=.mk 1 t [] [] [] [] [] 0 off
def eC (i:Nat)(off:Nat)(kids:List Ex):PM Ex :=
 match i with
 | 0=>do
  let c ← lF z
  pure (.mk 2 [] kids c [] [] [] 0 off)
 | 1=>do
  aX z [[111,110]]
  let l ← namesU z [41]
  pure (.mk 3 [] kids [] l [] [] 0 off)
 | 5=>do
  aX z [[44]]
  let a ← cI z
  aX z [[97,115]]
  let b ← cI z
  pure (.mk 7 [] kids [] [] a b 0 off)
 | 6=>do
  aX z [[111,110]]
  let l ← namesU z [119,105,116,104]
  aX z [[119,105,116,104]]
  let g ← eO z [[99,111,117,110,116],[115,117,109],[108,101,97,115,116],[103,114,101,97,116,101,115,116]] 1
  let a ← ifP (g != 1) (cI z) []
  aX z [[97,115]]
  let b ← cI z
  pure (.mk 8 [] kids [] l a b g off)
 | i=>pure (.mk (2+i) [] kids [] [] [] [] 0 off)
def qD (i:Nat):Bool:=i == 2||i == 3||i == 4
def bH:List Tok→Nat
 | []=>0
 | t::_=>t.off
def bV:Nat→PM Ex
 | 0=>pV z 3
 | n+1=>fun ts=>match gO ts with
  | none=>(do
   let t ← cI z
   pure (kC (bH ts) t):PM Ex) ts
  | some i=>(do
   aX z [cJ.getD i [],[40]]
   let a ← bV n
   let kids ← ifP (qD i) (do
    aX z [[44]]
    let b ← bV n
    pure [a,b]) [a]
   let x ← eC z i (bH ts) kids
   aX z [[41]]
   pure x:PM Ex) ts
def lG:PM Col:=do
 let a ← cI z
 let k ← eO z [[116,101,120,116],[110,117,109,98,101,114],[100,97,121],[102,108,97,103]] 1
 if ← cG [61] then
  let v ← mX z
  pure ⟨a,k,v⟩
 else pure ⟨a,k,vl0⟩
def kZ:PM Trm:=do
 let a ← cI z
 let m ← eO z [[101,113,117,97,108],[101,100,105,116],[106,97,99,99,97,114,100],[106,97,114,111],[110,101,97,114]] 1
 let tol ← ifP (m == 5) (lK z) 0
 aX z [[108,101,97,115,116]]
 let num ← lK z
 let den ← (do if ← cG [47] then lK z else pure 1:PM Int)
 aX z [[103,105,118,101,115]]
 let g ← lK z
 let tk ← (do if ← cG [116,97,107,101,115] then lK z else pure 0:PM Int)
 aX z [[59]]
 pure ⟨a,m,tol,num,den,g,tk⟩
def kF:PM (aBs×aBs):=do
 let t ← cI z
 aX z [[46]]
 let a ← cI z
 pure (t,a)
def lY:PM Nmd:=do
 let n ← cI z
 aX z [[61]]
 let v ← mX z
 pure ⟨n,v⟩
def zM:PM Vr:=do
 let t ← cI z
 let n ← cI z
 pure ⟨n,t⟩
def wL (x:It):PM It:=do
 aX z [[40]]
 let c ← gX [44] (lG z)
 aX z [[41],[107,101,121]]
 let l ← lW z
 pure { x with cols:=c,names:=l }
def tH (x:It):PM It:=do
 aX z [[116,114,117,115,116]]
 let n ← lK z
 pure { x with n:=n }
def xY (x:It):PM It:=do
 aX z [[111,110]]
 let p ← kF z
 aX z [[98,121]]
 let b ← eO z [[101,120,97,99,116],[116,111,107,101,110],[112,114,101,102,105,120],[115,107,101,116,99,104]] 1
 if b=3 then
  let n ← lK z
  pure { x with table:=p.1,attr:=p.2,by_:=b,n:=n }
 else if b=4 then
  let n ← lK z
  let m ← lK z
  pure { x with table:=p.1,attr:=p.2,by_:=b,n:=n,m:=m }
 else pure { x with table:=p.1,attr:=p.2,by_:=b }
def termsA:Nat→List Trm→PM (List Trm)
 | 0,acc=>pure acc
 | f+1,acc=>fun ts=>(if bD [[125]] ts then pure acc else do
  let a ← kZ z
  termsA f (acc++[a]):PM (List Trm)) ts
def xG (x:It):PM It:=do
 aX z [[111,110]]
 let t ← cI z
 aX z [[97,116]]
 let n ← lK z
 aX z [[123]]
 let l ← (fun ts=>termsA z (ts.length+1) [] ts)
 pure { x with table:=t,n:=n,terms:=l }
def aCd (x:It):PM It:=do
 let p ← kF z
 aX z [[98,121]]
 let b ← eO z [[108,97,116,101,115,116],[109,111,115,116],[116,114,117,115,116,101,100],[108,111,110,103,101,115,116],[108,101,97,115,116],[103,114,101,97,116,101,115,116]] 1
 pure { x with table:=p.1,attr:=p.2,by_:=b }
def iR (x:It):PM It:=do
 aX z [[111,110]]
 let t ← cI z
 aX z [[40]]
 let l ← lW z
 aX z [[41]]
 pure { x with table:=t,names:=l }
def tN (x:It):PM It:=do
 let y ← iR z x
 aX z [[116,111]]
 let a ← cI z
 if ← cG [119,104,101,114,101] then
  let f ← gX [44] (lY z)
  pure { y with attr:=a,fixed:=f }
 else pure { y with attr:=a }
def pT (x:It):PM It:=do
 let p ← kF z
 aX z [[105,110]]
 let q ← kF z
 pure { x with table:=p.1,attr:=p.2,other:=q.1,oattr:=q.2 }
def aCp (x:It):PM It:=do
 let v ← gX [44] (zM z)
 let c ← lF z
 pure { x with vars:=v,conds:=c }
def wV (x:It):PM It:=do
 aX z [[61]]
 let e ← bV z 12
 pure { x with expr:=e }
def eF:List aBs:=[[116,97,98,108,101],[115,111,117,114,99,101],[98,108,111,99,107],[109,97,116,99,104],[107,101,101,112],[117,110,105,113,117,101],[100,101,112,101,110,100],[105,110,99,108,117,100,101],[100,101,110,121],[113,117,101,114,121]]
def jB (k:Int)(x:It):PM It :=
 if k=1 then wL z x else if k=2 then tH z x else if k=3 then xY z x else if k=4 then xG z x else if k=5 then aCd z x
 else if k=6 then iR z x else if k=7 then tN z x else if k=8 then pT z x else if k=9 then aCp z x else wV z x
def hG:PM It:=fun ts=>(do
 let k ← eO z eF 1
 let nm ← ifP (k != 5) (cI z) []
 let x ← jB z k { tZ with kind:=k,name:=nm,off:=bH ts }
 if k=4 then aX z [[125]] else aX z [[59]]
 pure x:PM It) ts
def jT:Nat→List It→List Tok→Except (Int×Nat) (List It)
 | 0,acc,_=>.ok acc
 | f+1,acc,ts=>match ts with
  | []=>.ok acc
  | t::r=>if acc.length=200 then .error (3,t.off) else match hG z (t::r) with
   | .error e=>.error e
   | .ok (x,q)=>jT f (acc++[x]) q
end
def jS (s:aBs):Except (Int×Nat) (List It):=match rF s with
 | .error e=>.error e
 | .ok ts=>jT s.length (ts.length+1) [] ts
theorem StillVC.aDf {α β:Type}{m:PM α}{f:α→PM β}{ts r:List Tok}{a:α}(h:m ts=.ok (a,r)):(m >>= f) ts=f a r:=by
 show(match m ts with|Except.error e=>Except.error e|Except.ok (a,r)=>f a r)=_
 rw[h]
theorem StillVC.aDg {α β:Type}{m:PM α}{f:α→PM β}{ts:List Tok}{e:Int×Nat}(h:m ts=.error e):(m >>= f) ts=.error e:=by
 show(match m ts with|Except.error e=>Except.error e|Except.ok (a,r)=>f a r)=_
 rw[h]
theorem PM.pure_eq {α:Type}(a:α)(ts:List Tok):(pure a:PM α) ts=.ok (a,ts):=rfl
theorem kH {z:Nat}{s:aBs}{ts:List Tok}(h:bD [s] ts=true):namesU z s ts=.ok ([],ts):=if_pos h
theorem jN {z:Nat}{s:aBs}{ts:List Tok}(h:bD [s] ts=false):namesU z s ts=lW z ts:=if_neg (by rw[h];decide)
theorem kN {s:aBs}{ts:List Tok}(h:bD [s] ts=true):cG s ts=.ok (true,ts.tail):=by unfold cG;rw[if_pos h]
theorem jW {s:aBs}{ts:List Tok}(h:bD [s] ts=false):cG s ts=.ok (false,ts):=by unfold cG;rw[h];rfl
def lQ (e:Int×Nat):List PanicEntry:=[{ v:=.iface 68 (.agg ⟨[.int .i64 e.1,.int .i64 e.2]⟩),recovered:=false }]
abbrev PSt (bp z:Nat)(w:Value)(tk:Item):List Item:=[box bp [w,.int .i64 z] 72,tk]
def TokOK (ts:List Tok):Prop:=∀ t∈ts,0≤t.num∧t.num≤10000000000
def cR (tk:Item)(w:Value)(ts:List Tok):Prop:=Reads tk 4 w ts.length (ts.flatMap rL)∧TokOK ts
def PEnd {α:Type}(B:Base)(bp z:Nat)(tk:Item)(n:Nat)(res:Except (Int×Nat) (α×List Tok))(V:α→Value→Prop):Ending→Heap→Prop :=
 Ends (fun v h'=>∃ a r w,res=.ok (a,r)∧V a v∧r.length≤n∧cR tk w r∧Own B (PSt bp z w tk) h')
  (fun c h'=>∃ e w,res=.error e∧c=lQ e∧Own B (PSt bp z w tk) h')
def PSpec {α:Type}(g:FuncId)(args:Nat→aVs)(m:Nat→PM α)(V:α→Value→Prop):Prop :=
 ∀(B:Base) (bp z:Nat) (tk:Item) (w:Value) (ts:List Tok) (h:Heap),Own B (PSt bp z w tk) h→cR tk w ts→ts.length≤5000→Spec Tryz.prog g (args bp) h (PEnd B bp z tk ts.length (m z ts) V)
theorem PSpec.call {α:Type}{g:FuncId}{args:Nat→aVs}{m:Nat→PM α}{V:α→Value→Prop}(sp:PSpec g args m V) {s:aVs}{h:Heap}{K:KK}{Q:QQ}{B:Base}{bp z:Nat}{tk:Item}{w:Value}{ts:List Tok}
  (o:Own B (PSt bp z w tk) h) (hR:cR tk w ts) (hl:ts.length≤5000)
  (hret:∀ a r w' v h',m z ts=.ok (a,r)→V a v→r.length≤ts.length→cR tk w' r→Own B (PSt bp z w' tk) h'→K v false h')
  (hpan:∀ e w' h',m z ts=.error e→Own B (PSt bp z w' tk) h'→Q (.panic (lQ e)) s h'):CallVC Tryz.prog g (args bp) s h K Q :=
 aDW (sp B bp z tk w ts h o hR hl) (fun _ _ ⟨_,_,_,h1,h2,h3,h4,h5⟩=>hret _ _ _ _ _ h1 h2 h3 h4 h5) (fun _ _ ⟨_,_,h1,h2,h3⟩=>by subst h2;exact hpan _ _ _ h1 h3)
theorem lU (e:Int)(bp z:Nat)(w:Value)(ts:List Tok)(h:Heap)(h0:bC h ⟨bp,0,none⟩=some w)(h1:bC h ⟨bp,1,none⟩=some (.int .i64 z))(hA:dS 4 h w ts.length (ts.flatMap rL)) :
  Spec Tryz.prog 27 [.pointer (some ⟨bp,0,none⟩),.int .i64 e] h (Ends (fun _ _=>False) fun c h'=>c=lQ (aBM z e ts)∧Own h [] h'):=by
 refine aDX Tryz.func27 rfl Tryz.ntmps27 (by kernel_rfl) ?_;have o0:=Own.refl h;cases ts with
 | nil =>
  refine rR (nC rfl ?_);refine rR (fA fW rfl rfl rfl ?_);refine rR (load1 eX rfl ‹_› ?_);refine rR (aDE hA fX ?_);refine aDS ?_;refine rR (nC rfl ?_);refine rR (fA fW rfl rfl rfl ?_);refine rR (load1 aY rfl ‹_› ?_);refine rR (aDl st68 ?_);refine aI rfl ?_;refine aI rfl ?_;refine rR (aDM con68 rfl ?_);refine RunVC.panicI rfl ?_
  exact⟨rfl,o0⟩
 | cons t r =>
  have hx:(t::r)[0]?=some t:=rfl;have hln:(t::r).length=r.length+1:=rfl;refine rR (nC rfl ?_);refine rR (fA fW rfl rfl rfl ?_);refine rR (load1 eX rfl ‹_› ?_);refine rR (aDE hA fX ?_);refine aDR (fun hc=>absurd hc (by omega)) (fun c24=>?_);refine rR (nC rfl ?_);refine rR (fA fW rfl rfl rfl ?_);refine rR (load1 eX rfl ‹_› ?_);refine rR (aDo fX bF hA rfl (by omega) (by omega) ?_);refine rR (aDv hA (by omega) eZ rfl rfl rfl ?_);refine rR (aDC hA aY (fun _=>rfl) rfl ‹_› rfl ?_);refine rR (aDl st68 ?_);refine aI rfl ?_;refine aI rfl ?_;refine rR (aDM con68 rfl ?_);refine RunVC.panicI rfl ?_
  exact⟨rfl,o0⟩
theorem yI:∀(ss:List aBs)(ts:List Tok),ts.length<ss.length→bD ss ts=false
 | [],_,h=>absurd h (Nat.not_lt_zero _)
 | _::_,[],_=>rfl
 | s::ss,t::ts,h=>by
  rw[bD,yI ss ts (by simpa using h),Bool.and_false]
theorem seesB_step {ss:List aBs}{ts:List Tok}{i:Nat}{s:aBs}{t:Tok}(hs:ss[i]?=some s)(ht:ts[i]?=some t):bD (ss.drop i) (ts.drop i)=(dH t s&&bD (ss.drop (i+1)) (ts.drop (i+1))):=by
 obtain⟨h1,rfl⟩:=aD5.1 hs
 obtain⟨h2,rfl⟩:=aD5.1 ht
 rw[aEe h1,aEe h2,bD]
theorem bQ (ss:List aBs)(vs:Value)(bp:Nat)(w:Value)(ts:List Tok)(h:Heap)(h0:bC h ⟨bp,0,none⟩=some w)(hA:dS 4 h w ts.length (ts.flatMap rL))(hS:Arr h vs (strs ss))(hl:ts.length≤5000) :
  cK Tryz.prog 111 [.pointer (some ⟨bp,0,none⟩),vs] h fun v h'=>v=.bool (bD ss ts)∧Own h [] h':=by
 refine aDX Tryz.func111 rfl Tryz.ntmps111 (by kernel_rfl) ?_;have o0:=Own.refl h;by_cases hlt:ts.length<ss.length
 ·rw[yI ss ts hlt]
  have hsl:(strs ss).length=ss.length:=by simp[strs]
  refine rR (nC rfl ?_);refine rR (fA fW rfl rfl rfl ?_);refine rR (load1 eX rfl ‹_› ?_);refine rR (aDE hA fX ?_);refine rR (aDF hS ‹_› aJ ?_);refine aDR (fun c15=>?_) (fun hc=>absurd (by omega) hc);refine aDZ rfl ?_
  exact⟨rfl,o0⟩
 have hsl:(strs ss).length=ss.length:=by simp[strs]
 refine rR (nC rfl ?_);refine rR (fA fW rfl rfl rfl ?_);refine rR (load1 eX rfl ‹_› ?_);refine rR (aDE hA fX ?_);refine rR (aDF hS ‹_› aJ ?_);refine aDR (fun hc=>absurd hc (by omega)) (fun c25=>?_);refine rR (aDF hS ‹_› aJ ?_);refine aD1 [4,5,6,7,18,19,20,21,22,23,24,25,26,27,28,29,30,31,32,33,34,35,36,37,38,39,40,41,42,43,44] [18] (fun vs hh=>∃(i:Nat),i≤ss.length∧vs=[.int .i64 i]∧bD (ss.drop i) (ts.drop i)=bD ss ts∧Own h [] hh) (fun vs _=>match vs with|[.int _ i]=>ss.length - i.toNat|_=>0) ?_ ?_
 ·exact⟨0,by omega,rfl,rfl,o0⟩
 ·rintro vs junk hh ⟨i,hi,rfl,hE,oh⟩
  by_cases hlt2:i<ss.length
  ·obtain⟨s,hs⟩:=getx hlt2
   obtain⟨t,ht⟩:=getx (show i<ts.length by omega)
   have hss:(strs ss)[i]?=some (.string ⟨⟨s⟩⟩):=by simp[strs,hs]
   rw[seesB_step hs ht]at hE
   by_cases hw:t.text=s
   ·by_cases hk:t.kind=1∨t.kind=4
    ·have hb:dH t s=true:=decide_eq_true ⟨hw,hk⟩
     rw[hb,Bool.true_and]at hE
     refine aDR (fun c30=>?_) (fun hc=>absurd (by omega) hc);refine rR (idx aJ aO (hS.ext oh.ext) rfl (by omega) (by omega) ?_);refine rR (aDG (hS.ext oh.ext) aO rfl (by first|assumption|rfl) ?_);refine rR (nC rfl ?_);refine rR (fA fW rfl rfl rfl ?_);refine rR (load1 eX rfl (oh.old h0) ?_);refine rR (aDo fX bF (hA.ext oh.ext) rfl (by omega) (by omega) ?_);refine rR (aDr bF (hA.ext oh.ext) (fun _=>rfl) (by decide) rfl ‹_› ?_);(refine aDP oh bF ?_;intro b38 m38 o38);(refine aDh o38 0 rfl bF rfl (by decide) (aI ⟨rfl,rfl⟩ ?_);intro m39 o39);refine rR (fA eZ rfl rfl rfl ?_);refine rR (aDe o39 0 rfl aO rfl rfl ?_);refine aDp (fun hc=>absurd (by first|omega|assumption|decide|exact rfl) hc) (fun c42=>?_);refine rR (fA eZ rfl rfl rfl ?_);refine rR (aDe o39 0 rfl aY rfl rfl ?_);refine aDp (fun c45=>?_) (fun c45=>?_);refine rR (fA eZ rfl rfl rfl ?_);refine rR (aDe o39 0 rfl aY rfl rfl ?_);refine aDp (fun hc=>absurd (by first|omega|assumption|decide|exact rfl) hc) (fun c48=>?_);refine aDY (by omega) (by omega) ?_
     refine⟨rfl,?_⟩
     rotate_left
     refine aDT ?_;refine aDY (by omega) (by omega) ?_
     refine⟨rfl,?_⟩
     all_goals exact⟨⟨i+1,by omega,rfl,hE,Own.sel ‹_› [] rfl⟩,by simp;omega⟩
    ·have hb:dH t s=false:=decide_eq_false (fun e=>hk e.2)
     rw[hb,Bool.false_and]at hE
     rw[← hE]
     refine aDR (fun c50=>?_) (fun hc=>absurd (by omega) hc);refine rR (idx aJ aO (hS.ext oh.ext) rfl (by omega) (by omega) ?_);refine rR (aDG (hS.ext oh.ext) aO rfl (by first|assumption|rfl) ?_);refine rR (nC rfl ?_);refine rR (fA fW rfl rfl rfl ?_);refine rR (load1 eX rfl (oh.old h0) ?_);refine rR (aDo fX bF (hA.ext oh.ext) rfl (by omega) (by omega) ?_);refine rR (aDr bF (hA.ext oh.ext) (fun _=>rfl) (by decide) rfl ‹_› ?_);(refine aDP oh bF ?_;intro b58 m58 o58);(refine aDh o58 0 rfl bF rfl (by decide) (aI ⟨rfl,rfl⟩ ?_);intro m59 o59);refine rR (fA eZ rfl rfl rfl ?_);refine rR (aDe o59 0 rfl aO rfl rfl ?_);refine aDp (fun hc=>absurd (by first|omega|assumption|decide|exact rfl) hc) (fun c62=>?_);refine rR (fA eZ rfl rfl rfl ?_);refine rR (aDe o59 0 rfl aY rfl rfl ?_);refine aDp (fun c65=>?_) (fun hc=>absurd hc (by first|omega|assumption|decide|exact rfl));refine rR (fA eZ rfl rfl rfl ?_);refine rR (aDe o59 0 rfl aY rfl rfl ?_);refine aDp (fun c68=>?_) (fun hc=>absurd hc (by first|omega|assumption|decide|exact rfl));refine aDZ rfl ?_
     exact⟨rfl,Own.sel ‹_› [] rfl⟩
   ·have hb:dH t s=false:=decide_eq_false (fun e=>hw e.1)
    rw[hb,Bool.false_and]at hE
    rw[← hE]
    refine aDR (fun c70=>?_) (fun hc=>absurd (by omega) hc);refine rR (idx aJ aO (hS.ext oh.ext) rfl (by omega) (by omega) ?_);refine rR (aDG (hS.ext oh.ext) aO rfl (by first|assumption|rfl) ?_);refine rR (nC rfl ?_);refine rR (fA fW rfl rfl rfl ?_);refine rR (load1 eX rfl (oh.old h0) ?_);refine rR (aDo fX bF (hA.ext oh.ext) rfl (by omega) (by omega) ?_);refine rR (aDr bF (hA.ext oh.ext) (fun _=>rfl) (by decide) rfl ‹_› ?_);(refine aDP oh bF ?_;intro b78 m78 o78);(refine aDh o78 0 rfl bF rfl (by decide) (aI ⟨rfl,rfl⟩ ?_);intro m79 o79);refine rR (fA eZ rfl rfl rfl ?_);refine rR (aDe o79 0 rfl aO rfl rfl ?_);refine aDp (fun c82=>?_) (fun hc=>absurd hc (by first|omega|assumption|decide|exact rfl));refine aDS ?_;refine aDZ rfl ?_
    exact⟨rfl,Own.sel ‹_› [] rfl⟩
  ·have hb:ss.drop i=[]:=aEp (by omega)
   rw[hb]at hE
   rw[← hE]
   refine aDR (fun hc=>absurd hc (by omega)) (fun c90=>?_);refine aDZ rfl ?_
   exact⟨rfl,oh⟩
theorem cR.tail {tk:Item}{v:Value}{t:Tok}{r:List Tok}(a:Reads tk 4 v ((t::r).length - 1) (((t::r).flatMap rL).drop 4))(k:TokOK (t::r)):cR tk v r:=⟨a,fun x hx=>k x (aEy _ hx)⟩
def tB (B:Base)(v:Value)(ss:List aBs):Prop:=∀ L h,Own B L h→Arr h v (strs ss)
theorem cN (s:aBs):PSpec 104 (fun bp=>[.pointer (some ⟨bp,0,none⟩),.string ⟨⟨s⟩⟩]) (fun _=>cG s) (fun b v=>v=.bool b):=by
 intro B bp z tk w ts h o hR hl
 obtain⟨hR,hK⟩:=hR
 refine aDX Tryz.func104 rfl Tryz.ntmps104 (by kernel_rfl) ?_;(refine aDO o aJ aO rfl rfl (by decide) (aI rfl ?_);intro b10 m10 o10);refine aDV (bQ [s] _ bp w ts _ (Own.cellB ‹_› 0 rfl 0) (Own.reads ‹_› 1 hR rfl) (Own.boxArr ‹_› 2 rfl rfl (by decide)) hl) ?_;rintro _ h1 ⟨rfl,oc⟩;have o1:=oc.thenE ‹_›;clear oc;cases hb:bD [s] ts with
 | false =>
  refine aDS ?_;refine aDZ rfl ?_
  exact⟨false,ts,w,jW hb,rfl,aEf _,⟨hR,hK⟩,Own.sel ‹_› [0,1] rfl⟩
 | true =>
  have ht:=kN hb;cases ts with
  | nil=>cases hb
  | cons t r =>
   have hln:(t::r).length=r.length+1:=rfl;refine aDT ?_;refine rR (nC rfl ?_);refine rR (fA fW rfl rfl rfl ?_);refine rR (aDe o1 0 rfl eX rfl rfl ?_);(refine rR (sliceTok fX bF hR (o1.satK 1 rfl) rfl (by omega) (by omega) ?_);intro v33 a33);refine rR (nC rfl ?_);refine rR (fA fW rfl rfl rfl ?_)
   obtain⟨va,vc,rfl⟩:=Reads.isS ‹_› (Own.satK o1 1 rfl)
   (refine aDN o1 0 rfl eX rfl (by simp) (aI ⟨rfl,rfl⟩ ?_);intro m40 o40);refine aDZ rfl ?_
   exact⟨true,r,_,ht,rfl,by omega,cR.tail ‹_› hK,Own.sel ‹_› [0,1] rfl⟩
theorem uI (k:Int):PSpec 105 (fun bp=>[.pointer (some ⟨bp,0,none⟩),.int .i64 k]) (fun z=>fI z k) (fun t v=>v=.agg ⟨rL t⟩∧0≤t.num∧t.num≤10000000000):=by
 intro B bp z tk w ts h o hR hl
 obtain⟨hR,hK⟩:=hR
 refine aDX Tryz.func105 rfl Tryz.ntmps105 (by kernel_rfl) ?_;cases ts with
 | nil =>
  (refine aDP o bF ?_;intro b10 m10 o10);refine rR (nC rfl ?_);refine rR (fA fW rfl rfl rfl ?_);refine rR (aDe o10 0 rfl eX rfl rfl ?_);refine rR (aDE (o10.reads 1 hR rfl) fX ?_);refine aDS ?_;refine aDS ?_;refine aDW (lU 4 bp z w [] _ (Own.cellB ‹_› 0 rfl 0) (Own.cellB ‹_› 0 rfl 1) (Own.reads ‹_› 1 hR rfl)) (fun _ _ h=>h.elim) (fun c h4 ⟨hc,ho⟩=>?_)
  exact⟨(7,z),w,rfl,hc,(ho.thenE ‹_›).sel [0,1] rfl⟩
 | cons t r =>
  have hx:(t::r)[0]?=some t:=rfl;have hln:(t::r).length=r.length+1:=rfl;by_cases hk:t.kind=k
  ·have hm:fI z k (t::r)=.ok (t,r):=if_pos hk
   (refine aDP o bF ?_;intro b30 m30 o30);refine rR (nC rfl ?_);refine rR (fA fW rfl rfl rfl ?_);refine rR (aDe o30 0 rfl eX rfl rfl ?_);refine rR (aDE (o30.reads 1 hR rfl) fX ?_);refine aDR (fun hc=>absurd hc (by omega)) (fun c35=>?_);refine rR (nC rfl ?_);refine rR (fA fW rfl rfl rfl ?_);refine rR (aDe o30 0 rfl eX rfl rfl ?_);refine rR (aDo fX bF (o30.reads 1 hR rfl) rfl (by omega) (by omega) ?_);refine rR (aDv (o30.reads 1 hR rfl) (by omega) eZ rfl rfl rfl ?_);refine rR (aDC (o30.reads 1 hR rfl) aY (fun _=>rfl) rfl ‹_› rfl ?_);refine aDp (fun hc=>absurd (by first|omega|assumption|decide|exact rfl) hc) (fun c42=>?_);refine rR (nC rfl ?_);refine rR (fA fW rfl rfl rfl ?_);refine rR (aDe o30 0 rfl eX rfl rfl ?_);refine rR (aDo fX bF (o30.reads 1 hR rfl) rfl (by omega) (by omega) ?_);refine rR (aDr bF (o30.reads 1 hR rfl) (fun _=>rfl) (by decide) rfl ‹_› ?_);(refine aDP o30 bF ?_;intro b48 m48 o48);(refine aDh o48 3 rfl bF rfl (by decide) (aI ⟨rfl,rfl⟩ ?_);intro m49 o49);refine rR (nC rfl ?_);refine rR (fA fW rfl rfl rfl ?_);refine rR (aDe o49 0 rfl eX rfl rfl ?_);(refine rR (sliceTok fX bF hR (o49.satK 1 rfl) rfl (by omega) (by omega) ?_);intro v53 a53);refine rR (nC rfl ?_);refine rR (fA fW rfl rfl rfl ?_)
   obtain⟨va,vc,rfl⟩:=Reads.isS ‹_› (Own.satK o 1 rfl)
   (refine aDN o49 0 rfl eX rfl (by simp) (aI ⟨rfl,rfl⟩ ?_);intro m60 o60);refine rR (aDi o60 3 rfl bF rfl rfl rfl ?_);(refine aDh o60 2 rfl bF rfl (by decide) (aI ⟨rfl,rfl⟩ ?_);intro m62 o62)
   first|refine aDt rfl o62 2 rfl bF rfl rfl ?_|refine aDs rfl o62 2 rfl bF rfl rfl ?_|refine RetVC.cellTT rfl o62 2 rfl bF rfl rfl ?_
   exact⟨t,r,_,hm,⟨rfl,hK t (by simp)⟩,by omega,cR.tail ‹_› hK,Own.sel ‹_› [0,1] rfl⟩
  ·have hm:fI z k (t::r)=.error (4,t.off):=if_neg hk
   (refine aDP o bF ?_;intro b70 m70 o70);refine rR (nC rfl ?_);refine rR (fA fW rfl rfl rfl ?_);refine rR (aDe o70 0 rfl eX rfl rfl ?_);refine rR (aDE (o70.reads 1 hR rfl) fX ?_);refine aDR (fun hc=>absurd hc (by omega)) (fun c75=>?_);refine rR (nC rfl ?_);refine rR (fA fW rfl rfl rfl ?_);refine rR (aDe o70 0 rfl eX rfl rfl ?_);refine rR (aDo fX bF (o70.reads 1 hR rfl) rfl (by omega) (by omega) ?_);refine rR (aDv (o70.reads 1 hR rfl) (by omega) eZ rfl rfl rfl ?_);refine rR (aDC (o70.reads 1 hR rfl) aY (fun _=>rfl) rfl ‹_› rfl ?_);refine aDp (fun c82=>?_) (fun hc=>absurd hc (by first|omega|assumption|decide|exact rfl));refine aDW (lU 4 bp z w (t::r) _ (Own.cellB ‹_› 0 rfl 0) (Own.cellB ‹_› 0 rfl 1) (Own.reads ‹_› 1 hR rfl)) (fun _ _ h=>h.elim) (fun c h4 ⟨hc,ho⟩=>?_)
   exact⟨(4,t.off),w,hm,hc,(ho.thenE ‹_›).sel [0,1] rfl⟩
theorem needP_step {z:Nat}{ss:List aBs}{i:Nat}{s:aBs}(hs:ss[i]?=some s):aX z (ss.drop i)=(need1 z s >>= fun _=>aX z (ss.drop (i+1))):=by
 obtain⟨h1,rfl⟩:=aD5.1 hs
 rw[aEe h1]
 rfl
theorem pP (z:Nat) {s:aBs}{ts r:List Tok}(h:cG s ts=.ok (true,r)):need1 z s ts=.ok ((),r):=aDf h
theorem need1_no (z:Nat) {s:aBs}{ts r:List Tok}(h:cG s ts=.ok (false,r)):need1 z s ts=.error (aBM z 4 r):=aDf h
theorem cY (s:aBs)(ts:List Tok)(e:Int×Nat):cG s ts≠.error e:=by
 unfold cG;split<;>simp
theorem iA {s:aBs}{ts r:List Tok}(h:cG s ts=.ok (false,r)):ts=r:=by
 unfold cG at h;split at h
 ·cases h
 ·injection h with h;injection h
theorem pneed_spec (ss:List aBs)(vs:Value)(B:Base)(bp z:Nat)(tk:Item)(w:Value)(ts:List Tok)(h:Heap)(hS:tB B vs ss)(o:Own B (PSt bp z w tk) h)(hR:cR tk w ts)(hl:ts.length≤5000)(hsl:ss.length≤100) :
  Spec Tryz.prog 67 [.pointer (some ⟨bp,0,none⟩),vs] h (PEnd B bp z tk ts.length (aX z ss ts) (fun _ v=>v=.tuple ⟨[]⟩)):=by
 refine aDX Tryz.func67 rfl Tryz.ntmps67 (by kernel_rfl) ?_;have hA:=hS _ _ o;have hln:(strs ss).length=ss.length:=by simp[strs]
 refine rR (aDF hA ‹_› aJ ?_);refine aD1 [5,8,9,10,11,12,13,14,15,16,17,18] [8] (fun vs hh=>∃(i:Nat) (w':Value) (ts':List Tok),i≤ss.length∧vs=[.int .i64 i]∧ts'.length≤ts.length∧aX z (ss.drop i) ts'=aX z ss ts∧cR tk w' ts'∧Own B (PSt bp z w' tk) hh) (fun vs _=>match vs with|[.int _ i]=>ss.length - i.toNat|_=>0) ?_ ?_
 ·exact⟨0,w,ts,by omega,rfl,aEf _,rfl,hR,o⟩
 ·rintro vs junk hh ⟨i,w',ts',hi,rfl,hle,hE,hR',oh⟩
  have hA:=hS _ _ oh;by_cases hlt:i<ss.length
  ·obtain⟨s,hs⟩:=getx hlt
   have hss:(strs ss)[i]?=some (.string ⟨⟨s⟩⟩):=by simp[strs,hs]
   rw[needP_step hs]at hE
   refine aDR (fun c20=>?_) (fun hc=>absurd (by omega) hc);refine rR (idx aJ aO hA rfl (by omega) (by omega) ?_);refine rR (aDG hA aO rfl (by first|assumption|rfl) ?_)
   refine(cN s).call oh hR' (by omega) (fun a r w2 v h2 hm hv hle2 hR2 o2=>?_) (fun e w2 h2 hm o2=>?_)
   ·subst hv
    cases a with
    | true =>
     rw[aDf (pP z hm)]at hE
     refine aDT ?_;refine aDY (by omega) (by omega) ?_
     refine⟨rfl,?_⟩
     exact⟨⟨i+1,w2,r,by omega,rfl,by omega,hE,hR2,o2⟩,by simp;omega⟩
    | false =>
     obtain rfl:=iA hm
     rw[aDg (need1_no z hm)]at hE
     refine aDS ?_;refine aDW (lU 4 bp z w2 ts' _ (Own.cellB ‹_› 0 rfl 0) (Own.cellB ‹_› 0 rfl 1) (Own.reads ‹_› 1 hR2.1 rfl)) (fun _ _ h=>h.elim) (fun c h4 ⟨hc,ho⟩=>?_)
     exact⟨_,w2,hE.symm,hc,(ho.thenE o2).sel [0,1] rfl⟩
   ·exact absurd hm (cY s ts' e)
  ·have hd:ss.drop i=[]:=aEp (by omega)
   rw[hd]at hE
   refine aDR (fun hc=>absurd hc (by omega)) (fun c60=>?_);refine aD0 rfl ?_
   exact⟨(),ts',w',hE.symm,rfl,hle,hR',oh⟩
theorem cO:PSpec 56 (fun bp=>[.pointer (some ⟨bp,0,none⟩)]) (fun z=>cI z) (fun t v=>v=.string ⟨⟨t⟩⟩):=by
 intro B bp z tk w ts h o hR hl;refine aDX Tryz.func56 rfl Tryz.ntmps56 (by kernel_rfl) ?_
 refine(uI 1).call o hR hl (fun a r w' v h' hm hv hle hR' o'=>?_) (fun e w' h' hm o'=>?_)
 ·obtain⟨rfl,hv⟩:=hv
  refine rR (fieldV eZ rfl rfl rfl rfl ?_);refine aDZ rfl ?_
  exact⟨_,r,w',aDf hm,rfl,hle,hR',Own.sel ‹_› [0,1] rfl⟩
 ·exact⟨e,w',aDg hm,rfl,o'⟩
theorem bY:PSpec 109 (fun bp=>[.pointer (some ⟨bp,0,none⟩)]) (fun z=>lK z) (fun n v=>v=.int .i64 n∧0≤n∧n≤10000000000):=by
 intro B bp z tk w ts h o hR hl;refine aDX Tryz.func109 rfl Tryz.ntmps109 (by kernel_rfl) ?_
 refine(uI 2).call o hR hl (fun a r w' v h' hm hv hle hR' o'=>?_) (fun e w' h' hm o'=>?_)
 ·obtain⟨rfl,hv⟩:=hv
  refine rR (fieldV eZ rfl rfl rfl rfl ?_);refine aDZ rfl ?_
  exact⟨_,r,w',aDf hm,⟨rfl,hv⟩,hle,hR',Own.sel ‹_› [0,1] rfl⟩
 ·exact⟨e,w',aDg hm,rfl,o'⟩
theorem wordP_step {z:Nat}{ss:List aBs}{i:Nat}{s:aBs}{k:Int}(hs:ss[i]?=some s):eO z (ss.drop i) k=(cG s >>= fun b=>if b=true then pure k else eO z (ss.drop (i+1)) (k+1)):=by
 obtain⟨h1,rfl⟩:=aD5.1 hs
 rw[aEe h1]
 rfl
theorem word1_spec (s:aBs)(pb:Nat)(B:Base)(bp z:Nat)(tk:Item)(w:Value)(ts:List Tok)(h:Heap)(o:Own B [box bp [w,.int .i64 z] 72,tk,box pb [.pointer (some ⟨bp,0,none⟩)] 70] h)(hR:cR tk w ts)(hl:ts.length≤5000) :
  cK Tryz.prog 103 [.string ⟨⟨s⟩⟩,.pointer (some ⟨pb,0,none⟩)] h fun v h'=>∃ b r w',cG s ts=.ok (b,r)∧v=.bool b∧r.length≤ts.length∧cR tk w' r∧Own B [box bp [w',.int .i64 z] 72,tk,box pb [.pointer (some ⟨bp,0,none⟩)] 70] h':=by
 refine aDX Tryz.func103 rfl Tryz.ntmps103 (by kernel_rfl) ?_;refine rR (aDe o 2 rfl lS rfl rfl ?_)
 refine(cN s).call (o.lend [0,1] [2] rfl) hR hl (fun a r w2 v h2 hm hv hle hR2 o2=>?_) (fun e w2 h2 hm o2=>?_)
 ·subst hv
  have o3:=o2.back;refine aDZ rfl ?_
  exact⟨a,r,w2,hm,rfl,hle,hR2,o3.sel [0,1,2] rfl⟩
 ·exact absurd hm (cY s ts e)
theorem indexW_spec (ss:List aBs)(vs:Value)(pb:Nat)(B:Base)(bp z:Nat)(tk:Item)(w:Value)(ts:List Tok)(h:Heap)(hS:tB B vs ss)(o:Own B [box bp [w,.int .i64 z] 72,tk,box pb [.pointer (some ⟨bp,0,none⟩)] 70] h)(hR:cR tk w ts)(hl:ts.length≤5000)(hsl:ss.length≤100) :
  cK Tryz.prog 102 [vs,.func (.func 103) ⟨[]⟩ ⟨[.pointer (some ⟨pb,0,none⟩)]⟩] h fun v h'=>∃(j:Int) (r:List Tok) (w':Value),v=.int .i64 j∧r.length≤ts.length∧cR tk w' r ∧
   ((0≤j∧j≤100∧eO z ss 1 ts=.ok (j+1,r))∨(j=-1∧eO z ss 1 ts=.error (aBM z 4 r)))∧Own B [box bp [w',.int .i64 z] 72,tk,box pb [.pointer (some ⟨bp,0,none⟩)] 70] h':=by
 refine aDX Tryz.func102 rfl Tryz.ntmps102 (by kernel_rfl) ?_;have hA:=hS _ _ o;have hln:(strs ss).length=ss.length:=by simp[strs]
 refine rR (aDF hA ‹_› aJ ?_);refine aD1 [4,5,8,9,10,11,12,13,14,15,16,17,18] [8] (fun vs hh=>∃(i:Nat) (w':Value),i≤ss.length∧vs=[.int .i64 i]∧eO z (ss.drop i) (i+1) ts=eO z ss 1 ts∧cR tk w' ts∧Own B [box bp [w',.int .i64 z] 72,tk,box pb [.pointer (some ⟨bp,0,none⟩)] 70] hh) (fun vs _=>match vs with|[.int _ i]=>ss.length - i.toNat|_=>0) ?_ ?_
 ·exact⟨0,w,by omega,rfl,rfl,hR,o⟩
 ·rintro vs' junk hh ⟨i,w',hi,rfl,hE,hR',oh⟩
  have hA:=hS _ _ oh;by_cases hlt:i<ss.length
  ·obtain⟨s,hs⟩:=getx hlt
   have hss:(strs ss)[i]?=some (.string ⟨⟨s⟩⟩):=by simp[strs,hs]
   rw[wordP_step hs]at hE
   refine aDR (fun c20=>?_) (fun hc=>absurd (by omega) hc);refine aD2 ?_;refine rR (idx aJ aO hA rfl (by omega) (by omega) ?_);refine rR (aDG hA aO rfl (by first|assumption|rfl) ?_);refine aDV (word1_spec s pb B bp z tk w' ts _ oh hR' hl) ?_;rintro _ h2 ⟨b,r,w2,hm,rfl,hle,hR2,o2⟩
   rw[aDf hm]at hE
   cases b with
   | true =>
    refine aDS ?_;refine aDZ rfl ?_
    exact⟨i,r,w2,rfl,hle,hR2,.inl ⟨by omega,by omega,hE.symm⟩,o2⟩
   | false =>
    obtain rfl:=iA hm;refine aDT ?_;refine aDY (by omega) (by omega) ?_
    refine⟨rfl,?_⟩
    exact⟨⟨i+1,w2,by omega,rfl,hE,hR2,o2⟩,by simp;omega⟩
  ·have hd:ss.drop i=[]:=aEp (by omega)
   rw[hd]at hE
   refine aDR (fun hc=>absurd hc (by omega)) (fun c60=>?_);refine aDZ rfl ?_
   exact⟨-1,ts,w',rfl,aEf _,hR',.inr ⟨rfl,hE.symm⟩,oh⟩
theorem aAz (ss:List aBs)(vs:Value)(B:Base)(bp z:Nat)(tk:Item)(w:Value)(ts:List Tok)(h:Heap)(hS:tB B vs ss)(o:Own B (PSt bp z w tk) h)(hR:cR tk w ts)(hl:ts.length≤5000)(hsl:ss.length≤100) :
  Spec Tryz.prog 55 [.pointer (some ⟨bp,0,none⟩),vs] h (PEnd B bp z tk ts.length (eO z ss 1 ts) (fun i v=>v=.int .i64 i)):=by
 refine aDX Tryz.func55 rfl Tryz.ntmps55 (by kernel_rfl) ?_;(refine aDz o rfl ?_;intro b10 m10 o10);refine rR (aDy ?_);refine aDV (indexW_spec ss vs b10 B bp z tk w ts _ hS ‹_› hR hl hsl) ?_;rintro _ h2 ⟨j,r,w2,rfl,hle,hR2,hj,o2⟩
 rcases hj with ⟨hj0,hj1,hm⟩|⟨rfl,hm⟩
 ·refine aDR (fun hc=>absurd hc (by omega)) (fun c20=>?_)
  refine aDY (by omega) (by omega) ?_;refine aDZ rfl ?_
  exact⟨j+1,r,w2,hm,rfl,hle,hR2,o2.sel [0,1] rfl⟩
 ·refine aDS ?_
  refine rR (aDe o2 2 rfl lS rfl rfl ?_);refine aDW (lU 4 bp z w2 r _ (Own.cellB ‹_› 0 rfl 0) (Own.cellB ‹_› 0 rfl 1) (Own.reads ‹_› 1 hR2.1 rfl)) (fun _ _ h=>h.elim) (fun c h4 ⟨hc,ho⟩=>?_)
  exact⟨_,w2,hm,hc,(ho.thenE o2).sel [0,1] rfl⟩
end Go.Proofs.YtohlogbnpfofpaaGreatDoor
