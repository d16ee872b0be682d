/- Part 9 of the proof of gaps,items: FnXf, FnXk, FnXn, FnXo0, FnXg0, FnXgT, FnXgD, FnXg2, FnXg3, FnXg7. -/
import Derived.Test.YtohlogbnpfofpaaGreatDoorPA08
set_option linter.all false
set_option maxHeartbeats 100000000
set_option maxRecDepth 100000
namespace Go.Proofs.YtohlogbnpfofpaaGreatDoor
open Go StillVC
def clr1 (x:It):It:={ x with cols:=[],names:=[] }
def clr2 (x:It):It:={ x with n:=0 }
def zF (x:It):It:={ x with table:=[],attr:=[],by_:=0,n:=if 3≤x.by_ then 0 else x.n,m:=if x.by_=4 then 0 else x.m }
def clr4 (x:It):It:={ x with table:=[],n:=0,terms:=[] }
def clr5 (x:It):It:={ x with table:=[],attr:=[],by_:=0 }
def clr6 (x:It):It:={ x with table:=[],names:=[] }
def clr7 (x:It):It:={ x with table:=[],names:=[],attr:=[],fixed:=[] }
def clr8 (x:It):It:={ x with table:=[],attr:=[],other:=[],oattr:=[] }
def clr9 (x:It):It:={ x with vars:=[],conds:=[] }
def clr10 (x:It):It:={ x with expr:=ex0 }
def dQ (x:It):It :=
 if x.kind=1 then clr1 x else if x.kind=2 then clr2 x else if x.kind=3 then zF x else if x.kind=4 then clr4 x else if x.kind=5 then clr5 x
 else if x.kind=6 then clr6 x else if x.kind=7 then clr7 x else if x.kind=8 then clr8 x else if x.kind=9 then clr9 x else clr10 x
def uW (x:It):Bool:=match x.expr with
 | .mk k tb ks cs ns a as_ g _=>decide ((x.cols=[]∧x.names=[]∧x.terms=[]∧x.fixed=[]∧x.vars=[]∧x.conds=[]∧ks=[]∧cs=[]∧ns=[]) ∧
   (x.name=[]∧x.table=[]∧x.attr=[]∧x.other=[]∧x.oattr=[]∧tb=[]∧a=[]∧as_=[])∧x.by_=0∧x.n=0∧x.m=0∧k=0∧g=0)
def dC (x:It):It:=if x.kind=5 then x else { x with name:=[] }
def part1 (x:It):Option (List Pc):=aF [some [aP [] [40]],dW mO [] x.cols,some [aP [] [41],aG [32] [107,101,121]],dW bG [32] x.names]
def part2 (x:It):Option (List Pc):=aF [some [aG [32] [116,114,117,115,116]],iJ [32] x.n]
def part3 (x:It):Option (List Pc):=aF [some [aG [32] [111,110]],eG x.table x.attr,some [aG [32] [98,121]],fX x.by_ [[101,120,97,99,116],[116,111,107,101,110],[112,114,101,102,105,120],[115,107,101,116,99,104]],(if 3≤x.by_ then iJ [32] x.n else some []),(if x.by_=4 then iJ [32] x.m else some [])]
def part4 (x:It):Option (List Pc):=aF ([some [aG [32] [111,110]],bG [32] x.table,some [aG [32] [97,116]],iJ [32] x.n,some [aP [32] [123]]]++x.terms.map bC)
def part5 (x:It):Option (List Pc):=aF [eG x.table x.attr,some [aG [32] [98,121]],fX x.by_ [[108,97,116,101,115,116],[109,111,115,116],[116,114,117,115,116,101,100],[108,111,110,103,101,115,116],[108,101,97,115,116],[103,114,101,97,116,101,115,116]]]
def part6 (x:It):Option (List Pc):=aF [some [aG [32] [111,110]],bG [32] x.table,some [aP [] [40]],dW bG [] x.names,some [aP [] [41]]]
def part7 (x:It):Option (List Pc):=aF [some [aG [32] [111,110]],bG [32] x.table,some [aP [] [40]],dW bG [] x.names,some [aP [] [41],aG [32] [116,111]],bG [32] x.attr,uU x.fixed]
def part8 (x:It):Option (List Pc):=aF [eG x.table x.attr,some [aG [32] [105,110]],eG x.other x.oattr]
def part9 (x:It):Option (List Pc):=aF [dW (fun _=>sQ) [] x.vars,mN x.conds]
def aBd (x:It):Option (List Pc):=aF [some [aP [32] [61]],gJ [32] x.expr]
theorem iT (x:It):dS x=if x.kind=1 then part1 x else if x.kind=2 then part2 x else if x.kind=3 then part3 x else if x.kind=4 then part4 x else if x.kind=5 then part5 x else if x.kind=6 then part6 x else if x.kind=7 then part7 x else if x.kind=8 then part8 x else if x.kind=9 then part9 x else aBd x:=rfl
theorem zX {α:Type}{l:List α}:l.length=0↔l=[]:=List.length_eq_zero_iff
theorem empty_bare {x:It}(h1:1≤x.kind)(h10:x.kind≤10):uW (dQ (dC x))=(fI x&&(decide (x.kind=10)||jP x.expr)):=by
 obtain⟨k,nm,off,tb,at_,cols,nms,by_,n,m,tms,oth,oat,fx,vr,cd,⟨ek,etb,eks,ecs,ens,ea,eas,eg,eo⟩⟩:=x
 simp only at h1 h10
 rw[Bool.eq_iff_iff]
 have:k=1∨k=2∨k=3∨k=4∨k=5∨k=6∨k=7∨k=8∨k=9∨k=10:=by omega
 rcases this with rfl|rfl|rfl|rfl|rfl|rfl|rfl|rfl|rfl|rfl <;>
  simp only[dC,dQ,clr1,clr2,zF,clr4,clr5,clr6,clr7,clr8,clr9,clr10,uW,fI,jP,ex0,zX,decide_eq_true_eq,Bool.and_eq_true,Bool.or_eq_true]<;>simp<;>exact⟨fun h=>by simp_all,fun h=>by simp_all⟩
def IEnds (B:Base)(b bx:Nat)(bs:List UInt8)(k:Int)(c:Nat)(cs:List Value)(o:Option (List Pc)):Ending→Heap→Prop :=
 Ends (fun r h'=>∃ ps p' v',o=some ps∧r=.tuple #[]∧cN b p'∧(bE ps).length≤c∧ps.length≤c∧Own B [box b [p',v',.int .i64 (k+ps.length)] 58,row v' 5 1 (bs++bE ps).length (bytes (bs++bE ps)),box bx cs 44] h')
  fun q h'=>o=none∧q=uZ∧Own B [] h'
section
variable {g : FuncId} {args s : List Value} {B : Base} {L : List Item} {b bx i : Nat} {p v : Value} {k : Int} {bs : List UInt8} {h : Heap} {K : KK} {Q : QQ} {cs : List Value}
theorem IEnds.done {c:Nat}{opt:Option (List Pc)}{ps:List Pc}{bs':List UInt8}{k':Int}(hq:opt=some ps)(o:Own B [box b [p,v,.int .i64 k'] 58,row v 5 1 bs'.length (bytes bs'),box bx cs 44] h)(hp:cN b p)(hb:bs'=bs++bE ps)(hk:k'=k+ps.length)
  (hc:bs'.length≤bs.length+c) (hc2:k'≤k+c):IEnds B b bx bs k c cs opt (.returned (.tuple #[])) h:=by
 subst hb;subst hk
 rw[List.length_append]at hc
 exact⟨ps,p,v,hq,rfl,hp,by omega,by omega,o⟩
end
theorem jG {n:Int}{ws:List (List UInt8)}(h:1≤n∧n≤ws.length):fX n ws=some [aG [32] (ws.getD (n - 1).toNat [])]:=if_pos h
theorem kO {n:Int}{ws:List (List UInt8)}(h:¬ (1≤n∧n≤ws.length)):fX n ws=none:=if_neg h
theorem jW {ws:List (List UInt8)}{M:Nat}(h:∀ s∈ws,s.length≤M)(i:Nat):(ws.getD i []).length≤M:=by
 rw[List.getD_eq_getElem?_getD]
 cases hi:ws[i]? with
 | none=>simp
 | some s=>exact h s (List.mem_of_getElem? hi)
theorem emptyB_eq (x:It)(k:Int)(tb:List UInt8)(ks:List Ex)(cs:List Cnd)(ns:List (List UInt8))(a s:List UInt8)(g:Int)(o:Nat)(he:x.expr=.mk k tb ks cs ns a s g o) :
  uW x=decide ((x.cols.length:Int)+x.names.length+x.terms.length+x.fixed.length+x.vars.length+x.conds.length+ks.length+cs.length+ns.length=0∧x.name++x.table++x.attr++x.other++x.oattr++tb++a++s=[]∧x.by_=0∧x.n=0∧x.m=0∧k=0∧g=0):=by
 unfold uW
 rw[he]
 apply decide_eq_decide.2
 constructor
 ·rintro⟨⟨h1,h2,h3,h4,h5,h6,h7,h8,h9⟩,⟨t1,t2,t3,t4,t5,t6,t7,t8⟩,r⟩
  rw[h1,h2,h3,h4,h5,h6,h7,h8,h9,t1,t2,t3,t4,t5,t6,t7,t8]
  exact⟨by simp,rfl,r⟩
 ·rintro⟨h,t,r⟩
  simp only[List.append_eq_nil_iff]at t
  obtain⟨⟨⟨⟨⟨⟨⟨t1,t2⟩,t3⟩,t4⟩,t5⟩,t6⟩,t7⟩,t8⟩:=t
  exact⟨⟨zX.1 (by omega),zX.1 (by omega),zX.1 (by omega),zX.1 (by omega),zX.1 (by omega),zX.1 (by omega),zX.1 (by omega),zX.1 (by omega),zX.1 (by omega)⟩,⟨t1,t2,t3,t4,t5,t6,t7,t8⟩,r⟩
theorem tB (x:It)(c:List Value)(h:Heap)(hOK:jX x)(hc:itH h c x):cK Tryz.prog 35 [.agg ⟨c⟩] h fun r h'=>r=.bool (uW x)∧Own h [] h':=by
 obtain⟨z,vc,vn,vt,vf,vv,vd,e0,e1,e2,e3,e4,e5,e6,e7,e8,rfl,q1,q2,q3,q4,q5,q6,rx⟩:=hc
 obtain⟨bkind,bname,btable,battr,bcols,bnames,bby,bn,bm,bterms,both,boat,bfixed,bvars,bconds,bexpr,lcols,lnames,lterms,lfixed,lvars,lconds⟩:=hOK
 obtain⟨kind,name,off,table,attr,cols,names,by_,n,m,terms,other,oattr,fixed,vars,conds,⟨k,tb,ks,cs,ns,a,s,g,o⟩⟩:=x
 have hem:=emptyB_eq ⟨kind,name,off,table,attr,cols,names,by_,n,m,terms,other,oattr,fixed,vars,conds,⟨k,tb,ks,cs,ns,a,s,g,o⟩⟩ k tb ks cs ns a s g o rfl
 rw[hem]
 clear hem
 rw[gR]at bexpr
 rw[lM]at rx
 dsimp only at *
 obtain⟨bk,btb,bks,bcs,bns,ba,bs_,bg,lk,lc,ln⟩:=bexpr
 obtain⟨wk,wc,wn,wz,hcv,g1,g2,gx,g3,_⟩:=rx
 obtain⟨h1,h2,rfl⟩:=g1.isS
 obtain⟨h3,h4,rfl⟩:=g2.isS
 obtain⟨h5,h6,rfl⟩:=g3.isS
 unfold qS at hcv
 simp only[List.cons.injEq,and_true]at hcv
 obtain⟨rfl,rfl,rfl,rfl,rfl,rfl,rfl,rfl,rfl⟩:=hcv
 obtain⟨y1,z1,rfl⟩:=q1.isS
 obtain⟨y2,z2,rfl⟩:=q2.isS
 obtain⟨y3,z3,rfl⟩:=q3.isS
 obtain⟨y4,z4,rfl⟩:=q4.isS
 obtain⟨y5,z5,rfl⟩:=q5.isS
 obtain⟨y6,z6,rfl⟩:=q6.isS
 clear q1 q2 q3 q4 q5 q6 g1 g2 g3;unfold fF;dsimp only;refine Spec.enter Tryz.func35 rfl Tryz.ntmps35 (by kernel_rfl) ?_;have o0:=Own.refl h;(refine RunVC.aBS o0 rfl ?_;intro b10 m10 o10);refine run (fA aY rfl rfl rfl ?_);refine run (aBx o10 0 rfl ty34 rfl rfl ?_);refine run (aBH rfl xK ?_);refine run (fA aY rfl rfl rfl ?_);refine run (aBx o10 0 rfl eZ rfl rfl ?_);refine run (aBH rfl aH ?_);refine Ar.i64 (by omega) (by omega) ?_;refine run (fA aY rfl rfl rfl ?_);refine run (aBx o10 0 rfl ty36 rfl rfl ?_);refine run (aBH rfl sl36 ?_);refine Ar.i64 (by omega) (by omega) ?_;refine run (fA aY rfl rfl rfl ?_);refine run (aBx o10 0 rfl ty37 rfl rfl ?_);refine run (aBH rfl sl37 ?_);refine Ar.i64 (by omega) (by omega) ?_;refine run (fA aY rfl rfl rfl ?_);refine run (aBx o10 0 rfl ty38 rfl rfl ?_);refine run (aBH rfl xJ ?_);refine Ar.i64 (by omega) (by omega) ?_;refine run (fA aY rfl rfl rfl ?_);refine run (aBx o10 0 rfl nM rfl rfl ?_);refine run (aBH rfl mZ ?_);refine Ar.i64 (by omega) (by omega) ?_;refine run (fA aY rfl rfl rfl ?_);refine run (fA aO rfl rfl rfl ?_);refine run (aBx o10 0 rfl cX rfl rfl ?_);refine run (aBH rfl bY ?_);refine Ar.i64 (by omega) (by omega) ?_;refine run (fA aY rfl rfl rfl ?_);refine run (fA aO rfl rfl rfl ?_);refine run (aBx o10 0 rfl nM rfl rfl ?_);refine run (aBH rfl mZ ?_);refine Ar.i64 (by omega) (by omega) ?_;refine run (fA aY rfl rfl rfl ?_);refine run (fA aO rfl rfl rfl ?_);refine run (aBx o10 0 rfl eZ rfl rfl ?_);refine run (aBH rfl aH ?_);refine Ar.i64 (by omega) (by omega) ?_
 refine run (fA aY rfl rfl rfl ?_);refine run (aBx o10 0 rfl aN rfl rfl ?_);refine run (fA aY rfl rfl rfl ?_);refine run (aBx o10 0 rfl aN rfl rfl ?_);refine run (aBF rfl rfl (by first|omega|(simp;omega)) ?_);refine run (fA aY rfl rfl rfl ?_);refine run (aBx o10 0 rfl aN rfl rfl ?_);refine run (aBF rfl rfl (by first|omega|(simp;omega)) ?_);refine run (fA aY rfl rfl rfl ?_);refine run (aBx o10 0 rfl aN rfl rfl ?_);refine run (aBF rfl rfl (by first|omega|(simp;omega)) ?_);refine run (fA aY rfl rfl rfl ?_);refine run (aBx o10 0 rfl aN rfl rfl ?_);refine run (aBF rfl rfl (by first|omega|(simp;omega)) ?_);refine run (fA aY rfl rfl rfl ?_);refine run (fA aO rfl rfl rfl ?_);refine run (aBx o10 0 rfl aN rfl rfl ?_);refine run (aBF rfl rfl (by first|omega|(simp;omega)) ?_);refine run (fA aY rfl rfl rfl ?_);refine run (fA aO rfl rfl rfl ?_);refine run (aBx o10 0 rfl aN rfl rfl ?_);refine run (aBF rfl rfl (by first|omega|(simp;omega)) ?_);refine run (fA aY rfl rfl rfl ?_);refine run (fA aO rfl rfl rfl ?_);refine run (aBx o10 0 rfl aN rfl rfl ?_);refine run (aBF rfl rfl (by first|omega|(simp;omega)) ?_);refine Br.dec (fun c67=>?_) (fun c67=>?_);refine Br.dec (fun c68=>?_) (fun c68=>?_);refine run (fA aY rfl rfl rfl ?_);refine run (aBx o10 0 rfl aW rfl rfl ?_);refine Br.dec (fun c71=>?_) (fun c71=>?_);refine run (fA aY rfl rfl rfl ?_);refine run (aBx o10 0 rfl aW rfl rfl ?_);refine Br.dec (fun c74=>?_) (fun c74=>?_);refine run (fA aY rfl rfl rfl ?_);refine run (aBx o10 0 rfl aW rfl rfl ?_)
 refine Br.dec (fun c77=>?_) (fun c77=>?_);refine run (fA aY rfl rfl rfl ?_);refine run (fA aO rfl rfl rfl ?_);refine run (aBx o10 0 rfl aW rfl rfl ?_);refine Br.dec (fun c81=>?_) (fun c81=>?_);refine run (fA aY rfl rfl rfl ?_);refine run (fA aO rfl rfl rfl ?_);refine run (aBx o10 0 rfl aW rfl rfl ?_);refine RetVC.one rfl ?_
 rotate_left
 refine RetVC.one rfl ?_
 rotate_left
 refine RetVC.one rfl ?_
 rotate_left
 refine RetVC.one rfl ?_
 rotate_left
 refine RetVC.one rfl ?_
 rotate_left
 refine RetVC.one rfl ?_
 rotate_left
 refine RetVC.one rfl ?_
 all_goals first
  | exact⟨congrArg Value.bool (decide_eq_false (fun h=>by obtain⟨h1,h2,h3,h4,h5,h6,h7⟩:=h;first|contradiction|omega)).symm,Own.sel ‹_› [] rfl⟩
  | exact⟨congrArg Value.bool (decide_eq_decide.2 ⟨fun hg=>⟨by omega,by assumption,by omega,by omega,by omega,by omega,hg⟩,fun hh=>hh.2.2.2.2.2.2⟩),Own.sel ‹_› [] rfl⟩
theorem StillVC.buildG {pr:Bool}{P:Program}{ty:TypeId}{s:List Value}{h:Heap}{K:KK}{t e:TypeId}{n by_ byA:Nat}{z:Value}{zero vs:List Value}{parts:List (Nat×Operand)}(hT:ArrT P t e n z by_)(hZ:TyI P t true zero byA)
  (hf:Instr.fill (fun i=>some (i*1,1)) zero.toArray (parts.map fun p=>(p.1,ev s p.2))=some vs.toArray) (hk:K (.agg ⟨vs⟩) false h):StillVC pr P (.build t ⟨parts⟩) ty s h K:=by
 refine .pure' _ false (fun w=>?_) hk
 simp only[Nat.mul_one]at hf
 obtain⟨inf,z',hi,_,hz,hc,_⟩:=hZ.info
 have hparts:((⟨parts⟩:Array (Nat×Operand)).map fun x=>match x with|(i,x)=>(i,ev s x)).toList=parts.map fun p=>(p.1,ev s p.2):=by simp
 have key:(Instr.build t ((⟨parts⟩:Array (Nat×Operand)).map fun x=>match x with|(i,x)=>(i,ev s x))).run P w=.ok (.agg vs.toArray) w:=by
  unfold Instr.build
  simp only[Sem.run_bind,zeroValue,typeInfo,run_program,hi,hz,Sem.run_pure,Result.andThen_ok,run_underlying hT.arr,hT.el.sizeOf,hc,hparts]
  simp[hf]
 simp only[List.map_toArray]at key
 simp[execOp,key]
def wrF (f:FuncId):Value:=.func (.func f) #[] #[]
def wrFs:List Value:=[.nilFunc,wrF 70,wrF 71,wrF 72,wrF 73,wrF 74,wrF 75,wrF 76,wrF 77,wrF 78,wrF 79]
theorem sO (h:Heap):cK Tryz.prog 34 [] h fun r h'=>r=.agg ⟨wrFs⟩∧Own h [] h':=by
 refine Spec.enter Tryz.func34 rfl Tryz.ntmps34 (by kernel_rfl) ?_;have o0:=Own.refl h;(refine RunVC.alloc o0 ty80 ?_;intro b10 m10 o10);refine run (buildG (vs:=wrFs) arr80 ty80 (by kernel_rfl) ?_);unfold wrFs wrF;(refine RunVC.aBA o10 0 rfl ty80 rfl (by decide) (aI ⟨rfl,rfl⟩ ?_);intro m20 o20);refine RetVC.aBK rfl o20 0 rfl ty80 rfl rfl ?_
 exact⟨rfl,o20.sel [] rfl⟩
theorem xW (i:Nat):(dB.getD i []).length≤7:=by
 by_cases h:i<7
 ·have:i=0∨i=1∨i=2∨i=3∨i=4∨i=5∨i=6:=by omega
  rcases this with rfl|rfl|rfl|rfl|rfl|rfl|rfl<;>decide
 ·rw[List.getD_eq_getElem?_getD,List.getElem?_eq_none (by show 7≤i;omega)]
  decide
theorem kI:∀ {l:List Ex}{i:Nat}{x:Ex},l[i]?=some x→cC x≤cI l
 | [],_,_,h=>by simp at h
 | y::l,0,x,h=>by simp at h;subst h;rw[cI];exact Nat.le_max_left _ _
 | y::l,i+1,x,h=>by
  have:=kI (l:=l) (i:=i) (x:=x) (by simpa using h)
  rw[cI]
  exact Nat.le_trans this (Nat.le_max_right _ _)
theorem nW:∀(x:Ex),1≤cC x
 | .mk _ _ _ _ _ _ _ _ _=>by rw[cC];omega
def zP (b n:Nat):Prop:=∀(x:Ex)(B:Base)(c:List Value)(be:List UInt8)(lev:Int)(p v:Value)(k:Int)(bs:List UInt8)(h:Heap)(_:iD x≤n)(_:gR x)(_:lM B.h c x)(_:cN b p)(_:be=[]∨be=[32])(_:0≤lev∧lev+cC x≤1000000000000)(_:iQ B.h)(_:fW B.h)
  (_:Own B [box b [p,v,.int .i64 k] 58,row v 5 1 bs.length (bytes bs)] h) (_:bs.length+2000*eU x≤50000000000000) (_:0≤k∧k+2000*eU x≤50000000000000),
  Spec Tryz.prog 128 [.pointer (some ⟨b,0,none⟩),.string ⟨⟨be⟩⟩,.agg ⟨c⟩,.int .i64 lev] h (XEnds B b bs k (2000*eU x) (gJ be x) (lev+cC x - 1))
theorem prExpr_cT (b n:Nat)(hIH:zP b n)(kd:Int)(tb:List UInt8)(ks:List Ex)(cs:List Cnd)(ns:List (List UInt8))(a s:List UInt8)(g:Int)(off:Nat)(hcls:kd<2∨8<kd)(B:Base)(c:List Value)(be:List UInt8)(lev:Int)(p v:Value)(k:Int)(bs:List UInt8)(h:Heap)(hd:iD (.mk kd tb ks cs ns a s g off)≤n+1)(hOK:gR (.mk kd tb ks cs ns a s g off))(hc:lM B.h c (.mk kd tb ks cs ns a s g off))(hp:cN b p)(hbe:be=[]∨be=[32])(hlev:0≤lev∧lev+cC (.mk kd tb ks cs ns a s g off)≤1000000000000)(hT:iQ B.h)(hF:fW B.h)
  (o:Own B [box b [p,v,.int .i64 k] 58,row v 5 1 bs.length (bytes bs)] h) (hl:bs.length+2000*eU (.mk kd tb ks cs ns a s g off)≤50000000000000) (hk:0≤k∧k+2000*eU (.mk kd tb ks cs ns a s g off)≤50000000000000) :
  Spec Tryz.prog 128 [.pointer (some ⟨b,0,none⟩),.string ⟨⟨be⟩⟩,.agg ⟨c⟩,.int .i64 lev] h (XEnds B b bs k (2000*eU (.mk kd tb ks cs ns a s g off)) (gJ be (.mk kd tb ks cs ns a s g off)) (lev+cC (.mk kd tb ks cs ns a s g off) - 1)):=by
  rw[iD]at hd
  rw[gR]at hOK
  rw[lM]at hc
  rw[eU]at hl hk ⊢
  rw[cC]at hlev ⊢
  rw[show lev+((cI ks+1:Nat):Int) - 1=lev+cI ks by omega]
  obtain⟨bk,btb,bks,bcs,bns,ba,bs_,bg,lk,lc,ln⟩:=hOK
  obtain⟨vk,vc,vn,z,rfl,q1,q2,xs,q3,rk⟩:=hc
  rw[jH]at q2
  obtain⟨e1,f1,rfl⟩:=q1.isS
  obtain⟨e2,f2,rfl⟩:=q2.isS
  obtain⟨e3,f3,rfl⟩:=q3.isS
  unfold qS;have hxs:xs.length=ks.length:=mK rk;have hbel:be.length≤1:=by rcases hbe with rfl|rfl<;>simp
  refine Spec.enter Tryz.func128 rfl Tryz.ntmps128 (by kernel_rfl) ?_;by_cases hkd:1≤kd∧kd≤8
  case neg =>
   have hq:gJ be (.mk kd tb ks cs ns a s g off)=none:=by rw[gJ,if_neg (fun h=>hkd ⟨h.1,h.2.1⟩)]
   by_cases h1:1≤kd
   ·(refine RunVC.aBS o rfl ?_;intro b10 m10 o10)
    refine DrawVC.intro [0,2,3,4,6,7,8,9,11,12,14,15,17,18] [1,5,10,13,16] [19] [0,1,2,3,4,5,6,7,8,9,10,11,12,13,14,15,16,17,18,19] mixed (by kernel_rfl) rfl (fun _ _ _ _ h=>h) ?_;refine fA aO rfl rfl rfl ?_;refine aBx o10 2 rfl aW rfl rfl ?_;refine Br.dec (fun c13=>?_) (fun hc=>absurd (by omega) hc);refine fA aO rfl rfl rfl ?_;refine aBx o10 2 rfl aW rfl rfl ?_;refine Br.dec (fun hc=>absurd hc (by omega)) (fun c16=>?_);refine MEnds.aBC ‹_› (aC _ _) (fun e1 m2 _ oq=>by cases e1) fun e1 m2 oq=>?_
    exact⟨hq,rfl,oq⟩
   ·(refine RunVC.aBS o rfl ?_;intro b30 m30 o30)
    refine DrawVC.intro [0,2,3,4,6,7,8,9,11,12,14,15,17,18] [1,5,10,13,16] [19] [0,1,2,3,4,5,6,7,8,9,10,11,12,13,14,15,16,17,18,19] mixed (by kernel_rfl) rfl (fun _ _ _ _ h=>h) ?_;refine fA aO rfl rfl rfl ?_;refine aBx o30 2 rfl aW rfl rfl ?_;refine Br.dec (fun hc=>absurd hc (by omega)) (fun c33=>?_);refine MEnds.aBC ‹_› (aC _ _) (fun e1 m2 _ oq=>by cases e1) fun e1 m2 oq=>?_
    exact⟨hq,rfl,oq⟩
  have hfa:=nV hF kd hkd.1 hkd.2;have hf1:=hfa.1;(refine RunVC.aBS o rfl ?_;intro b50 m50 o50);refine DrawVC.intro [0,2,3,4,6,7,8,9,11,12,14,15,17,18] [1,5,10,13,16] [19] [0,1,2,3,4,5,6,7,8,9,10,11,12,13,14,15,16,17,18,19] mixed (by kernel_rfl) rfl (fun _ _ _ _ h=>h) ?_;refine fA aO rfl rfl rfl ?_;refine aBx o50 2 rfl aW rfl rfl ?_;refine Br.dec (fun c53=>?_) (fun hc=>absurd (by omega) hc);refine fA aO rfl rfl rfl ?_;refine aBx o50 2 rfl aW rfl rfl ?_;refine Br.dec (fun c56=>?_) (fun hc=>absurd (by omega) hc);refine fA aO rfl rfl rfl ?_;refine aBx o50 2 rfl cX rfl rfl ?_;refine aBH rfl bY ?_;refine fA aO rfl rfl rfl ?_;refine aBx o50 2 rfl aW rfl rfl ?_;refine aBP Tryz.underlying195 pB rfl rfl (by omega) (by omega) ?_;refine fA pR rfl rfl rfl ?_;refine load1 aW rfl (o50.old hf1) ?_;refine MEnds.aBC ‹_› (aC _ _) (fun e1 m2 oc oq=>?_) fun e1 m2 oq=>?_
  case refine_2 =>
   have e1:=of_decide_eq_false e1;have hq:gJ be (.mk kd tb ks cs ns a s g off)=none:=by rw[gJ,if_neg (fun h=>e1 (by rw[h.2.2.1]))]
   exact⟨hq,rfl,oq⟩
  have hkl:ks.length=gD kd:=by have:=of_decide_eq_true e1;omega
  clear e1 oc;by_cases hkone:kd=1
  ·subst hkone
   obtain rfl:ks=[]:=List.length_eq_zero_iff.1 hkl;have hexQ:gJ be (.mk 1 tb [] cs ns a s g off)=if eP 1 tb cs ns a s g=true then bG be tb else none:=by
    rw[gJ]
    by_cases hb:eP 1 tb cs ns a s g=true
    ·rw[if_pos ⟨by decide,by decide,rfl,hb⟩,if_pos rfl,if_pos hb]
    ·rw[if_neg (fun h=>hb h.2.2.2),if_neg hb]
   have hB:eP 1 tb cs ns a s g=true↔cs.length=0∧ns.length=0∧a=[]∧s=[]∧g=0:=by simp[eP]
   refine run (aBB oq 2 rfl aT rfl rfl rfl ?_);(refine RunVC.alloc oq aT ?_;intro b101 m101 o101);(refine RunVC.aBA o101 3 rfl aT rfl (by decide) (aI ⟨rfl,rfl⟩ ?_);intro m102 o102);refine run (fA aO rfl rfl rfl ?_);(refine RunVC.store o102 3 rfl aW rfl (by simp) (aI ⟨rfl,rfl⟩ ?_);intro m104 o104);refine run (fA aO rfl rfl rfl ?_);(refine RunVC.store o104 3 rfl cX rfl (by simp) (aI ⟨rfl,rfl⟩ ?_);intro m106 o106);refine run (fA aO rfl rfl rfl ?_);(refine RunVC.store o106 3 rfl aW rfl (by simp) (aI ⟨rfl,rfl⟩ ?_);intro m108 o108);refine run (fA aO rfl rfl rfl ?_);refine run (aBx o108 2 rfl aW rfl rfl ?_);refine Br.tt ?_;refine DrawVC.intro [0,1,2,3,4,7] [5] [6,8,9] [0,1,2,3,4,5,6,7,8,9] mixed (by kernel_rfl) rfl (fun _ _ _ _ h=>h) ?_;refine nC rfl ?_;refine fA bM rfl rfl rfl ?_;refine fA aO rfl rfl rfl ?_;refine aBx o108 2 rfl aN rfl rfl ?_;refine MEnds.aBC ‹_› (bF tb _ btb) (fun en m3 oc oq=>?_) fun en m3 oq=>?_
   case refine_2 =>
    exact⟨hexQ.trans (by rw[cO en];split<;>rfl),rfl,oq⟩
   have hnl:=cM en;clear oc;refine aBF rfl rfl (by first|omega|(simp;omega)) ?_;(refine RunVC.lit oq aH aN rfl rfl (by decide) (aI rfl ?_);intro b121 m121 o121);refine aE [be++tb] 1 30 [2,3] (i:=4) ‹_› rfl rfl rfl hp rfl (by omega) (by omega) (by simp;omega) (by omega) (by omega) (fun p1 v1 bs1 k1 m1 hp1 hb1 hk1 hl1 oq=>?_);have o4:Own B [box b [p1,v1,.int .i64 k1] 58,row v1 5 1 bs1.length (bytes bs1),box b50 [.int .i64 1,.string ⟨⟨tb⟩⟩,.slice e3 ([]:List Ex).length f3,.slice e1 cs.length f1,.slice e2 ns.length f2,.string ⟨⟨a⟩⟩,.string ⟨⟨s⟩⟩,.int .i64 g,.int .i64 z] 42,box b101 [.int .i64 0,.string ⟨⟨tb⟩⟩,.slice none 0 0,.slice e1 cs.length f1,.slice e2 ns.length f2,.string ⟨⟨a⟩⟩,.string ⟨⟨s⟩⟩,.int .i64 g,.int .i64 0] 42] m1:=oq;clear oq
   rw[show lev+((cI []:Nat):Int)=lev by simp[cI]]
   refine run (fA aO rfl rfl rfl ?_);(refine RunVC.store o4 3 rfl aN rfl (by simp) (aI ⟨rfl,rfl⟩ ?_);intro m151 o151);refine run (fA aO rfl rfl rfl ?_);refine run (aBx o151 2 rfl cX rfl rfl ?_);refine run (aBH rfl bY ?_);refine LoopVC.intro [10,11,12,67,68,69,70,71,72,73,74,75,76,77,78,79,80,81,82,83,84,85,86,87,88,89,90] [10,67] (fun vs' hh=>vs'=[.int .i64 lev,.int .i64 0]∧Own B [box b [p1,v1,.int .i64 k1] 58,row v1 5 1 bs1.length (bytes bs1),box b50 [.int .i64 1,.string ⟨⟨tb⟩⟩,.slice e3 ([]:List Ex).length f3,.slice e1 cs.length f1,.slice e2 ns.length f2,.string ⟨⟨a⟩⟩,.string ⟨⟨s⟩⟩,.int .i64 g,.int .i64 z] 42,box b101 [.int .i64 0,.string ⟨⟨[]⟩⟩,.slice none 0 0,.slice e1 cs.length f1,.slice e2 ns.length f2,.string ⟨⟨a⟩⟩,.string ⟨⟨s⟩⟩,.int .i64 g,.int .i64 0] 42] hh) (fun vs' _=>0) ?_ ?_
   ·exact⟨rfl,o151⟩
   rintro vs' junk hh ⟨rfl,oh⟩;clear o151 o4;refine Br.ff ?_;refine run (fA aO rfl rfl rfl ?_);refine run (aBx oh 2 rfl aW rfl rfl ?_);refine Br.tt ?_;refine run (fA aO rfl rfl rfl ?_);refine run (aBx oh 2 rfl aW rfl rfl ?_);refine Br.ff ?_;refine run (fA aO rfl rfl rfl ?_);refine run (aBx oh 3 rfl aN rfl rfl ?_);refine Br.tt ?_;refine run (fA aO rfl rfl rfl ?_);refine run (aBx oh 3 rfl nM rfl rfl ?_);refine run (aBH rfl mZ ?_);refine Br.dec (fun c169=>?_) (fun c169=>?_);refine run (fA aO rfl rfl rfl ?_);refine run (aBx oh 3 rfl eZ rfl rfl ?_);refine run (aBH rfl aH ?_);refine Br.dec (fun c173=>?_) (fun c173=>?_);refine run (fA aO rfl rfl rfl ?_);refine run (aBx oh 3 rfl aN rfl rfl ?_);refine Br.dec (fun c176=>?_) (fun c176=>?_);refine run (fA aO rfl rfl rfl ?_);refine run (aBx oh 3 rfl aN rfl rfl ?_);refine Br.dec (fun c179=>?_) (fun c179=>?_);refine run (fA aO rfl rfl rfl ?_);refine run (aBx oh 3 rfl aW rfl rfl ?_)
   any_goals (refine MEnds.aBC (B:=B) ‹_› (aC false _) (fun e8 m8 _ oq=>by cases e8) fun e8 m8 oq=>?_;exact⟨hexQ.trans (if_neg fun hb=>by obtain⟨x0,x1,x2,x3,x4⟩:=hB.1 hb;first|contradiction|omega),rfl,oq⟩)
   refine MEnds.aBC (B:=B) ‹_› (aC _ _) (fun e8 m8 _ oq=>?_) fun e8 m8 oq=>?_
   case refine_2 =>
    have e8:=of_decide_eq_false e8
    exact⟨hexQ.trans (if_neg fun hb=>by obtain⟨x0,x1,x2,x3,x4⟩:=hB.1 hb;omega),rfl,oq⟩
   have e8:=of_decide_eq_true e8;have hbare:=hB.2 ⟨by omega,by omega,by assumption,by assumption,by omega⟩;refine RetVC.one rfl ?_;exact XEnds.done (hexQ.trans ((if_pos hbare).trans (aA en))) (oq.sel [0,1] rfl) hp1 (by rw[hb1];simp[bE,fR,wr,aG]) hk1 (by omega) (by omega)
  ·exact(by omega:False).elim
theorem prExpr_cD (b n:Nat)(hIH:zP b n)(kd:Int)(tb:List UInt8)(ks:List Ex)(cs:List Cnd)(ns:List (List UInt8))(a s:List UInt8)(g:Int)(off:Nat)(hcls:kd=4∨kd=5∨kd=6)(B:Base)(c:List Value)(be:List UInt8)(lev:Int)(p v:Value)(k:Int)(bs:List UInt8)(h:Heap)(hd:iD (.mk kd tb ks cs ns a s g off)≤n+1)(hOK:gR (.mk kd tb ks cs ns a s g off))(hc:lM B.h c (.mk kd tb ks cs ns a s g off))(hp:cN b p)(hbe:be=[]∨be=[32])(hlev:0≤lev∧lev+cC (.mk kd tb ks cs ns a s g off)≤1000000000000)(hT:iQ B.h)(hF:fW B.h)
  (o:Own B [box b [p,v,.int .i64 k] 58,row v 5 1 bs.length (bytes bs)] h) (hl:bs.length+2000*eU (.mk kd tb ks cs ns a s g off)≤50000000000000) (hk:0≤k∧k+2000*eU (.mk kd tb ks cs ns a s g off)≤50000000000000) :
  Spec Tryz.prog 128 [.pointer (some ⟨b,0,none⟩),.string ⟨⟨be⟩⟩,.agg ⟨c⟩,.int .i64 lev] h (XEnds B b bs k (2000*eU (.mk kd tb ks cs ns a s g off)) (gJ be (.mk kd tb ks cs ns a s g off)) (lev+cC (.mk kd tb ks cs ns a s g off) - 1)):=by
  rw[iD]at hd
  rw[gR]at hOK
  rw[lM]at hc
  rw[eU]at hl hk ⊢
  rw[cC]at hlev ⊢
  rw[show lev+((cI ks+1:Nat):Int) - 1=lev+cI ks by omega]
  obtain⟨bk,btb,bks,bcs,bns,ba,bs_,bg,lk,lc,ln⟩:=hOK
  obtain⟨vk,vc,vn,z,rfl,q1,q2,xs,q3,rk⟩:=hc
  rw[jH]at q2
  obtain⟨e1,f1,rfl⟩:=q1.isS
  obtain⟨e2,f2,rfl⟩:=q2.isS
  obtain⟨e3,f3,rfl⟩:=q3.isS
  unfold qS;have hxs:xs.length=ks.length:=mK rk;have hbel:be.length≤1:=by rcases hbe with rfl|rfl<;>simp
  refine Spec.enter Tryz.func128 rfl Tryz.ntmps128 (by kernel_rfl) ?_;by_cases hkd:1≤kd∧kd≤8
  case neg =>
   exact(by omega:False).elim
  have hfa:=nV hF kd hkd.1 hkd.2;have hf1:=hfa.1;(refine RunVC.aBS o rfl ?_;intro b50 m50 o50);refine DrawVC.intro [0,2,3,4,6,7,8,9,11,12,14,15,17,18] [1,5,10,13,16] [19] [0,1,2,3,4,5,6,7,8,9,10,11,12,13,14,15,16,17,18,19] mixed (by kernel_rfl) rfl (fun _ _ _ _ h=>h) ?_;refine fA aO rfl rfl rfl ?_;refine aBx o50 2 rfl aW rfl rfl ?_;refine Br.dec (fun c53=>?_) (fun hc=>absurd (by omega) hc);refine fA aO rfl rfl rfl ?_;refine aBx o50 2 rfl aW rfl rfl ?_;refine Br.dec (fun c56=>?_) (fun hc=>absurd (by omega) hc);refine fA aO rfl rfl rfl ?_;refine aBx o50 2 rfl cX rfl rfl ?_;refine aBH rfl bY ?_;refine fA aO rfl rfl rfl ?_;refine aBx o50 2 rfl aW rfl rfl ?_;refine aBP Tryz.underlying195 pB rfl rfl (by omega) (by omega) ?_;refine fA pR rfl rfl rfl ?_;refine load1 aW rfl (o50.old hf1) ?_;refine MEnds.aBC ‹_› (aC _ _) (fun e1 m2 oc oq=>?_) fun e1 m2 oq=>?_
  case refine_2 =>
   have e1:=of_decide_eq_false e1;have hq:gJ be (.mk kd tb ks cs ns a s g off)=none:=by rw[gJ,if_neg (fun h=>e1 (by rw[h.2.2.1]))]
   exact⟨hq,rfl,oq⟩
  have hkl:ks.length=gD kd:=by have:=of_decide_eq_true e1;omega
  clear e1 oc;by_cases hkone:kd=1
  ·exact(by omega:False).elim
  ·have hexQ:gJ be (.mk kd tb ks cs ns a s g off)=if eP kd tb cs ns a s g=true then aF [some [aG be (dB.getD (kd - 2).toNat []),aP [] [40]],cT (dV gJ) ks,dR kd cs ns a s g,some [aP [] [41]]] else none:=by
    rw[gJ]
    by_cases hb:eP kd tb cs ns a s g=true
    ·rw[if_pos ⟨hkd.1,hkd.2,hkl,hb⟩,if_neg hkone,if_pos hb,mH]
    ·rw[if_neg (fun h=>hb h.2.2.2),if_neg hb]
   have hf2:=hfa.2 hkone;have hol:=xW (kd - 2).toNat;generalize dB.getD (kd - 2).toNat []=opw at hexQ hf2 hol;clear hfa;refine run (aBB oq 2 rfl aT rfl rfl rfl ?_);(refine RunVC.alloc oq aT ?_;intro b201 m201 o201);(refine RunVC.aBA o201 3 rfl aT rfl (by decide) (aI ⟨rfl,rfl⟩ ?_);intro m202 o202);refine run (fA aO rfl rfl rfl ?_);(refine RunVC.store o202 3 rfl aW rfl (by simp) (aI ⟨rfl,rfl⟩ ?_);intro m204 o204);refine run (fA aO rfl rfl rfl ?_);(refine RunVC.store o204 3 rfl cX rfl (by simp) (aI ⟨rfl,rfl⟩ ?_);intro m206 o206);refine run (fA aO rfl rfl rfl ?_);(refine RunVC.store o206 3 rfl aW rfl (by simp) (aI ⟨rfl,rfl⟩ ?_);intro m208 o208);refine run (fA aO rfl rfl rfl ?_);refine run (aBx o208 2 rfl aW rfl rfl ?_);refine Br.dec (fun hc=>absurd hc (by omega)) (fun c211=>?_);refine DrawVC.intro [0,1,2,3,4,6,7,9] [5,8] [10,11] [0,1,2,3,4,5,6,7,8,9,10,11] mixed (by kernel_rfl) rfl (fun _ _ _ _ h=>h) ?_;refine nC rfl ?_;refine fA bM rfl rfl rfl ?_;refine fA aO rfl rfl rfl ?_;refine aBx o208 2 rfl aW rfl rfl ?_;refine aBP Tryz.underlying195 pB rfl rfl (by omega) (by omega) ?_;refine fA pR rfl rfl rfl ?_;refine load1 aN rfl (o208.old hf2) ?_;refine aBF rfl rfl (by first|omega|(simp;omega)) ?_;(refine RunVC.lit o208 aH aN rfl rfl (by decide) (aI rfl ?_);intro b220 m220 o220);refine aE [be++opw,[40]] 2 30 [2,3] (i:=4) ‹_› rfl rfl rfl hp rfl (by omega) (by omega) (by simp;omega) (by omega) (by omega) (fun p1 v1 bs1 k1 m1 hp1 hb1 hk1 hl1 oq=>?_);have o4:Own B [box b [p1,v1,.int .i64 k1] 58,row v1 5 1 bs1.length (bytes bs1),box b50 [.int .i64 kd,.string ⟨⟨tb⟩⟩,.slice e3 ks.length f3,.slice e1 cs.length f1,.slice e2 ns.length f2,.string ⟨⟨a⟩⟩,.string ⟨⟨s⟩⟩,.int .i64 g,.int .i64 z] 42,box b201 [.int .i64 0,.string ⟨⟨tb⟩⟩,.slice none 0 0,.slice e1 cs.length f1,.slice e2 ns.length f2,.string ⟨⟨a⟩⟩,.string ⟨⟨s⟩⟩,.int .i64 g,.int .i64 0] 42] m1:=oq
   clear oq;refine run (fA aO rfl rfl rfl ?_);refine run (aBx o4 2 rfl cX rfl rfl ?_);refine run (aBH rfl bY ?_);refine LoopVC.intro [10,11,12,67,68,69,70,71,72,73,74,75,76,77,78,79,80,81,82,83,84,85,86,87,88,89,90] [10,67] (fun vs' hh=>∃(i:Nat) (p' v':Value) (bs':List UInt8) (k':Int) (ps:List Pc),i≤ks.length∧vs'=[.int .i64 (lev+cI (ks.take i)),.int .i64 i]∧cN b p'∧cT (dV gJ) (ks.take i)=some ps∧bs'=bs1++bE ps∧k'=k1+ps.length∧bs'.length≤bs1.length+(2000*eW (ks.take i)+30*i)∧k'≤k1+(2000*eW (ks.take i)+30*i)∧Own B [box b [p',v',.int .i64 k'] 58,row v' 5 1 bs'.length (bytes bs'),box b50 [.int .i64 kd,.string ⟨⟨tb⟩⟩,.slice e3 ks.length f3,.slice e1 cs.length f1,.slice e2 ns.length f2,.string ⟨⟨a⟩⟩,.string ⟨⟨s⟩⟩,.int .i64 g,.int .i64 z] 42,box b201 [.int .i64 0,.string ⟨⟨tb⟩⟩,.slice none 0 0,.slice e1 cs.length f1,.slice e2 ns.length f2,.string ⟨⟨a⟩⟩,.string ⟨⟨s⟩⟩,.int .i64 g,.int .i64 0] 42] hh) (fun vs' _=>match vs' with|[_,.int _ i]=>ks.length - i.toNat|_=>0) ?_ ?_
   ·exact⟨0,p1,v1,bs1,k1,[],by omega,by simp[cI],hp1,rfl,by simp[bE],by simp,by omega,by omega,o4⟩
   rintro vs' junk hh ⟨i,p',v',bs',k',ps,hi,rfl,hp',hQ,hb',hk',hl',hk2,oh⟩;clear o4;have hk2s:ks.length≤2:=by rw[hkl];unfold gD;split<;>(try split)<;>omega
   have hszl:=dY ks i;by_cases hlt:i<ks.length
   ·obtain⟨kx,hkx⟩:=getx hlt
    obtain⟨cx,hcx,hrx⟩:=kW rk hkx
    have hdx:=iB hkx;have hsz:=kH hkx;have hszl2:=dY ks (i+1);have hlv:=jM hkx;have hlvl:cC kx≤cI ks:=kI hkx;have hlp:=nW kx;have hxOK:=jL bks hkx;have hrx2:=hrx
    obtain⟨cxv,hcl⟩:=cx
    obtain⟨xk,xt,xks,xcs,xns,xa,xs_,xg,xo⟩:=kx
    rw[lM]at hrx2
    obtain⟨wk,wc,wn,wz,hcv,g1,g2,gx,g3,_⟩:=hrx2
    obtain⟨h1,h2,rfl⟩:=g1.isS
    obtain⟨h3,h4,rfl⟩:=g2.isS
    obtain⟨h5,h6,rfl⟩:=g3.isS
    dsimp only at hcv hrx;subst hcv;unfold qS at hcx hrx hcl;clear g1 g2 g3;by_cases h0:i=0
    ·subst h0
     refine Br.dec (fun c400=>?_) (fun hc=>absurd (by omega) hc);refine run (aBJ bY aT (q3.ext oh.ext) rfl (by omega) (by omega) ?_);refine run (aBN aT (q3.ext oh.ext) (fun y:cV=>y.2) (by decide) rfl ‹_› ?_);(refine RunVC.alloc oh aT ?_;intro b403 m403 o403);(refine RunVC.aBA o403 4 rfl aT rfl (by decide) (aI ⟨rfl,rfl⟩ ?_);intro m404 o404);refine Br.ff ?_;refine DrawVC.intro [0,1,3,4,7,8,10,11] [5,6] [9] [0,1,3,6,7,8,2,4,5,9,10,11] mixed (by kernel_rfl) rfl (fun _ _ _ _ h=>h) ?_;refine aBB o404 4 rfl aT rfl rfl rfl ?_;refine Ar.i64 (by omega) (by omega) ?_;(refine RunVC.lit (Own.refl _) aH aN rfl rfl (by decide) (aI rfl ?_);intro b406 m406 o406);(refine aI o406.ext ?_;have o407:=Own.call o404 o406;simp only[lcA,lnA]at o407;clear o406);refine idxB o407 5 rfl aH aN rfl rfl (by omega) (by first|omega|(simp;omega)) ?_;refine aBx o407 5 rfl aN rfl rfl ?_;refine XEnds.callJ [2,3] ‹_› rfl rfl (fun J oj=>hIH _ _ _ [] _ p' v' k' bs' _ (Nat.le_trans hdx (by omega)) hxOK hrx hp' (.inl rfl) (by omega) hT hF oj (by omega) (by omega)) (fun ps2 p2 v2 bs2 k2 m2 hq2 hp2 hb2 hk2' hl2 _ hj2 oq=>?_) (fun m2 hq2 oq=>?_)
     case refine_2 =>
      have:cT (dV gJ) ks=none:=aR hkx hQ hq2
      exact⟨hexQ.trans (by split;simp only[this,aF,oMN];rfl),rfl,oq⟩
     have o5:Own B [box b [p2,v2,.int .i64 k2] 58,row v2 5 1 bs2.length (bytes bs2),box b50 [.int .i64 kd,.string ⟨⟨tb⟩⟩,.slice e3 ks.length f3,.slice e1 cs.length f1,.slice e2 ns.length f2,.string ⟨⟨a⟩⟩,.string ⟨⟨s⟩⟩,.int .i64 g,.int .i64 z] 42,box b201 [.int .i64 0,.string ⟨⟨tb⟩⟩,.slice none 0 0,.slice e1 cs.length f1,.slice e2 ns.length f2,.string ⟨⟨a⟩⟩,.string ⟨⟨s⟩⟩,.int .i64 g,.int .i64 0] 42] m2:=oq;clear oq;refine max2 rfl rfl ?_;refine Ar.i64 (by omega) (by omega) ?_
     refine⟨rfl,?_⟩
     refine⟨⟨0+1,p2,v2,bs2,k2,ps++ps2,by omega,?_,hp2,aZ hkx hQ hq2,by rw[hb2,hb'];simp[bE],by rw[hk2',hk'];simp;omega,by omega,by omega,Own.sel ‹_› [0,1,2,3] rfl⟩,by simp;omega⟩
     congr 2
     omega
    ·obtain rfl:i=1:=by omega
     refine Br.dec (fun c500=>?_) (fun hc=>absurd (by omega) hc);refine run (aBJ bY aT (q3.ext oh.ext) rfl (by omega) (by omega) ?_);refine run (aBN aT (q3.ext oh.ext) (fun y:cV=>y.2) (by decide) rfl ‹_› ?_);(refine RunVC.alloc oh aT ?_;intro b503 m503 o503);(refine RunVC.aBA o503 4 rfl aT rfl (by decide) (aI ⟨rfl,rfl⟩ ?_);intro m504 o504);refine Br.tt ?_;refine run (nC rfl ?_);refine run (fA bM rfl rfl rfl ?_);(refine RunVC.lit o504 aH aN rfl rfl (by decide) (aI rfl ?_);intro b507 m507 o507);refine aE [[44]] 1 30 [2,3,4] (i:=5) ‹_› rfl rfl rfl hp' rfl (by omega) (by omega) (by simp) (by omega) (by omega) (fun p3 v3 bs3 k3 m3 hp3 hb3 hk3 hl3 oq=>?_);have o5:=oq
     simp only[pick,lgS,lgZ]at o5
     clear oq oh;refine DrawVC.intro [0,1,3,4,7,8,10,11] [5,6] [9] [0,1,3,6,7,8,2,4,5,9,10,11] mixed (by kernel_rfl) rfl (fun _ _ _ _ h=>h) ?_;refine aBB o5 4 rfl aT rfl rfl rfl ?_;refine Ar.i64 (by omega) (by omega) ?_;(refine RunVC.lit (Own.refl _) aH aN rfl rfl (by decide) (aI rfl ?_);intro b551 m551 o551);(refine aI o551.ext ?_;have o552:=Own.call o5 o551;simp only[lcA,lnA]at o552;clear o551);refine idxB o552 5 rfl aH aN rfl rfl (by omega) (by first|omega|(simp;omega)) ?_;refine aBx o552 5 rfl aN rfl rfl ?_;refine XEnds.callJ [2,3] ‹_› rfl rfl (fun J oj=>hIH _ _ _ [32] _ p3 v3 k3 bs3 _ (Nat.le_trans hdx (by omega)) hxOK hrx hp3 (.inr rfl) (by omega) hT hF oj (by omega) (by omega)) (fun ps2 p2 v2 bs2 k2 m2 hq2 hp2 hb2 hk2' hl2 _ hj2 oq=>?_) (fun m2 hq2 oq=>?_)
     case refine_2 =>
      have:cT (dV gJ) ks=none:=aR hkx hQ (by unfold dV;rw[if_neg (by decide),hq2];rfl)
      exact⟨hexQ.trans (by split;simp only[this,aF,oMN];rfl),rfl,oq⟩
     have o6:Own B [box b [p2,v2,.int .i64 k2] 58,row v2 5 1 bs2.length (bytes bs2),box b50 [.int .i64 kd,.string ⟨⟨tb⟩⟩,.slice e3 ks.length f3,.slice e1 cs.length f1,.slice e2 ns.length f2,.string ⟨⟨a⟩⟩,.string ⟨⟨s⟩⟩,.int .i64 g,.int .i64 z] 42,box b201 [.int .i64 0,.string ⟨⟨tb⟩⟩,.slice none 0 0,.slice e1 cs.length f1,.slice e2 ns.length f2,.string ⟨⟨a⟩⟩,.string ⟨⟨s⟩⟩,.int .i64 g,.int .i64 0] 42] m2:=oq;clear oq;refine max2 rfl rfl ?_;refine Ar.i64 (by omega) (by omega) ?_
     refine⟨rfl,?_⟩
     refine⟨⟨1+1,p2,v2,bs2,k2,ps++(aP [] [44]::ps2),by omega,?_,hp2,aZ hkx hQ (by unfold dV;rw[if_neg (by decide),hq2];rfl),by rw[hb2,hb3,hb'];simp[bE,fR,wr,aP],by rw[hk2',hk3,hk'];simp;omega,by omega,by omega,Own.sel ‹_› [0,1,2,3] rfl⟩,by simp;omega⟩
     congr 2
     omega
   have hQ:=fO (Nat.le_of_not_lt hlt) hQ
   rw[List.take_of_length_le (Nat.le_of_not_lt hlt)]at hl' hk2 ⊢
   by_cases hk2x:kd=2
   ·exact(by omega:False).elim
   by_cases hk3x:kd=3
   ·exact(by omega:False).elim
   by_cases hk7x:kd=7
   ·exact(by omega:False).elim
   by_cases hk8x:kd=8
   ·exact(by omega:False).elim
   have hR:dR kd cs ns a s g=some []:=by unfold dR;rw[if_neg hk2x,if_neg hk3x,if_neg hk7x,if_neg hk8x]
   have hB:eP kd tb cs ns a s g=true↔tb=[]∧cs.length=0∧ns.length=0∧a=[]∧s=[]∧g=0:=by simp[eP,hkone,hk2x,hk3x,hk7x,hk8x]
   refine Br.dec (fun hc=>absurd hc (by omega)) (fun c4100=>?_);refine run (fA aO rfl rfl rfl ?_);refine run (aBx oh 2 rfl aW rfl rfl ?_);refine Br.dec (fun hc=>absurd hc (by omega)) (fun c4103=>?_);refine Br.dec (fun hc=>absurd hc (by omega)) (fun c4104=>?_);refine Br.dec (fun hc=>absurd hc (by omega)) (fun c4105=>?_);refine Br.dec (fun hc=>absurd hc (by omega)) (fun c4106=>?_);refine Br.dec (fun hc=>absurd hc (by omega)) (fun c4107=>?_);refine run (fA aO rfl rfl rfl ?_);refine run (aBx oh 2 rfl aW rfl rfl ?_);refine Br.aBO (fun c4110=>?_) (fun hc=>absurd hc (by first|omega|assumption|decide|exact rfl));refine run (nC rfl ?_);refine run (fA bM rfl rfl rfl ?_);(refine RunVC.lit oh aH aN rfl rfl (by decide) (aI rfl ?_);intro b4113 m4113 o4113);refine aE [[41]] 1 30 [2,3] (i:=4) ‹_› rfl rfl rfl hp' rfl (by omega) (by omega) (by simp) (by omega) (by omega) (fun p9 v9 bs9 k9 m9 hp9 hb9 hk9 hl9 oq=>?_);have o9:Own B [box b [p9,v9,.int .i64 k9] 58,row v9 5 1 bs9.length (bytes bs9),box b50 [.int .i64 kd,.string ⟨⟨tb⟩⟩,.slice e3 ks.length f3,.slice e1 cs.length f1,.slice e2 ns.length f2,.string ⟨⟨a⟩⟩,.string ⟨⟨s⟩⟩,.int .i64 g,.int .i64 z] 42,box b201 [.int .i64 0,.string ⟨⟨tb⟩⟩,.slice none 0 0,.slice e1 cs.length f1,.slice e2 ns.length f2,.string ⟨⟨a⟩⟩,.string ⟨⟨s⟩⟩,.int .i64 g,.int .i64 0] 42] m9:=oq;clear oq;refine run (fA aO rfl rfl rfl ?_);refine run (aBx o9 3 rfl aN rfl rfl ?_);refine Br.dec (fun c4162=>?_) (fun c4162=>?_);refine run (fA aO rfl rfl rfl ?_);refine run (aBx o9 3 rfl nM rfl rfl ?_)
   refine run (aBH rfl mZ ?_);refine Br.dec (fun c4166=>?_) (fun c4166=>?_);refine run (fA aO rfl rfl rfl ?_);refine run (aBx o9 3 rfl eZ rfl rfl ?_);refine run (aBH rfl aH ?_);refine Br.dec (fun c4170=>?_) (fun c4170=>?_);refine run (fA aO rfl rfl rfl ?_);refine run (aBx o9 3 rfl aN rfl rfl ?_);refine Br.dec (fun c4173=>?_) (fun c4173=>?_);refine run (fA aO rfl rfl rfl ?_);refine run (aBx o9 3 rfl aN rfl rfl ?_);refine Br.dec (fun c4176=>?_) (fun c4176=>?_);refine run (fA aO rfl rfl rfl ?_);refine run (aBx o9 3 rfl aW rfl rfl ?_)
   any_goals (refine MEnds.aBC (B:=B) ‹_› (aC false _) (fun e8 m8 _ oq=>by cases e8) fun e8 m8 oq=>?_;exact⟨hexQ.trans (if_neg fun hb=>by obtain⟨x0,x1,x2,x3,x4,x5⟩:=hB.1 hb;first|contradiction|omega),rfl,oq⟩)
   refine MEnds.aBC (B:=B) ‹_› (aC _ _) (fun e8 m8 _ oq=>?_) fun e8 m8 oq=>?_
   case refine_2 =>
    have e8:=of_decide_eq_false e8
    exact⟨hexQ.trans (if_neg fun hb=>by obtain⟨x0,x1,x2,x3,x4,x5⟩:=hB.1 hb;omega),rfl,oq⟩
   have e8:=of_decide_eq_true e8;have hbare:=hB.2 ⟨by assumption,by omega,by omega,by assumption,by assumption,by omega⟩;refine RetVC.one rfl ?_;exact XEnds.done (ps:=[aG be opw,aP [] [40]]++(ps++([]++([aP [] [41]]++[])))) (hexQ.trans (by rw[if_pos hbare];simp only[hQ,hR,aF,oMS])) (oq.sel [0,1] rfl) hp9 (by rw[hb9,hb',hb1];simp[bE,fR,wr,aG,aP]) (by rw[hk9,hk',hk1];simp;omega) (by omega) (by omega)
theorem prExpr_c2 (b n:Nat)(hIH:zP b n)(kd:Int)(tb:List UInt8)(ks:List Ex)(cs:List Cnd)(ns:List (List UInt8))(a s:List UInt8)(g:Int)(off:Nat)(hcls:kd=2)(B:Base)(c:List Value)(be:List UInt8)(lev:Int)(p v:Value)(k:Int)(bs:List UInt8)(h:Heap)(hd:iD (.mk kd tb ks cs ns a s g off)≤n+1)(hOK:gR (.mk kd tb ks cs ns a s g off))(hc:lM B.h c (.mk kd tb ks cs ns a s g off))(hp:cN b p)(hbe:be=[]∨be=[32])(hlev:0≤lev∧lev+cC (.mk kd tb ks cs ns a s g off)≤1000000000000)(hT:iQ B.h)(hF:fW B.h)
  (o:Own B [box b [p,v,.int .i64 k] 58,row v 5 1 bs.length (bytes bs)] h) (hl:bs.length+2000*eU (.mk kd tb ks cs ns a s g off)≤50000000000000) (hk:0≤k∧k+2000*eU (.mk kd tb ks cs ns a s g off)≤50000000000000) :
  Spec Tryz.prog 128 [.pointer (some ⟨b,0,none⟩),.string ⟨⟨be⟩⟩,.agg ⟨c⟩,.int .i64 lev] h (XEnds B b bs k (2000*eU (.mk kd tb ks cs ns a s g off)) (gJ be (.mk kd tb ks cs ns a s g off)) (lev+cC (.mk kd tb ks cs ns a s g off) - 1)):=by
  rw[iD]at hd
  rw[gR]at hOK
  rw[lM]at hc
  rw[eU]at hl hk ⊢
  rw[cC]at hlev ⊢
  rw[show lev+((cI ks+1:Nat):Int) - 1=lev+cI ks by omega]
  obtain⟨bk,btb,bks,bcs,bns,ba,bs_,bg,lk,lc,ln⟩:=hOK
  obtain⟨vk,vc,vn,z,rfl,q1,q2,xs,q3,rk⟩:=hc
  rw[jH]at q2
  obtain⟨e1,f1,rfl⟩:=q1.isS
  obtain⟨e2,f2,rfl⟩:=q2.isS
  obtain⟨e3,f3,rfl⟩:=q3.isS
  unfold qS;have hxs:xs.length=ks.length:=mK rk;have hbel:be.length≤1:=by rcases hbe with rfl|rfl<;>simp
  refine Spec.enter Tryz.func128 rfl Tryz.ntmps128 (by kernel_rfl) ?_;by_cases hkd:1≤kd∧kd≤8
  case neg =>
   exact(by omega:False).elim
  have hfa:=nV hF kd hkd.1 hkd.2;have hf1:=hfa.1;(refine RunVC.aBS o rfl ?_;intro b50 m50 o50);refine DrawVC.intro [0,2,3,4,6,7,8,9,11,12,14,15,17,18] [1,5,10,13,16] [19] [0,1,2,3,4,5,6,7,8,9,10,11,12,13,14,15,16,17,18,19] mixed (by kernel_rfl) rfl (fun _ _ _ _ h=>h) ?_;refine fA aO rfl rfl rfl ?_;refine aBx o50 2 rfl aW rfl rfl ?_;refine Br.dec (fun c53=>?_) (fun hc=>absurd (by omega) hc);refine fA aO rfl rfl rfl ?_;refine aBx o50 2 rfl aW rfl rfl ?_;refine Br.dec (fun c56=>?_) (fun hc=>absurd (by omega) hc);refine fA aO rfl rfl rfl ?_;refine aBx o50 2 rfl cX rfl rfl ?_;refine aBH rfl bY ?_;refine fA aO rfl rfl rfl ?_;refine aBx o50 2 rfl aW rfl rfl ?_;refine aBP Tryz.underlying195 pB rfl rfl (by omega) (by omega) ?_;refine fA pR rfl rfl rfl ?_;refine load1 aW rfl (o50.old hf1) ?_;refine MEnds.aBC ‹_› (aC _ _) (fun e1 m2 oc oq=>?_) fun e1 m2 oq=>?_
  case refine_2 =>
   have e1:=of_decide_eq_false e1;have hq:gJ be (.mk kd tb ks cs ns a s g off)=none:=by rw[gJ,if_neg (fun h=>e1 (by rw[h.2.2.1]))]
   exact⟨hq,rfl,oq⟩
  have hkl:ks.length=gD kd:=by have:=of_decide_eq_true e1;omega
  clear e1 oc;by_cases hkone:kd=1
  ·exact(by omega:False).elim
  ·have hexQ:gJ be (.mk kd tb ks cs ns a s g off)=if eP kd tb cs ns a s g=true then aF [some [aG be (dB.getD (kd - 2).toNat []),aP [] [40]],cT (dV gJ) ks,dR kd cs ns a s g,some [aP [] [41]]] else none:=by
    rw[gJ]
    by_cases hb:eP kd tb cs ns a s g=true
    ·rw[if_pos ⟨hkd.1,hkd.2,hkl,hb⟩,if_neg hkone,if_pos hb,mH]
    ·rw[if_neg (fun h=>hb h.2.2.2),if_neg hb]
   have hf2:=hfa.2 hkone;have hol:=xW (kd - 2).toNat;generalize dB.getD (kd - 2).toNat []=opw at hexQ hf2 hol;clear hfa;refine run (aBB oq 2 rfl aT rfl rfl rfl ?_);(refine RunVC.alloc oq aT ?_;intro b201 m201 o201);(refine RunVC.aBA o201 3 rfl aT rfl (by decide) (aI ⟨rfl,rfl⟩ ?_);intro m202 o202);refine run (fA aO rfl rfl rfl ?_);(refine RunVC.store o202 3 rfl aW rfl (by simp) (aI ⟨rfl,rfl⟩ ?_);intro m204 o204);refine run (fA aO rfl rfl rfl ?_);(refine RunVC.store o204 3 rfl cX rfl (by simp) (aI ⟨rfl,rfl⟩ ?_);intro m206 o206);refine run (fA aO rfl rfl rfl ?_);(refine RunVC.store o206 3 rfl aW rfl (by simp) (aI ⟨rfl,rfl⟩ ?_);intro m208 o208);refine run (fA aO rfl rfl rfl ?_);refine run (aBx o208 2 rfl aW rfl rfl ?_);refine Br.dec (fun hc=>absurd hc (by omega)) (fun c211=>?_);refine DrawVC.intro [0,1,2,3,4,6,7,9] [5,8] [10,11] [0,1,2,3,4,5,6,7,8,9,10,11] mixed (by kernel_rfl) rfl (fun _ _ _ _ h=>h) ?_;refine nC rfl ?_;refine fA bM rfl rfl rfl ?_;refine fA aO rfl rfl rfl ?_;refine aBx o208 2 rfl aW rfl rfl ?_;refine aBP Tryz.underlying195 pB rfl rfl (by omega) (by omega) ?_;refine fA pR rfl rfl rfl ?_;refine load1 aN rfl (o208.old hf2) ?_;refine aBF rfl rfl (by first|omega|(simp;omega)) ?_;(refine RunVC.lit o208 aH aN rfl rfl (by decide) (aI rfl ?_);intro b220 m220 o220);refine aE [be++opw,[40]] 2 30 [2,3] (i:=4) ‹_› rfl rfl rfl hp rfl (by omega) (by omega) (by simp;omega) (by omega) (by omega) (fun p1 v1 bs1 k1 m1 hp1 hb1 hk1 hl1 oq=>?_);have o4:Own B [box b [p1,v1,.int .i64 k1] 58,row v1 5 1 bs1.length (bytes bs1),box b50 [.int .i64 kd,.string ⟨⟨tb⟩⟩,.slice e3 ks.length f3,.slice e1 cs.length f1,.slice e2 ns.length f2,.string ⟨⟨a⟩⟩,.string ⟨⟨s⟩⟩,.int .i64 g,.int .i64 z] 42,box b201 [.int .i64 0,.string ⟨⟨tb⟩⟩,.slice none 0 0,.slice e1 cs.length f1,.slice e2 ns.length f2,.string ⟨⟨a⟩⟩,.string ⟨⟨s⟩⟩,.int .i64 g,.int .i64 0] 42] m1:=oq
   clear oq;refine run (fA aO rfl rfl rfl ?_);refine run (aBx o4 2 rfl cX rfl rfl ?_);refine run (aBH rfl bY ?_);refine LoopVC.intro [10,11,12,67,68,69,70,71,72,73,74,75,76,77,78,79,80,81,82,83,84,85,86,87,88,89,90] [10,67] (fun vs' hh=>∃(i:Nat) (p' v':Value) (bs':List UInt8) (k':Int) (ps:List Pc),i≤ks.length∧vs'=[.int .i64 (lev+cI (ks.take i)),.int .i64 i]∧cN b p'∧cT (dV gJ) (ks.take i)=some ps∧bs'=bs1++bE ps∧k'=k1+ps.length∧bs'.length≤bs1.length+(2000*eW (ks.take i)+30*i)∧k'≤k1+(2000*eW (ks.take i)+30*i)∧Own B [box b [p',v',.int .i64 k'] 58,row v' 5 1 bs'.length (bytes bs'),box b50 [.int .i64 kd,.string ⟨⟨tb⟩⟩,.slice e3 ks.length f3,.slice e1 cs.length f1,.slice e2 ns.length f2,.string ⟨⟨a⟩⟩,.string ⟨⟨s⟩⟩,.int .i64 g,.int .i64 z] 42,box b201 [.int .i64 0,.string ⟨⟨tb⟩⟩,.slice none 0 0,.slice e1 cs.length f1,.slice e2 ns.length f2,.string ⟨⟨a⟩⟩,.string ⟨⟨s⟩⟩,.int .i64 g,.int .i64 0] 42] hh) (fun vs' _=>match vs' with|[_,.int _ i]=>ks.length - i.toNat|_=>0) ?_ ?_
   ·exact⟨0,p1,v1,bs1,k1,[],by omega,by simp[cI],hp1,rfl,by simp[bE],by simp,by omega,by omega,o4⟩
   rintro vs' junk hh ⟨i,p',v',bs',k',ps,hi,rfl,hp',hQ,hb',hk',hl',hk2,oh⟩;clear o4;have hk2s:ks.length≤2:=by rw[hkl];unfold gD;split<;>(try split)<;>omega
   have hszl:=dY ks i;by_cases hlt:i<ks.length
   ·obtain⟨kx,hkx⟩:=getx hlt
    obtain⟨cx,hcx,hrx⟩:=kW rk hkx
    have hdx:=iB hkx;have hsz:=kH hkx;have hszl2:=dY ks (i+1);have hlv:=jM hkx;have hlvl:cC kx≤cI ks:=kI hkx;have hlp:=nW kx;have hxOK:=jL bks hkx;have hrx2:=hrx
    obtain⟨cxv,hcl⟩:=cx
    obtain⟨xk,xt,xks,xcs,xns,xa,xs_,xg,xo⟩:=kx
    rw[lM]at hrx2
    obtain⟨wk,wc,wn,wz,hcv,g1,g2,gx,g3,_⟩:=hrx2
    obtain⟨h1,h2,rfl⟩:=g1.isS
    obtain⟨h3,h4,rfl⟩:=g2.isS
    obtain⟨h5,h6,rfl⟩:=g3.isS
    dsimp only at hcv hrx;subst hcv;unfold qS at hcx hrx hcl;clear g1 g2 g3;by_cases h0:i=0
    ·subst h0
     refine Br.dec (fun c400=>?_) (fun hc=>absurd (by omega) hc);refine run (aBJ bY aT (q3.ext oh.ext) rfl (by omega) (by omega) ?_);refine run (aBN aT (q3.ext oh.ext) (fun y:cV=>y.2) (by decide) rfl ‹_› ?_);(refine RunVC.alloc oh aT ?_;intro b403 m403 o403);(refine RunVC.aBA o403 4 rfl aT rfl (by decide) (aI ⟨rfl,rfl⟩ ?_);intro m404 o404);refine Br.ff ?_;refine DrawVC.intro [0,1,3,4,7,8,10,11] [5,6] [9] [0,1,3,6,7,8,2,4,5,9,10,11] mixed (by kernel_rfl) rfl (fun _ _ _ _ h=>h) ?_;refine aBB o404 4 rfl aT rfl rfl rfl ?_;refine Ar.i64 (by omega) (by omega) ?_;(refine RunVC.lit (Own.refl _) aH aN rfl rfl (by decide) (aI rfl ?_);intro b406 m406 o406);(refine aI o406.ext ?_;have o407:=Own.call o404 o406;simp only[lcA,lnA]at o407;clear o406);refine idxB o407 5 rfl aH aN rfl rfl (by omega) (by first|omega|(simp;omega)) ?_;refine aBx o407 5 rfl aN rfl rfl ?_;refine XEnds.callJ [2,3] ‹_› rfl rfl (fun J oj=>hIH _ _ _ [] _ p' v' k' bs' _ (Nat.le_trans hdx (by omega)) hxOK hrx hp' (.inl rfl) (by omega) hT hF oj (by omega) (by omega)) (fun ps2 p2 v2 bs2 k2 m2 hq2 hp2 hb2 hk2' hl2 _ hj2 oq=>?_) (fun m2 hq2 oq=>?_)
     case refine_2 =>
      have:cT (dV gJ) ks=none:=aR hkx hQ hq2
      exact⟨hexQ.trans (by split;simp only[this,aF,oMN];rfl),rfl,oq⟩
     have o5:Own B [box b [p2,v2,.int .i64 k2] 58,row v2 5 1 bs2.length (bytes bs2),box b50 [.int .i64 kd,.string ⟨⟨tb⟩⟩,.slice e3 ks.length f3,.slice e1 cs.length f1,.slice e2 ns.length f2,.string ⟨⟨a⟩⟩,.string ⟨⟨s⟩⟩,.int .i64 g,.int .i64 z] 42,box b201 [.int .i64 0,.string ⟨⟨tb⟩⟩,.slice none 0 0,.slice e1 cs.length f1,.slice e2 ns.length f2,.string ⟨⟨a⟩⟩,.string ⟨⟨s⟩⟩,.int .i64 g,.int .i64 0] 42] m2:=oq;clear oq;refine max2 rfl rfl ?_;refine Ar.i64 (by omega) (by omega) ?_
     refine⟨rfl,?_⟩
     refine⟨⟨0+1,p2,v2,bs2,k2,ps++ps2,by omega,?_,hp2,aZ hkx hQ hq2,by rw[hb2,hb'];simp[bE],by rw[hk2',hk'];simp;omega,by omega,by omega,Own.sel ‹_› [0,1,2,3] rfl⟩,by simp;omega⟩
     congr 2
     omega
    ·obtain rfl:i=1:=by omega
     refine Br.dec (fun c500=>?_) (fun hc=>absurd (by omega) hc);refine run (aBJ bY aT (q3.ext oh.ext) rfl (by omega) (by omega) ?_);refine run (aBN aT (q3.ext oh.ext) (fun y:cV=>y.2) (by decide) rfl ‹_› ?_);(refine RunVC.alloc oh aT ?_;intro b503 m503 o503);(refine RunVC.aBA o503 4 rfl aT rfl (by decide) (aI ⟨rfl,rfl⟩ ?_);intro m504 o504);refine Br.tt ?_;refine run (nC rfl ?_);refine run (fA bM rfl rfl rfl ?_);(refine RunVC.lit o504 aH aN rfl rfl (by decide) (aI rfl ?_);intro b507 m507 o507);refine aE [[44]] 1 30 [2,3,4] (i:=5) ‹_› rfl rfl rfl hp' rfl (by omega) (by omega) (by simp) (by omega) (by omega) (fun p3 v3 bs3 k3 m3 hp3 hb3 hk3 hl3 oq=>?_);have o5:=oq
     simp only[pick,lgS,lgZ]at o5
     clear oq oh;refine DrawVC.intro [0,1,3,4,7,8,10,11] [5,6] [9] [0,1,3,6,7,8,2,4,5,9,10,11] mixed (by kernel_rfl) rfl (fun _ _ _ _ h=>h) ?_;refine aBB o5 4 rfl aT rfl rfl rfl ?_;refine Ar.i64 (by omega) (by omega) ?_;(refine RunVC.lit (Own.refl _) aH aN rfl rfl (by decide) (aI rfl ?_);intro b551 m551 o551);(refine aI o551.ext ?_;have o552:=Own.call o5 o551;simp only[lcA,lnA]at o552;clear o551);refine idxB o552 5 rfl aH aN rfl rfl (by omega) (by first|omega|(simp;omega)) ?_;refine aBx o552 5 rfl aN rfl rfl ?_;refine XEnds.callJ [2,3] ‹_› rfl rfl (fun J oj=>hIH _ _ _ [32] _ p3 v3 k3 bs3 _ (Nat.le_trans hdx (by omega)) hxOK hrx hp3 (.inr rfl) (by omega) hT hF oj (by omega) (by omega)) (fun ps2 p2 v2 bs2 k2 m2 hq2 hp2 hb2 hk2' hl2 _ hj2 oq=>?_) (fun m2 hq2 oq=>?_)
     case refine_2 =>
      have:cT (dV gJ) ks=none:=aR hkx hQ (by unfold dV;rw[if_neg (by decide),hq2];rfl)
      exact⟨hexQ.trans (by split;simp only[this,aF,oMN];rfl),rfl,oq⟩
     have o6:Own B [box b [p2,v2,.int .i64 k2] 58,row v2 5 1 bs2.length (bytes bs2),box b50 [.int .i64 kd,.string ⟨⟨tb⟩⟩,.slice e3 ks.length f3,.slice e1 cs.length f1,.slice e2 ns.length f2,.string ⟨⟨a⟩⟩,.string ⟨⟨s⟩⟩,.int .i64 g,.int .i64 z] 42,box b201 [.int .i64 0,.string ⟨⟨tb⟩⟩,.slice none 0 0,.slice e1 cs.length f1,.slice e2 ns.length f2,.string ⟨⟨a⟩⟩,.string ⟨⟨s⟩⟩,.int .i64 g,.int .i64 0] 42] m2:=oq;clear oq;refine max2 rfl rfl ?_;refine Ar.i64 (by omega) (by omega) ?_
     refine⟨rfl,?_⟩
     refine⟨⟨1+1,p2,v2,bs2,k2,ps++(aP [] [44]::ps2),by omega,?_,hp2,aZ hkx hQ (by unfold dV;rw[if_neg (by decide),hq2];rfl),by rw[hb2,hb3,hb'];simp[bE,fR,wr,aP],by rw[hk2',hk3,hk'];simp;omega,by omega,by omega,Own.sel ‹_› [0,1,2,3] rfl⟩,by simp;omega⟩
     congr 2
     omega
   have hQ:=fO (Nat.le_of_not_lt hlt) hQ
   rw[List.take_of_length_le (Nat.le_of_not_lt hlt)]at hl' hk2 ⊢
   by_cases hk2x:kd=2
   ·subst hk2x
    have hB:eP 2 tb cs ns a s g=true↔tb=[]∧ns.length=0∧a=[]∧s=[]∧g=0:=by simp[eP]
    refine Br.dec (fun hc=>absurd hc (by omega)) (fun c860=>?_);refine run (fA aO rfl rfl rfl ?_);refine run (aBx oh 2 rfl aW rfl rfl ?_);refine Br.ff ?_;refine Br.tt ?_;refine run (fA aO rfl rfl rfl ?_);refine run (aBx oh 2 rfl nM rfl rfl ?_);refine WEnds.callJ [2,3] ‹_› rfl rfl (fun J oj=>tA _ b p' v' k' bs' cs _ _ hp' hT q1 bcs oj (by omega) (by omega)) (fun ps2 p2 v2 bs2 k2 m2 hq2 hp2 hb2 hk2' hl2 _ hj2 oq=>?_) (fun m2 hq2 oq=>?_)
    case refine_2 =>
     have hR:dR 2 cs ns a s g=none:=hq2
     exact⟨hexQ.trans (by split;simp only[hQ,hR,aF,oMN,oMS];rfl),rfl,oq⟩
    have o6:Own B [box b [p2,v2,.int .i64 k2] 58,row v2 5 1 bs2.length (bytes bs2),box b50 [.int .i64 2,.string ⟨⟨tb⟩⟩,.slice e3 ks.length f3,.slice e1 cs.length f1,.slice e2 ns.length f2,.string ⟨⟨a⟩⟩,.string ⟨⟨s⟩⟩,.int .i64 g,.int .i64 z] 42,box b201 [.int .i64 0,.string ⟨⟨tb⟩⟩,.slice none 0 0,.slice e1 cs.length f1,.slice e2 ns.length f2,.string ⟨⟨a⟩⟩,.string ⟨⟨s⟩⟩,.int .i64 g,.int .i64 0] 42] m2:=oq;clear oq oh;have hR:dR 2 cs ns a s g=some ps2:=hq2;refine run (fA aO rfl rfl rfl ?_);(refine RunVC.store o6 3 rfl nM rfl (by simp) (aI ⟨rfl,rfl⟩ ?_);intro m921 o921);refine run (fA aO rfl rfl rfl ?_);refine run (aBx o921 2 rfl aW rfl rfl ?_);refine Br.tt ?_;refine run (nC rfl ?_);refine run (fA bM rfl rfl rfl ?_);(refine RunVC.lit o921 aH aN rfl rfl (by decide) (aI rfl ?_);intro b926 m926 o926);refine aE [[41]] 1 30 [2,3] (i:=4) ‹_› rfl rfl rfl hp2 rfl (by omega) (by omega) (by simp) (by omega) (by omega) (fun p9 v9 bs9 k9 m9 hp9 hb9 hk9 hl9 oq=>?_);have o9:Own B [box b [p9,v9,.int .i64 k9] 58,row v9 5 1 bs9.length (bytes bs9),box b50 [.int .i64 2,.string ⟨⟨tb⟩⟩,.slice e3 ks.length f3,.slice e1 cs.length f1,.slice e2 ns.length f2,.string ⟨⟨a⟩⟩,.string ⟨⟨s⟩⟩,.int .i64 g,.int .i64 z] 42,box b201 [.int .i64 0,.string ⟨⟨tb⟩⟩,.slice none 0 0,.slice none 0 0,.slice e2 ns.length f2,.string ⟨⟨a⟩⟩,.string ⟨⟨s⟩⟩,.int .i64 g,.int .i64 0] 42] m9:=oq;clear oq;refine run (fA aO rfl rfl rfl ?_);refine run (aBx o9 3 rfl aN rfl rfl ?_);refine Br.dec (fun c982=>?_) (fun c982=>?_);refine run (fA aO rfl rfl rfl ?_)
    refine run (aBx o9 3 rfl nM rfl rfl ?_);refine run (aBH rfl mZ ?_);refine Br.tt ?_;refine run (fA aO rfl rfl rfl ?_);refine run (aBx o9 3 rfl eZ rfl rfl ?_);refine run (aBH rfl aH ?_);refine Br.dec (fun c989=>?_) (fun c989=>?_);refine run (fA aO rfl rfl rfl ?_);refine run (aBx o9 3 rfl aN rfl rfl ?_);refine Br.dec (fun c992=>?_) (fun c992=>?_);refine run (fA aO rfl rfl rfl ?_);refine run (aBx o9 3 rfl aN rfl rfl ?_);refine Br.dec (fun c995=>?_) (fun c995=>?_);refine run (fA aO rfl rfl rfl ?_);refine run (aBx o9 3 rfl aW rfl rfl ?_)
    any_goals (refine MEnds.aBC (B:=B) ‹_› (aC false _) (fun e8 m8 _ oq=>by cases e8) fun e8 m8 oq=>?_;exact⟨hexQ.trans (if_neg fun hb=>by obtain⟨x0,x1,x2,x3,x4⟩:=hB.1 hb;first|contradiction|omega),rfl,oq⟩)
    refine MEnds.aBC (B:=B) ‹_› (aC _ _) (fun e8 m8 _ oq=>?_) fun e8 m8 oq=>?_
    case refine_2 =>
     have e8:=of_decide_eq_false e8
     exact⟨hexQ.trans (if_neg fun hb=>by obtain⟨x0,x1,x2,x3,x4⟩:=hB.1 hb;omega),rfl,oq⟩
    have e8:=of_decide_eq_true e8;have hbare:=hB.2 ⟨by assumption,by omega,by assumption,by assumption,by omega⟩;refine RetVC.one rfl ?_;exact XEnds.done (ps:=[aG be opw,aP [] [40]]++(ps++(ps2++([aP [] [41]]++[])))) (hexQ.trans (by rw[if_pos hbare];simp only[hQ,hR,aF,oMS])) (oq.sel [0,1] rfl) hp9 (by rw[hb9,hb2,hb',hb1];simp[bE,fR,wr,aG,aP]) (by rw[hk9,hk2',hk',hk1];simp;omega) (by omega) (by omega)
   by_cases hk3x:kd=3
   ·exact(by omega:False).elim
   by_cases hk7x:kd=7
   ·exact(by omega:False).elim
   by_cases hk8x:kd=8
   ·exact(by omega:False).elim
   exact(by omega:False).elim
theorem prExpr_c3 (b n:Nat)(hIH:zP b n)(kd:Int)(tb:List UInt8)(ks:List Ex)(cs:List Cnd)(ns:List (List UInt8))(a s:List UInt8)(g:Int)(off:Nat)(hcls:kd=3)(B:Base)(c:List Value)(be:List UInt8)(lev:Int)(p v:Value)(k:Int)(bs:List UInt8)(h:Heap)(hd:iD (.mk kd tb ks cs ns a s g off)≤n+1)(hOK:gR (.mk kd tb ks cs ns a s g off))(hc:lM B.h c (.mk kd tb ks cs ns a s g off))(hp:cN b p)(hbe:be=[]∨be=[32])(hlev:0≤lev∧lev+cC (.mk kd tb ks cs ns a s g off)≤1000000000000)(hT:iQ B.h)(hF:fW B.h)
  (o:Own B [box b [p,v,.int .i64 k] 58,row v 5 1 bs.length (bytes bs)] h) (hl:bs.length+2000*eU (.mk kd tb ks cs ns a s g off)≤50000000000000) (hk:0≤k∧k+2000*eU (.mk kd tb ks cs ns a s g off)≤50000000000000) :
  Spec Tryz.prog 128 [.pointer (some ⟨b,0,none⟩),.string ⟨⟨be⟩⟩,.agg ⟨c⟩,.int .i64 lev] h (XEnds B b bs k (2000*eU (.mk kd tb ks cs ns a s g off)) (gJ be (.mk kd tb ks cs ns a s g off)) (lev+cC (.mk kd tb ks cs ns a s g off) - 1)):=by
  rw[iD]at hd
  rw[gR]at hOK
  rw[lM]at hc
  rw[eU]at hl hk ⊢
  rw[cC]at hlev ⊢
  rw[show lev+((cI ks+1:Nat):Int) - 1=lev+cI ks by omega]
  obtain⟨bk,btb,bks,bcs,bns,ba,bs_,bg,lk,lc,ln⟩:=hOK
  obtain⟨vk,vc,vn,z,rfl,q1,q2,xs,q3,rk⟩:=hc
  rw[jH]at q2
  obtain⟨e1,f1,rfl⟩:=q1.isS
  obtain⟨e2,f2,rfl⟩:=q2.isS
  obtain⟨e3,f3,rfl⟩:=q3.isS
  unfold qS;have hxs:xs.length=ks.length:=mK rk;have hbel:be.length≤1:=by rcases hbe with rfl|rfl<;>simp
  refine Spec.enter Tryz.func128 rfl Tryz.ntmps128 (by kernel_rfl) ?_;by_cases hkd:1≤kd∧kd≤8
  case neg =>
   exact(by omega:False).elim
  have hfa:=nV hF kd hkd.1 hkd.2;have hf1:=hfa.1;(refine RunVC.aBS o rfl ?_;intro b50 m50 o50);refine DrawVC.intro [0,2,3,4,6,7,8,9,11,12,14,15,17,18] [1,5,10,13,16] [19] [0,1,2,3,4,5,6,7,8,9,10,11,12,13,14,15,16,17,18,19] mixed (by kernel_rfl) rfl (fun _ _ _ _ h=>h) ?_;refine fA aO rfl rfl rfl ?_;refine aBx o50 2 rfl aW rfl rfl ?_;refine Br.dec (fun c53=>?_) (fun hc=>absurd (by omega) hc);refine fA aO rfl rfl rfl ?_;refine aBx o50 2 rfl aW rfl rfl ?_;refine Br.dec (fun c56=>?_) (fun hc=>absurd (by omega) hc);refine fA aO rfl rfl rfl ?_;refine aBx o50 2 rfl cX rfl rfl ?_;refine aBH rfl bY ?_;refine fA aO rfl rfl rfl ?_;refine aBx o50 2 rfl aW rfl rfl ?_;refine aBP Tryz.underlying195 pB rfl rfl (by omega) (by omega) ?_;refine fA pR rfl rfl rfl ?_;refine load1 aW rfl (o50.old hf1) ?_;refine MEnds.aBC ‹_› (aC _ _) (fun e1 m2 oc oq=>?_) fun e1 m2 oq=>?_
  case refine_2 =>
   have e1:=of_decide_eq_false e1;have hq:gJ be (.mk kd tb ks cs ns a s g off)=none:=by rw[gJ,if_neg (fun h=>e1 (by rw[h.2.2.1]))]
   exact⟨hq,rfl,oq⟩
  have hkl:ks.length=gD kd:=by have:=of_decide_eq_true e1;omega
  clear e1 oc;by_cases hkone:kd=1
  ·exact(by omega:False).elim
  ·have hexQ:gJ be (.mk kd tb ks cs ns a s g off)=if eP kd tb cs ns a s g=true then aF [some [aG be (dB.getD (kd - 2).toNat []),aP [] [40]],cT (dV gJ) ks,dR kd cs ns a s g,some [aP [] [41]]] else none:=by
    rw[gJ]
    by_cases hb:eP kd tb cs ns a s g=true
    ·rw[if_pos ⟨hkd.1,hkd.2,hkl,hb⟩,if_neg hkone,if_pos hb,mH]
    ·rw[if_neg (fun h=>hb h.2.2.2),if_neg hb]
   have hf2:=hfa.2 hkone;have hol:=xW (kd - 2).toNat;generalize dB.getD (kd - 2).toNat []=opw at hexQ hf2 hol;clear hfa;refine run (aBB oq 2 rfl aT rfl rfl rfl ?_);(refine RunVC.alloc oq aT ?_;intro b201 m201 o201);(refine RunVC.aBA o201 3 rfl aT rfl (by decide) (aI ⟨rfl,rfl⟩ ?_);intro m202 o202);refine run (fA aO rfl rfl rfl ?_);(refine RunVC.store o202 3 rfl aW rfl (by simp) (aI ⟨rfl,rfl⟩ ?_);intro m204 o204);refine run (fA aO rfl rfl rfl ?_);(refine RunVC.store o204 3 rfl cX rfl (by simp) (aI ⟨rfl,rfl⟩ ?_);intro m206 o206);refine run (fA aO rfl rfl rfl ?_);(refine RunVC.store o206 3 rfl aW rfl (by simp) (aI ⟨rfl,rfl⟩ ?_);intro m208 o208);refine run (fA aO rfl rfl rfl ?_);refine run (aBx o208 2 rfl aW rfl rfl ?_);refine Br.dec (fun hc=>absurd hc (by omega)) (fun c211=>?_);refine DrawVC.intro [0,1,2,3,4,6,7,9] [5,8] [10,11] [0,1,2,3,4,5,6,7,8,9,10,11] mixed (by kernel_rfl) rfl (fun _ _ _ _ h=>h) ?_;refine nC rfl ?_;refine fA bM rfl rfl rfl ?_;refine fA aO rfl rfl rfl ?_;refine aBx o208 2 rfl aW rfl rfl ?_;refine aBP Tryz.underlying195 pB rfl rfl (by omega) (by omega) ?_;refine fA pR rfl rfl rfl ?_;refine load1 aN rfl (o208.old hf2) ?_;refine aBF rfl rfl (by first|omega|(simp;omega)) ?_;(refine RunVC.lit o208 aH aN rfl rfl (by decide) (aI rfl ?_);intro b220 m220 o220);refine aE [be++opw,[40]] 2 30 [2,3] (i:=4) ‹_› rfl rfl rfl hp rfl (by omega) (by omega) (by simp;omega) (by omega) (by omega) (fun p1 v1 bs1 k1 m1 hp1 hb1 hk1 hl1 oq=>?_);have o4:Own B [box b [p1,v1,.int .i64 k1] 58,row v1 5 1 bs1.length (bytes bs1),box b50 [.int .i64 kd,.string ⟨⟨tb⟩⟩,.slice e3 ks.length f3,.slice e1 cs.length f1,.slice e2 ns.length f2,.string ⟨⟨a⟩⟩,.string ⟨⟨s⟩⟩,.int .i64 g,.int .i64 z] 42,box b201 [.int .i64 0,.string ⟨⟨tb⟩⟩,.slice none 0 0,.slice e1 cs.length f1,.slice e2 ns.length f2,.string ⟨⟨a⟩⟩,.string ⟨⟨s⟩⟩,.int .i64 g,.int .i64 0] 42] m1:=oq
   clear oq;refine run (fA aO rfl rfl rfl ?_);refine run (aBx o4 2 rfl cX rfl rfl ?_);refine run (aBH rfl bY ?_);refine LoopVC.intro [10,11,12,67,68,69,70,71,72,73,74,75,76,77,78,79,80,81,82,83,84,85,86,87,88,89,90] [10,67] (fun vs' hh=>∃(i:Nat) (p' v':Value) (bs':List UInt8) (k':Int) (ps:List Pc),i≤ks.length∧vs'=[.int .i64 (lev+cI (ks.take i)),.int .i64 i]∧cN b p'∧cT (dV gJ) (ks.take i)=some ps∧bs'=bs1++bE ps∧k'=k1+ps.length∧bs'.length≤bs1.length+(2000*eW (ks.take i)+30*i)∧k'≤k1+(2000*eW (ks.take i)+30*i)∧Own B [box b [p',v',.int .i64 k'] 58,row v' 5 1 bs'.length (bytes bs'),box b50 [.int .i64 kd,.string ⟨⟨tb⟩⟩,.slice e3 ks.length f3,.slice e1 cs.length f1,.slice e2 ns.length f2,.string ⟨⟨a⟩⟩,.string ⟨⟨s⟩⟩,.int .i64 g,.int .i64 z] 42,box b201 [.int .i64 0,.string ⟨⟨tb⟩⟩,.slice none 0 0,.slice e1 cs.length f1,.slice e2 ns.length f2,.string ⟨⟨a⟩⟩,.string ⟨⟨s⟩⟩,.int .i64 g,.int .i64 0] 42] hh) (fun vs' _=>match vs' with|[_,.int _ i]=>ks.length - i.toNat|_=>0) ?_ ?_
   ·exact⟨0,p1,v1,bs1,k1,[],by omega,by simp[cI],hp1,rfl,by simp[bE],by simp,by omega,by omega,o4⟩
   rintro vs' junk hh ⟨i,p',v',bs',k',ps,hi,rfl,hp',hQ,hb',hk',hl',hk2,oh⟩;clear o4;have hk2s:ks.length≤2:=by rw[hkl];unfold gD;split<;>(try split)<;>omega
   have hszl:=dY ks i;by_cases hlt:i<ks.length
   ·obtain⟨kx,hkx⟩:=getx hlt
    obtain⟨cx,hcx,hrx⟩:=kW rk hkx
    have hdx:=iB hkx;have hsz:=kH hkx;have hszl2:=dY ks (i+1);have hlv:=jM hkx;have hlvl:cC kx≤cI ks:=kI hkx;have hlp:=nW kx;have hxOK:=jL bks hkx;have hrx2:=hrx
    obtain⟨cxv,hcl⟩:=cx
    obtain⟨xk,xt,xks,xcs,xns,xa,xs_,xg,xo⟩:=kx
    rw[lM]at hrx2
    obtain⟨wk,wc,wn,wz,hcv,g1,g2,gx,g3,_⟩:=hrx2
    obtain⟨h1,h2,rfl⟩:=g1.isS
    obtain⟨h3,h4,rfl⟩:=g2.isS
    obtain⟨h5,h6,rfl⟩:=g3.isS
    dsimp only at hcv hrx;subst hcv;unfold qS at hcx hrx hcl;clear g1 g2 g3;by_cases h0:i=0
    ·subst h0
     refine Br.dec (fun c400=>?_) (fun hc=>absurd (by omega) hc);refine run (aBJ bY aT (q3.ext oh.ext) rfl (by omega) (by omega) ?_);refine run (aBN aT (q3.ext oh.ext) (fun y:cV=>y.2) (by decide) rfl ‹_› ?_);(refine RunVC.alloc oh aT ?_;intro b403 m403 o403);(refine RunVC.aBA o403 4 rfl aT rfl (by decide) (aI ⟨rfl,rfl⟩ ?_);intro m404 o404);refine Br.ff ?_;refine DrawVC.intro [0,1,3,4,7,8,10,11] [5,6] [9] [0,1,3,6,7,8,2,4,5,9,10,11] mixed (by kernel_rfl) rfl (fun _ _ _ _ h=>h) ?_;refine aBB o404 4 rfl aT rfl rfl rfl ?_;refine Ar.i64 (by omega) (by omega) ?_;(refine RunVC.lit (Own.refl _) aH aN rfl rfl (by decide) (aI rfl ?_);intro b406 m406 o406);(refine aI o406.ext ?_;have o407:=Own.call o404 o406;simp only[lcA,lnA]at o407;clear o406);refine idxB o407 5 rfl aH aN rfl rfl (by omega) (by first|omega|(simp;omega)) ?_;refine aBx o407 5 rfl aN rfl rfl ?_;refine XEnds.callJ [2,3] ‹_› rfl rfl (fun J oj=>hIH _ _ _ [] _ p' v' k' bs' _ (Nat.le_trans hdx (by omega)) hxOK hrx hp' (.inl rfl) (by omega) hT hF oj (by omega) (by omega)) (fun ps2 p2 v2 bs2 k2 m2 hq2 hp2 hb2 hk2' hl2 _ hj2 oq=>?_) (fun m2 hq2 oq=>?_)
     case refine_2 =>
      have:cT (dV gJ) ks=none:=aR hkx hQ hq2
      exact⟨hexQ.trans (by split;simp only[this,aF,oMN];rfl),rfl,oq⟩
     have o5:Own B [box b [p2,v2,.int .i64 k2] 58,row v2 5 1 bs2.length (bytes bs2),box b50 [.int .i64 kd,.string ⟨⟨tb⟩⟩,.slice e3 ks.length f3,.slice e1 cs.length f1,.slice e2 ns.length f2,.string ⟨⟨a⟩⟩,.string ⟨⟨s⟩⟩,.int .i64 g,.int .i64 z] 42,box b201 [.int .i64 0,.string ⟨⟨tb⟩⟩,.slice none 0 0,.slice e1 cs.length f1,.slice e2 ns.length f2,.string ⟨⟨a⟩⟩,.string ⟨⟨s⟩⟩,.int .i64 g,.int .i64 0] 42] m2:=oq;clear oq;refine max2 rfl rfl ?_;refine Ar.i64 (by omega) (by omega) ?_
     refine⟨rfl,?_⟩
     refine⟨⟨0+1,p2,v2,bs2,k2,ps++ps2,by omega,?_,hp2,aZ hkx hQ hq2,by rw[hb2,hb'];simp[bE],by rw[hk2',hk'];simp;omega,by omega,by omega,Own.sel ‹_› [0,1,2,3] rfl⟩,by simp;omega⟩
     congr 2
     omega
    ·obtain rfl:i=1:=by omega
     refine Br.dec (fun c500=>?_) (fun hc=>absurd (by omega) hc);refine run (aBJ bY aT (q3.ext oh.ext) rfl (by omega) (by omega) ?_);refine run (aBN aT (q3.ext oh.ext) (fun y:cV=>y.2) (by decide) rfl ‹_› ?_);(refine RunVC.alloc oh aT ?_;intro b503 m503 o503);(refine RunVC.aBA o503 4 rfl aT rfl (by decide) (aI ⟨rfl,rfl⟩ ?_);intro m504 o504);refine Br.tt ?_;refine run (nC rfl ?_);refine run (fA bM rfl rfl rfl ?_);(refine RunVC.lit o504 aH aN rfl rfl (by decide) (aI rfl ?_);intro b507 m507 o507);refine aE [[44]] 1 30 [2,3,4] (i:=5) ‹_› rfl rfl rfl hp' rfl (by omega) (by omega) (by simp) (by omega) (by omega) (fun p3 v3 bs3 k3 m3 hp3 hb3 hk3 hl3 oq=>?_);have o5:=oq
     simp only[pick,lgS,lgZ]at o5
     clear oq oh;refine DrawVC.intro [0,1,3,4,7,8,10,11] [5,6] [9] [0,1,3,6,7,8,2,4,5,9,10,11] mixed (by kernel_rfl) rfl (fun _ _ _ _ h=>h) ?_;refine aBB o5 4 rfl aT rfl rfl rfl ?_;refine Ar.i64 (by omega) (by omega) ?_;(refine RunVC.lit (Own.refl _) aH aN rfl rfl (by decide) (aI rfl ?_);intro b551 m551 o551);(refine aI o551.ext ?_;have o552:=Own.call o5 o551;simp only[lcA,lnA]at o552;clear o551);refine idxB o552 5 rfl aH aN rfl rfl (by omega) (by first|omega|(simp;omega)) ?_;refine aBx o552 5 rfl aN rfl rfl ?_;refine XEnds.callJ [2,3] ‹_› rfl rfl (fun J oj=>hIH _ _ _ [32] _ p3 v3 k3 bs3 _ (Nat.le_trans hdx (by omega)) hxOK hrx hp3 (.inr rfl) (by omega) hT hF oj (by omega) (by omega)) (fun ps2 p2 v2 bs2 k2 m2 hq2 hp2 hb2 hk2' hl2 _ hj2 oq=>?_) (fun m2 hq2 oq=>?_)
     case refine_2 =>
      have:cT (dV gJ) ks=none:=aR hkx hQ (by unfold dV;rw[if_neg (by decide),hq2];rfl)
      exact⟨hexQ.trans (by split;simp only[this,aF,oMN];rfl),rfl,oq⟩
     have o6:Own B [box b [p2,v2,.int .i64 k2] 58,row v2 5 1 bs2.length (bytes bs2),box b50 [.int .i64 kd,.string ⟨⟨tb⟩⟩,.slice e3 ks.length f3,.slice e1 cs.length f1,.slice e2 ns.length f2,.string ⟨⟨a⟩⟩,.string ⟨⟨s⟩⟩,.int .i64 g,.int .i64 z] 42,box b201 [.int .i64 0,.string ⟨⟨tb⟩⟩,.slice none 0 0,.slice e1 cs.length f1,.slice e2 ns.length f2,.string ⟨⟨a⟩⟩,.string ⟨⟨s⟩⟩,.int .i64 g,.int .i64 0] 42] m2:=oq;clear oq;refine max2 rfl rfl ?_;refine Ar.i64 (by omega) (by omega) ?_
     refine⟨rfl,?_⟩
     refine⟨⟨1+1,p2,v2,bs2,k2,ps++(aP [] [44]::ps2),by omega,?_,hp2,aZ hkx hQ (by unfold dV;rw[if_neg (by decide),hq2];rfl),by rw[hb2,hb3,hb'];simp[bE,fR,wr,aP],by rw[hk2',hk3,hk'];simp;omega,by omega,by omega,Own.sel ‹_› [0,1,2,3] rfl⟩,by simp;omega⟩
     congr 2
     omega
   have hQ:=fO (Nat.le_of_not_lt hlt) hQ
   rw[List.take_of_length_le (Nat.le_of_not_lt hlt)]at hl' hk2 ⊢
   by_cases hk2x:kd=2
   ·exact(by omega:False).elim
   by_cases hk3x:kd=3
   ·subst hk3x
    have hB:eP 3 tb cs ns a s g=true↔tb=[]∧cs.length=0∧a=[]∧s=[]∧g=0:=by simp[eP]
    have hRe:dR 3 cs ns a s g=aF [some [aG [32] [111,110]],iV bG [32] ns]:=rfl;refine Br.dec (fun hc=>absurd hc (by omega)) (fun c1100=>?_);refine run (fA aO rfl rfl rfl ?_);refine run (aBx oh 2 rfl aW rfl rfl ?_);refine Br.ff ?_;refine Br.ff ?_;refine Br.tt ?_;refine run (nC rfl ?_);refine run (fA bM rfl rfl rfl ?_);(refine RunVC.lit oh aH aN rfl rfl (by decide) (aI rfl ?_);intro b1105 m1105 o1105);refine aE [[32,111,110]] 1 30 [2,3] (i:=4) ‹_› rfl rfl rfl hp' rfl (by omega) (by omega) (by simp) (by omega) (by omega) (fun p2 v2 bs2 k2 m2 hp2 hb2 hk2' hl2 oq=>?_);have o6:Own B [box b [p2,v2,.int .i64 k2] 58,row v2 5 1 bs2.length (bytes bs2),box b50 [.int .i64 3,.string ⟨⟨tb⟩⟩,.slice e3 ks.length f3,.slice e1 cs.length f1,.slice e2 ns.length f2,.string ⟨⟨a⟩⟩,.string ⟨⟨s⟩⟩,.int .i64 g,.int .i64 z] 42,box b201 [.int .i64 0,.string ⟨⟨tb⟩⟩,.slice none 0 0,.slice e1 cs.length f1,.slice e2 ns.length f2,.string ⟨⟨a⟩⟩,.string ⟨⟨s⟩⟩,.int .i64 g,.int .i64 0] 42] m2:=oq;clear oq oh;refine run (fA aO rfl rfl rfl ?_);refine run (aBx o6 2 rfl eZ rfl rfl ?_);refine WEnds.callJ [2,3] ‹_› rfl rfl (fun J oj=>lJ ⟨B.h,J++B.T⟩ b p2 v2 k2 bs2 [32] ns _ _ hp2 (fun L h o=>(q2.ext (Own.ext (B:=⟨B.h,J++B.T⟩) o)).to1) oj (by omega) bns (by omega) (by omega) (.inr rfl)) (fun ps3 p3 v3 bs3 k3 m3 hq3 hp3 hb3 hk3' hl3 _ hj3 oq=>?_) (fun m3 hq3 oq=>?_)
    case refine_2 =>
     have hR:dR 3 cs ns a s g=none:=by rw[hRe];simp only[hq3,aF,oMN]
     exact⟨hexQ.trans (by split;simp only[hQ,hR,aF,oMN,oMS];rfl),rfl,oq⟩
    have o7:Own B [box b [p3,v3,.int .i64 k3] 58,row v3 5 1 bs3.length (bytes bs3),box b50 [.int .i64 3,.string ⟨⟨tb⟩⟩,.slice e3 ks.length f3,.slice e1 cs.length f1,.slice e2 ns.length f2,.string ⟨⟨a⟩⟩,.string ⟨⟨s⟩⟩,.int .i64 g,.int .i64 z] 42,box b201 [.int .i64 0,.string ⟨⟨tb⟩⟩,.slice none 0 0,.slice e1 cs.length f1,.slice e2 ns.length f2,.string ⟨⟨a⟩⟩,.string ⟨⟨s⟩⟩,.int .i64 g,.int .i64 0] 42] m3:=oq;clear oq o6;have hR:dR 3 cs ns a s g=some ([aG [32] [111,110]]++(ps3++[])):=by rw[hRe];simp only[hq3,aF,oMS]
    refine run (fA aO rfl rfl rfl ?_);(refine RunVC.store o7 3 rfl eZ rfl (by simp) (aI ⟨rfl,rfl⟩ ?_);intro m1221 o1221);refine run (fA aO rfl rfl rfl ?_);refine run (aBx o1221 2 rfl aW rfl rfl ?_);refine Br.tt ?_;refine run (nC rfl ?_);refine run (fA bM rfl rfl rfl ?_);(refine RunVC.lit o1221 aH aN rfl rfl (by decide) (aI rfl ?_);intro b1226 m1226 o1226);refine aE [[41]] 1 30 [2,3] (i:=4) ‹_› rfl rfl rfl hp3 rfl (by omega) (by omega) (by simp) (by omega) (by omega) (fun p9 v9 bs9 k9 m9 hp9 hb9 hk9 hl9 oq=>?_);have o9:Own B [box b [p9,v9,.int .i64 k9] 58,row v9 5 1 bs9.length (bytes bs9),box b50 [.int .i64 3,.string ⟨⟨tb⟩⟩,.slice e3 ks.length f3,.slice e1 cs.length f1,.slice e2 ns.length f2,.string ⟨⟨a⟩⟩,.string ⟨⟨s⟩⟩,.int .i64 g,.int .i64 z] 42,box b201 [.int .i64 0,.string ⟨⟨tb⟩⟩,.slice none 0 0,.slice e1 cs.length f1,.slice none 0 0,.string ⟨⟨a⟩⟩,.string ⟨⟨s⟩⟩,.int .i64 g,.int .i64 0] 42] m9:=oq;clear oq;refine run (fA aO rfl rfl rfl ?_);refine run (aBx o9 3 rfl aN rfl rfl ?_);refine Br.dec (fun c1282=>?_) (fun c1282=>?_);refine run (fA aO rfl rfl rfl ?_);refine run (aBx o9 3 rfl nM rfl rfl ?_);refine run (aBH rfl mZ ?_);refine Br.dec (fun c1286=>?_) (fun c1286=>?_);refine run (fA aO rfl rfl rfl ?_);refine run (aBx o9 3 rfl eZ rfl rfl ?_);refine run (aBH rfl aH ?_);refine Br.tt ?_;refine run (fA aO rfl rfl rfl ?_);refine run (aBx o9 3 rfl aN rfl rfl ?_);refine Br.dec (fun c1292=>?_) (fun c1292=>?_);refine run (fA aO rfl rfl rfl ?_);refine run (aBx o9 3 rfl aN rfl rfl ?_);refine Br.dec (fun c1295=>?_) (fun c1295=>?_)
    refine run (fA aO rfl rfl rfl ?_);refine run (aBx o9 3 rfl aW rfl rfl ?_)
    any_goals (refine MEnds.aBC (B:=B) ‹_› (aC false _) (fun e8 m8 _ oq=>by cases e8) fun e8 m8 oq=>?_;exact⟨hexQ.trans (if_neg fun hb=>by obtain⟨x0,x1,x2,x3,x4⟩:=hB.1 hb;first|contradiction|omega),rfl,oq⟩)
    refine MEnds.aBC (B:=B) ‹_› (aC _ _) (fun e8 m8 _ oq=>?_) fun e8 m8 oq=>?_
    case refine_2 =>
     have e8:=of_decide_eq_false e8
     exact⟨hexQ.trans (if_neg fun hb=>by obtain⟨x0,x1,x2,x3,x4⟩:=hB.1 hb;omega),rfl,oq⟩
    have e8:=of_decide_eq_true e8;have hbare:=hB.2 ⟨by assumption,by omega,by assumption,by assumption,by omega⟩;refine RetVC.one rfl ?_;exact XEnds.done (ps:=[aG be opw,aP [] [40]]++(ps++(([aG [32] [111,110]]++(ps3++[]))++([aP [] [41]]++[])))) (hexQ.trans (by rw[if_pos hbare];simp only[hQ,hR,aF,oMS])) (oq.sel [0,1] rfl) hp9 (by rw[hb9,hb3,hb2,hb',hb1];simp[bE,fR,wr,aG,aP]) (by rw[hk9,hk3',hk2',hk',hk1];simp;omega) (by omega) (by omega)
   by_cases hk7x:kd=7
   ·exact(by omega:False).elim
   by_cases hk8x:kd=8
   ·exact(by omega:False).elim
   exact(by omega:False).elim
theorem prExpr_c7 (b n:Nat)(hIH:zP b n)(kd:Int)(tb:List UInt8)(ks:List Ex)(cs:List Cnd)(ns:List (List UInt8))(a s:List UInt8)(g:Int)(off:Nat)(hcls:kd=7)(B:Base)(c:List Value)(be:List UInt8)(lev:Int)(p v:Value)(k:Int)(bs:List UInt8)(h:Heap)(hd:iD (.mk kd tb ks cs ns a s g off)≤n+1)(hOK:gR (.mk kd tb ks cs ns a s g off))(hc:lM B.h c (.mk kd tb ks cs ns a s g off))(hp:cN b p)(hbe:be=[]∨be=[32])(hlev:0≤lev∧lev+cC (.mk kd tb ks cs ns a s g off)≤1000000000000)(hT:iQ B.h)(hF:fW B.h)
  (o:Own B [box b [p,v,.int .i64 k] 58,row v 5 1 bs.length (bytes bs)] h) (hl:bs.length+2000*eU (.mk kd tb ks cs ns a s g off)≤50000000000000) (hk:0≤k∧k+2000*eU (.mk kd tb ks cs ns a s g off)≤50000000000000) :
  Spec Tryz.prog 128 [.pointer (some ⟨b,0,none⟩),.string ⟨⟨be⟩⟩,.agg ⟨c⟩,.int .i64 lev] h (XEnds B b bs k (2000*eU (.mk kd tb ks cs ns a s g off)) (gJ be (.mk kd tb ks cs ns a s g off)) (lev+cC (.mk kd tb ks cs ns a s g off) - 1)):=by
  rw[iD]at hd
  rw[gR]at hOK
  rw[lM]at hc
  rw[eU]at hl hk ⊢
  rw[cC]at hlev ⊢
  rw[show lev+((cI ks+1:Nat):Int) - 1=lev+cI ks by omega]
  obtain⟨bk,btb,bks,bcs,bns,ba,bs_,bg,lk,lc,ln⟩:=hOK
  obtain⟨vk,vc,vn,z,rfl,q1,q2,xs,q3,rk⟩:=hc
  rw[jH]at q2
  obtain⟨e1,f1,rfl⟩:=q1.isS
  obtain⟨e2,f2,rfl⟩:=q2.isS
  obtain⟨e3,f3,rfl⟩:=q3.isS
  unfold qS;have hxs:xs.length=ks.length:=mK rk;have hbel:be.length≤1:=by rcases hbe with rfl|rfl<;>simp
  refine Spec.enter Tryz.func128 rfl Tryz.ntmps128 (by kernel_rfl) ?_;by_cases hkd:1≤kd∧kd≤8
  case neg =>
   exact(by omega:False).elim
  have hfa:=nV hF kd hkd.1 hkd.2;have hf1:=hfa.1;(refine RunVC.aBS o rfl ?_;intro b50 m50 o50);refine DrawVC.intro [0,2,3,4,6,7,8,9,11,12,14,15,17,18] [1,5,10,13,16] [19] [0,1,2,3,4,5,6,7,8,9,10,11,12,13,14,15,16,17,18,19] mixed (by kernel_rfl) rfl (fun _ _ _ _ h=>h) ?_;refine fA aO rfl rfl rfl ?_;refine aBx o50 2 rfl aW rfl rfl ?_;refine Br.dec (fun c53=>?_) (fun hc=>absurd (by omega) hc);refine fA aO rfl rfl rfl ?_;refine aBx o50 2 rfl aW rfl rfl ?_;refine Br.dec (fun c56=>?_) (fun hc=>absurd (by omega) hc);refine fA aO rfl rfl rfl ?_;refine aBx o50 2 rfl cX rfl rfl ?_;refine aBH rfl bY ?_;refine fA aO rfl rfl rfl ?_;refine aBx o50 2 rfl aW rfl rfl ?_;refine aBP Tryz.underlying195 pB rfl rfl (by omega) (by omega) ?_;refine fA pR rfl rfl rfl ?_;refine load1 aW rfl (o50.old hf1) ?_;refine MEnds.aBC ‹_› (aC _ _) (fun e1 m2 oc oq=>?_) fun e1 m2 oq=>?_
  case refine_2 =>
   have e1:=of_decide_eq_false e1;have hq:gJ be (.mk kd tb ks cs ns a s g off)=none:=by rw[gJ,if_neg (fun h=>e1 (by rw[h.2.2.1]))]
   exact⟨hq,rfl,oq⟩
  have hkl:ks.length=gD kd:=by have:=of_decide_eq_true e1;omega
  clear e1 oc;by_cases hkone:kd=1
  ·exact(by omega:False).elim
  ·have hexQ:gJ be (.mk kd tb ks cs ns a s g off)=if eP kd tb cs ns a s g=true then aF [some [aG be (dB.getD (kd - 2).toNat []),aP [] [40]],cT (dV gJ) ks,dR kd cs ns a s g,some [aP [] [41]]] else none:=by
    rw[gJ]
    by_cases hb:eP kd tb cs ns a s g=true
    ·rw[if_pos ⟨hkd.1,hkd.2,hkl,hb⟩,if_neg hkone,if_pos hb,mH]
    ·rw[if_neg (fun h=>hb h.2.2.2),if_neg hb]
   have hf2:=hfa.2 hkone;have hol:=xW (kd - 2).toNat;generalize dB.getD (kd - 2).toNat []=opw at hexQ hf2 hol;clear hfa;refine run (aBB oq 2 rfl aT rfl rfl rfl ?_);(refine RunVC.alloc oq aT ?_;intro b201 m201 o201);(refine RunVC.aBA o201 3 rfl aT rfl (by decide) (aI ⟨rfl,rfl⟩ ?_);intro m202 o202);refine run (fA aO rfl rfl rfl ?_);(refine RunVC.store o202 3 rfl aW rfl (by simp) (aI ⟨rfl,rfl⟩ ?_);intro m204 o204);refine run (fA aO rfl rfl rfl ?_);(refine RunVC.store o204 3 rfl cX rfl (by simp) (aI ⟨rfl,rfl⟩ ?_);intro m206 o206);refine run (fA aO rfl rfl rfl ?_);(refine RunVC.store o206 3 rfl aW rfl (by simp) (aI ⟨rfl,rfl⟩ ?_);intro m208 o208);refine run (fA aO rfl rfl rfl ?_);refine run (aBx o208 2 rfl aW rfl rfl ?_);refine Br.dec (fun hc=>absurd hc (by omega)) (fun c211=>?_);refine DrawVC.intro [0,1,2,3,4,6,7,9] [5,8] [10,11] [0,1,2,3,4,5,6,7,8,9,10,11] mixed (by kernel_rfl) rfl (fun _ _ _ _ h=>h) ?_;refine nC rfl ?_;refine fA bM rfl rfl rfl ?_;refine fA aO rfl rfl rfl ?_;refine aBx o208 2 rfl aW rfl rfl ?_;refine aBP Tryz.underlying195 pB rfl rfl (by omega) (by omega) ?_;refine fA pR rfl rfl rfl ?_;refine load1 aN rfl (o208.old hf2) ?_;refine aBF rfl rfl (by first|omega|(simp;omega)) ?_;(refine RunVC.lit o208 aH aN rfl rfl (by decide) (aI rfl ?_);intro b220 m220 o220);refine aE [be++opw,[40]] 2 30 [2,3] (i:=4) ‹_› rfl rfl rfl hp rfl (by omega) (by omega) (by simp;omega) (by omega) (by omega) (fun p1 v1 bs1 k1 m1 hp1 hb1 hk1 hl1 oq=>?_);have o4:Own B [box b [p1,v1,.int .i64 k1] 58,row v1 5 1 bs1.length (bytes bs1),box b50 [.int .i64 kd,.string ⟨⟨tb⟩⟩,.slice e3 ks.length f3,.slice e1 cs.length f1,.slice e2 ns.length f2,.string ⟨⟨a⟩⟩,.string ⟨⟨s⟩⟩,.int .i64 g,.int .i64 z] 42,box b201 [.int .i64 0,.string ⟨⟨tb⟩⟩,.slice none 0 0,.slice e1 cs.length f1,.slice e2 ns.length f2,.string ⟨⟨a⟩⟩,.string ⟨⟨s⟩⟩,.int .i64 g,.int .i64 0] 42] m1:=oq
   clear oq;refine run (fA aO rfl rfl rfl ?_);refine run (aBx o4 2 rfl cX rfl rfl ?_);refine run (aBH rfl bY ?_);refine LoopVC.intro [10,11,12,67,68,69,70,71,72,73,74,75,76,77,78,79,80,81,82,83,84,85,86,87,88,89,90] [10,67] (fun vs' hh=>∃(i:Nat) (p' v':Value) (bs':List UInt8) (k':Int) (ps:List Pc),i≤ks.length∧vs'=[.int .i64 (lev+cI (ks.take i)),.int .i64 i]∧cN b p'∧cT (dV gJ) (ks.take i)=some ps∧bs'=bs1++bE ps∧k'=k1+ps.length∧bs'.length≤bs1.length+(2000*eW (ks.take i)+30*i)∧k'≤k1+(2000*eW (ks.take i)+30*i)∧Own B [box b [p',v',.int .i64 k'] 58,row v' 5 1 bs'.length (bytes bs'),box b50 [.int .i64 kd,.string ⟨⟨tb⟩⟩,.slice e3 ks.length f3,.slice e1 cs.length f1,.slice e2 ns.length f2,.string ⟨⟨a⟩⟩,.string ⟨⟨s⟩⟩,.int .i64 g,.int .i64 z] 42,box b201 [.int .i64 0,.string ⟨⟨tb⟩⟩,.slice none 0 0,.slice e1 cs.length f1,.slice e2 ns.length f2,.string ⟨⟨a⟩⟩,.string ⟨⟨s⟩⟩,.int .i64 g,.int .i64 0] 42] hh) (fun vs' _=>match vs' with|[_,.int _ i]=>ks.length - i.toNat|_=>0) ?_ ?_
   ·exact⟨0,p1,v1,bs1,k1,[],by omega,by simp[cI],hp1,rfl,by simp[bE],by simp,by omega,by omega,o4⟩
   rintro vs' junk hh ⟨i,p',v',bs',k',ps,hi,rfl,hp',hQ,hb',hk',hl',hk2,oh⟩;clear o4;have hk2s:ks.length≤2:=by rw[hkl];unfold gD;split<;>(try split)<;>omega
   have hszl:=dY ks i;by_cases hlt:i<ks.length
   ·obtain⟨kx,hkx⟩:=getx hlt
    obtain⟨cx,hcx,hrx⟩:=kW rk hkx
    have hdx:=iB hkx;have hsz:=kH hkx;have hszl2:=dY ks (i+1);have hlv:=jM hkx;have hlvl:cC kx≤cI ks:=kI hkx;have hlp:=nW kx;have hxOK:=jL bks hkx;have hrx2:=hrx
    obtain⟨cxv,hcl⟩:=cx
    obtain⟨xk,xt,xks,xcs,xns,xa,xs_,xg,xo⟩:=kx
    rw[lM]at hrx2
    obtain⟨wk,wc,wn,wz,hcv,g1,g2,gx,g3,_⟩:=hrx2
    obtain⟨h1,h2,rfl⟩:=g1.isS
    obtain⟨h3,h4,rfl⟩:=g2.isS
    obtain⟨h5,h6,rfl⟩:=g3.isS
    dsimp only at hcv hrx;subst hcv;unfold qS at hcx hrx hcl;clear g1 g2 g3;by_cases h0:i=0
    ·subst h0
     refine Br.dec (fun c400=>?_) (fun hc=>absurd (by omega) hc);refine run (aBJ bY aT (q3.ext oh.ext) rfl (by omega) (by omega) ?_);refine run (aBN aT (q3.ext oh.ext) (fun y:cV=>y.2) (by decide) rfl ‹_› ?_);(refine RunVC.alloc oh aT ?_;intro b403 m403 o403);(refine RunVC.aBA o403 4 rfl aT rfl (by decide) (aI ⟨rfl,rfl⟩ ?_);intro m404 o404);refine Br.ff ?_;refine DrawVC.intro [0,1,3,4,7,8,10,11] [5,6] [9] [0,1,3,6,7,8,2,4,5,9,10,11] mixed (by kernel_rfl) rfl (fun _ _ _ _ h=>h) ?_;refine aBB o404 4 rfl aT rfl rfl rfl ?_;refine Ar.i64 (by omega) (by omega) ?_;(refine RunVC.lit (Own.refl _) aH aN rfl rfl (by decide) (aI rfl ?_);intro b406 m406 o406);(refine aI o406.ext ?_;have o407:=Own.call o404 o406;simp only[lcA,lnA]at o407;clear o406);refine idxB o407 5 rfl aH aN rfl rfl (by omega) (by first|omega|(simp;omega)) ?_;refine aBx o407 5 rfl aN rfl rfl ?_;refine XEnds.callJ [2,3] ‹_› rfl rfl (fun J oj=>hIH _ _ _ [] _ p' v' k' bs' _ (Nat.le_trans hdx (by omega)) hxOK hrx hp' (.inl rfl) (by omega) hT hF oj (by omega) (by omega)) (fun ps2 p2 v2 bs2 k2 m2 hq2 hp2 hb2 hk2' hl2 _ hj2 oq=>?_) (fun m2 hq2 oq=>?_)
     case refine_2 =>
      have:cT (dV gJ) ks=none:=aR hkx hQ hq2
      exact⟨hexQ.trans (by split;simp only[this,aF,oMN];rfl),rfl,oq⟩
     have o5:Own B [box b [p2,v2,.int .i64 k2] 58,row v2 5 1 bs2.length (bytes bs2),box b50 [.int .i64 kd,.string ⟨⟨tb⟩⟩,.slice e3 ks.length f3,.slice e1 cs.length f1,.slice e2 ns.length f2,.string ⟨⟨a⟩⟩,.string ⟨⟨s⟩⟩,.int .i64 g,.int .i64 z] 42,box b201 [.int .i64 0,.string ⟨⟨tb⟩⟩,.slice none 0 0,.slice e1 cs.length f1,.slice e2 ns.length f2,.string ⟨⟨a⟩⟩,.string ⟨⟨s⟩⟩,.int .i64 g,.int .i64 0] 42] m2:=oq;clear oq;refine max2 rfl rfl ?_;refine Ar.i64 (by omega) (by omega) ?_
     refine⟨rfl,?_⟩
     refine⟨⟨0+1,p2,v2,bs2,k2,ps++ps2,by omega,?_,hp2,aZ hkx hQ hq2,by rw[hb2,hb'];simp[bE],by rw[hk2',hk'];simp;omega,by omega,by omega,Own.sel ‹_› [0,1,2,3] rfl⟩,by simp;omega⟩
     congr 2
     omega
    ·obtain rfl:i=1:=by omega
     refine Br.dec (fun c500=>?_) (fun hc=>absurd (by omega) hc);refine run (aBJ bY aT (q3.ext oh.ext) rfl (by omega) (by omega) ?_);refine run (aBN aT (q3.ext oh.ext) (fun y:cV=>y.2) (by decide) rfl ‹_› ?_);(refine RunVC.alloc oh aT ?_;intro b503 m503 o503);(refine RunVC.aBA o503 4 rfl aT rfl (by decide) (aI ⟨rfl,rfl⟩ ?_);intro m504 o504);refine Br.tt ?_;refine run (nC rfl ?_);refine run (fA bM rfl rfl rfl ?_);(refine RunVC.lit o504 aH aN rfl rfl (by decide) (aI rfl ?_);intro b507 m507 o507);refine aE [[44]] 1 30 [2,3,4] (i:=5) ‹_› rfl rfl rfl hp' rfl (by omega) (by omega) (by simp) (by omega) (by omega) (fun p3 v3 bs3 k3 m3 hp3 hb3 hk3 hl3 oq=>?_);have o5:=oq
     simp only[pick,lgS,lgZ]at o5
     clear oq oh;refine DrawVC.intro [0,1,3,4,7,8,10,11] [5,6] [9] [0,1,3,6,7,8,2,4,5,9,10,11] mixed (by kernel_rfl) rfl (fun _ _ _ _ h=>h) ?_;refine aBB o5 4 rfl aT rfl rfl rfl ?_;refine Ar.i64 (by omega) (by omega) ?_;(refine RunVC.lit (Own.refl _) aH aN rfl rfl (by decide) (aI rfl ?_);intro b551 m551 o551);(refine aI o551.ext ?_;have o552:=Own.call o5 o551;simp only[lcA,lnA]at o552;clear o551);refine idxB o552 5 rfl aH aN rfl rfl (by omega) (by first|omega|(simp;omega)) ?_;refine aBx o552 5 rfl aN rfl rfl ?_;refine XEnds.callJ [2,3] ‹_› rfl rfl (fun J oj=>hIH _ _ _ [32] _ p3 v3 k3 bs3 _ (Nat.le_trans hdx (by omega)) hxOK hrx hp3 (.inr rfl) (by omega) hT hF oj (by omega) (by omega)) (fun ps2 p2 v2 bs2 k2 m2 hq2 hp2 hb2 hk2' hl2 _ hj2 oq=>?_) (fun m2 hq2 oq=>?_)
     case refine_2 =>
      have:cT (dV gJ) ks=none:=aR hkx hQ (by unfold dV;rw[if_neg (by decide),hq2];rfl)
      exact⟨hexQ.trans (by split;simp only[this,aF,oMN];rfl),rfl,oq⟩
     have o6:Own B [box b [p2,v2,.int .i64 k2] 58,row v2 5 1 bs2.length (bytes bs2),box b50 [.int .i64 kd,.string ⟨⟨tb⟩⟩,.slice e3 ks.length f3,.slice e1 cs.length f1,.slice e2 ns.length f2,.string ⟨⟨a⟩⟩,.string ⟨⟨s⟩⟩,.int .i64 g,.int .i64 z] 42,box b201 [.int .i64 0,.string ⟨⟨tb⟩⟩,.slice none 0 0,.slice e1 cs.length f1,.slice e2 ns.length f2,.string ⟨⟨a⟩⟩,.string ⟨⟨s⟩⟩,.int .i64 g,.int .i64 0] 42] m2:=oq;clear oq;refine max2 rfl rfl ?_;refine Ar.i64 (by omega) (by omega) ?_
     refine⟨rfl,?_⟩
     refine⟨⟨1+1,p2,v2,bs2,k2,ps++(aP [] [44]::ps2),by omega,?_,hp2,aZ hkx hQ (by unfold dV;rw[if_neg (by decide),hq2];rfl),by rw[hb2,hb3,hb'];simp[bE,fR,wr,aP],by rw[hk2',hk3,hk'];simp;omega,by omega,by omega,Own.sel ‹_› [0,1,2,3] rfl⟩,by simp;omega⟩
     congr 2
     omega
   have hQ:=fO (Nat.le_of_not_lt hlt) hQ
   rw[List.take_of_length_le (Nat.le_of_not_lt hlt)]at hl' hk2 ⊢
   by_cases hk2x:kd=2
   ·exact(by omega:False).elim
   by_cases hk3x:kd=3
   ·exact(by omega:False).elim
   by_cases hk7x:kd=7
   ·subst hk7x
    have hB:eP 7 tb cs ns a s g=true↔tb=[]∧cs.length=0∧ns.length=0∧g=0:=by simp[eP]
    have hRe:dR 7 cs ns a s g=aF [some [aP [] [44]],bG [32] a,some [aG [32] [97,115]],bG [32] s]:=rfl;refine Br.dec (fun hc=>absurd hc (by omega)) (fun c1400=>?_);refine run (fA aO rfl rfl rfl ?_);refine run (aBx oh 2 rfl aW rfl rfl ?_);refine Br.ff ?_;refine Br.ff ?_;refine Br.ff ?_;refine Br.tt ?_;refine DrawVC.intro [0,1,2,3,6,7,10] [4,8] [9,11,12] [0,1,2,3,4,7,8,5,6,9,10,11,12] mixed (by kernel_rfl) rfl (fun _ _ _ _ h=>h) ?_;refine nC rfl ?_;refine fA bM rfl rfl rfl ?_;refine fA aO rfl rfl rfl ?_;refine aBx oh 2 rfl aN rfl rfl ?_;refine fA aO rfl rfl rfl ?_;refine aBx oh 2 rfl aN rfl rfl ?_;refine MEnds.aBC (B:=B) ‹_› (bF a _ ba) (fun ea mea ocea oq=>?_) fun ea mea oq=>?_
    case refine_2 =>
     have hR:dR 7 cs ns a s g=none:=by rw[hRe];simp only[cO ea,aF,oMN]
     exact⟨hexQ.trans (by split;simp only[hQ,hR,aF,oMN,oMS];rfl),rfl,oq⟩
    have hnlea:=cM ea
    refine⟨ocea.ext,?_⟩
    clear ocea;refine aBF rfl rfl (by first|omega|(simp;omega)) ?_;refine MEnds.aBC (B:=B) ‹_› (bF s _ bs_) (fun es mes oces oq=>?_) fun es mes oq=>?_
    case refine_2 =>
     have hR:dR 7 cs ns a s g=none:=by rw[hRe];simp only[aA ea,cO es,aF,oMN]
     exact⟨hexQ.trans (by split;simp only[hQ,hR,aF,oMN,oMS];rfl),rfl,oq⟩
    have hnles:=cM es;clear oces oh;refine aBF rfl rfl (by first|omega|(simp;omega)) ?_;(refine RunVC.lit oq aH aN rfl rfl (by decide) (aI rfl ?_);intro b1521 m1521 o1521);refine aE [[44],[32]++a,[32,97,115],[32]++s] 4 30 [2,3] (i:=4) ‹_› rfl rfl rfl hp' rfl (by omega) (by omega) (by simp;omega) (by omega) (by omega) (fun p2 v2 bs2 k2 m2 hp2 hb2 hk2' hl2 oq=>?_);have o6:Own B [box b [p2,v2,.int .i64 k2] 58,row v2 5 1 bs2.length (bytes bs2),box b50 [.int .i64 7,.string ⟨⟨tb⟩⟩,.slice e3 ks.length f3,.slice e1 cs.length f1,.slice e2 ns.length f2,.string ⟨⟨a⟩⟩,.string ⟨⟨s⟩⟩,.int .i64 g,.int .i64 z] 42,box b201 [.int .i64 0,.string ⟨⟨tb⟩⟩,.slice none 0 0,.slice e1 cs.length f1,.slice e2 ns.length f2,.string ⟨⟨a⟩⟩,.string ⟨⟨s⟩⟩,.int .i64 g,.int .i64 0] 42] m2:=oq;clear oq;have hR:dR 7 cs ns a s g=some [aP [] [44],aG [32] a,aG [32] [97,115],aG [32] s]:=by rw[hRe];simp only[aA ea,aA es,aF,oMS];rfl
    refine run (fA aO rfl rfl rfl ?_);(refine RunVC.store o6 3 rfl aN rfl (by simp) (aI ⟨rfl,rfl⟩ ?_);intro m1581 o1581);refine run (fA aO rfl rfl rfl ?_);(refine RunVC.store o1581 3 rfl aN rfl (by simp) (aI ⟨rfl,rfl⟩ ?_);intro m1583 o1583);refine run (fA aO rfl rfl rfl ?_);refine run (aBx o1583 2 rfl aW rfl rfl ?_);refine Br.tt ?_;refine run (nC rfl ?_);refine run (fA bM rfl rfl rfl ?_);(refine RunVC.lit o1583 aH aN rfl rfl (by decide) (aI rfl ?_);intro b1588 m1588 o1588);refine aE [[41]] 1 30 [2,3] (i:=4) ‹_› rfl rfl rfl hp2 rfl (by omega) (by omega) (by simp) (by omega) (by omega) (fun p9 v9 bs9 k9 m9 hp9 hb9 hk9 hl9 oq=>?_);have o9:Own B [box b [p9,v9,.int .i64 k9] 58,row v9 5 1 bs9.length (bytes bs9),box b50 [.int .i64 7,.string ⟨⟨tb⟩⟩,.slice e3 ks.length f3,.slice e1 cs.length f1,.slice e2 ns.length f2,.string ⟨⟨a⟩⟩,.string ⟨⟨s⟩⟩,.int .i64 g,.int .i64 z] 42,box b201 [.int .i64 0,.string ⟨⟨tb⟩⟩,.slice none 0 0,.slice e1 cs.length f1,.slice e2 ns.length f2,.string ⟨⟨[]⟩⟩,.string ⟨⟨[]⟩⟩,.int .i64 g,.int .i64 0] 42] m9:=oq;clear oq;refine run (fA aO rfl rfl rfl ?_);refine run (aBx o9 3 rfl aN rfl rfl ?_);refine Br.dec (fun c1642=>?_) (fun c1642=>?_);refine run (fA aO rfl rfl rfl ?_);refine run (aBx o9 3 rfl nM rfl rfl ?_);refine run (aBH rfl mZ ?_);refine Br.dec (fun c1646=>?_) (fun c1646=>?_);refine run (fA aO rfl rfl rfl ?_);refine run (aBx o9 3 rfl eZ rfl rfl ?_);refine run (aBH rfl aH ?_);refine Br.dec (fun c1650=>?_) (fun c1650=>?_);refine run (fA aO rfl rfl rfl ?_);refine run (aBx o9 3 rfl aN rfl rfl ?_)
    refine Br.tt ?_;refine run (fA aO rfl rfl rfl ?_);refine run (aBx o9 3 rfl aN rfl rfl ?_);refine Br.tt ?_;refine run (fA aO rfl rfl rfl ?_);refine run (aBx o9 3 rfl aW rfl rfl ?_)
    any_goals (refine MEnds.aBC (B:=B) ‹_› (aC false _) (fun e8 m8 _ oq=>by cases e8) fun e8 m8 oq=>?_;exact⟨hexQ.trans (if_neg fun hb=>by obtain⟨x0,x1,x2,x3⟩:=hB.1 hb;first|contradiction|omega),rfl,oq⟩)
    refine MEnds.aBC (B:=B) ‹_› (aC _ _) (fun e8 m8 _ oq=>?_) fun e8 m8 oq=>?_
    case refine_2 =>
     have e8:=of_decide_eq_false e8
     exact⟨hexQ.trans (if_neg fun hb=>by obtain⟨x0,x1,x2,x3⟩:=hB.1 hb;omega),rfl,oq⟩
    have e8:=of_decide_eq_true e8;have hbare:=hB.2 ⟨by assumption,by omega,by omega,by omega⟩;refine RetVC.one rfl ?_;exact XEnds.done (ps:=[aG be opw,aP [] [40]]++(ps++([aP [] [44],aG [32] a,aG [32] [97,115],aG [32] s]++([aP [] [41]]++[])))) (hexQ.trans (by rw[if_pos hbare];simp only[hQ,hR,aF,oMS])) (oq.sel [0,1] rfl) hp9 (by rw[hb9,hb2,hb',hb1];simp[bE,fR,wr,aG,aP]) (by rw[hk9,hk2',hk',hk1];simp;omega) (by omega) (by omega)
   by_cases hk8x:kd=8
   ·exact(by omega:False).elim
   exact(by omega:False).elim
end Go.Proofs.YtohlogbnpfofpaaGreatDoor
