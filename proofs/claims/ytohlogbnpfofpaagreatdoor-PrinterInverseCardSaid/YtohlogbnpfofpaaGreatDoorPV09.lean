/- Part 9 of the proof of inverse: FnRepR, FnXb, FnXt, FnXc, FnXl, FnYa, FnQh, FnQi, FnYb, FnXd. -/
import Derived.Test.YtohlogbnpfofpaaGreatDoorPV08
set_option linter.all false
set_option maxHeartbeats 100000000
set_option maxRecDepth 100000
namespace Go.Proofs.YtohlogbnpfofpaaGreatDoor
open Go StillVC
theorem aBz:∀(s:aBs),nS s=0→fU s=s
 | [],_=>rfl
 | c::s,h=>by
  unfold nS at h
  rw[List.countP_cons]at h
  have hc:spc c=false:=by
   cases hh:spc c with
   | false=>rfl
   | true=>rw[hh]at h;simp at h
  have ih:=aBz s (by unfold nS;omega);unfold fU at ih ⊢
  rw[aDj,ih,tE hc]
  rfl
theorem zR:∀(s:aBs),nS s=s.count 10+s.count 92+s.count 34
 | []=>rfl
 | c::s=>by
  have ih:=zR s;unfold nS at ih ⊢
  rw[List.countP_cons,ih,List.count_cons,List.count_cons,List.count_cons]
  by_cases h1:c=34
  ·subst h1;simp[spc];omega
  ·by_cases h2:c=92
   ·subst h2;simp[spc];omega
   ·by_cases h3:c=10
    ·subst h3;simp[spc];omega
    ·simp[spc,h1,h2,h3]
theorem nS_take {s:aBs}{i:Nat}{c:UInt8}(h:s[i]?=some c):nS (s.take (i+1))=nS (s.take i)+(if spc c=true then 1 else 0):=by
 unfold nS
 rw[aDN,h,List.countP_append]
 simp[List.countP_cons]
theorem tG (s:aBs)(c:UInt8)(h:Heap):bZ Tryz.prog 251 [.string ⟨⟨s⟩⟩,.string ⟨⟨[c]⟩⟩] h fun r h'=>r=.int .i64 (s.count c)∧Own h [] h':=by
 refine⟨⟨_,Tryz.func251,rfl,by kernel_rfl⟩,fun w hw=>?_⟩
 subst hw
 refine(Tryz.strings_Count_one ⟨⟨s⟩⟩ c w).mono ?_
 rintro e w' ⟨rfl,rfl⟩
 exact⟨.refl _,rfl,Own.refl _⟩
theorem tab_at {h:Heap}{v w x:Value}(hv:Arr h v (bytes [92,110]))(hw:Arr h w (bytes [92,92]))(hx:Arr h x (bytes [92,34]))(c:UInt8) :
  (spc c=false∧aBT v w x c.toNat=uE)∨(spc c=true∧∃ a cap,aBT v w x c.toNat=.slice (some a) 2 cap∧Arr h (.slice (some a) 2 cap) (bytes (wC c))):=by
 have two:∀(v:Value) (l:aBs),l.length=2→Arr h v (bytes l)→∃ a cap,v=.slice (some a) 2 cap∧Arr h (.slice (some a) 2 cap) (bytes l):=by
  intro v l hl hA
  obtain⟨a,cap,rfl,hc,r⟩:=hA
  have hbl:(bytes l).length=2:=by simp[bytes,hl]
  rw[hbl]at hc
  rcases r with r|⟨b,o,rfl,hcell⟩
  ·rw[r]at hbl;simp at hbl
  ·refine⟨_,cap,by rw[hbl],?_⟩
   exact⟨_,cap,by rw[hbl],by rw[hbl];exact hc,.inr ⟨b,o,rfl,hcell⟩⟩
 have inj:∀ {n:Nat},c.toNat=n→c=UInt8.ofNat n:=fun h=>by rw[← h];simp
 unfold aBT aBU;by_cases h34:c.toNat=34
 ·have e:c=34:=inj h34
  subst e
  obtain⟨a,cap,rfl,hA⟩:=two x [92,34] rfl hx
  exact .inr ⟨by decide,a,cap,by rw[if_pos h34],hA⟩
 ·by_cases h92:c.toNat=92
  ·have e:c=92:=inj h92
   subst e
   obtain⟨a,cap,rfl,hA⟩:=two w [92,92] rfl hw
   exact .inr ⟨by decide,a,cap,by rw[if_neg h34,if_pos h92],hA⟩
  ·by_cases h10:c.toNat=10
   ·have e:c=10:=inj h10
    subst e
    obtain⟨a,cap,rfl,hA⟩:=two v [92,110] rfl hv
    exact .inr ⟨by decide,a,cap,by rw[if_neg h34,if_neg h92,if_pos h10],hA⟩
   ·refine .inl ⟨?_,by rw[if_neg h34,if_neg h92,if_neg h10]⟩
    unfold spc;refine decide_eq_false ?_
    rintro(rfl|rfl|rfl)
    ·exact h34 rfl
    ·exact h92 rfl
    ·exact h10 rfl
abbrev zB:Value:=.int .u8 0
theorem fillSet (A:aBs)(c:UInt8)(N:Nat)(h:A.length<N):(bytes A++List.replicate (N - A.length) zB).set A.length (.int .u8 c.toNat)=bytes (A++[c])++List.replicate (N - (A++[c]).length) zB:=by
 obtain⟨m,hm⟩:∃ m,N - A.length=m+1:=⟨N - A.length - 1,by omega⟩
 have hm2:N - (A++[c]).length=m:=by simp;omega
 have hl:(bytes A).length=A.length:=by simp[bytes]
 rw[hm,hm2,List.replicate_succ,← hl,List.set_append_right _ _ (aDg _),Nat.sub_self]
 simp[bytes]
theorem fillCopy (A B:aBs)(N:Nat)(_h:A.length+B.length≤N) :
  (bytes A++List.replicate (N - A.length) zB).take A.length++bytes B++(bytes A++List.replicate (N - A.length) zB).drop (A.length+B.length)=bytes (A++B)++List.replicate (N - (A++B).length) zB:=by
 have hl:(bytes A).length=A.length:=by simp[bytes]
 rw[← hl,List.take_left,List.drop_append,aDr (by omega),hl,lnA,Nat.add_sub_cancel_left,List.drop_replicate,aDa,Nat.sub_sub]
 simp[bytes]
theorem aAB (rb:Nat)(t v w x:Value)(s:aBs)(h:Heap)(hl:s.length≤1000000)(ct:aY h ⟨rb,0+256,none⟩=some t)(hc:∀ i,i<256→aY h ⟨rb,i,none⟩=some (aBT v w x i))
  (hT:Arr h t [gW [10],gW [92],gW [34]]) (hv:Arr h v (bytes [92,110])) (hw:Arr h w (bytes [92,92])) (hx:Arr h x (bytes [92,34])) :
  bZ Tryz.prog 249 [pA rb 0,.string ⟨⟨s⟩⟩] h fun r h'=>r=.string ⟨⟨fU s⟩⟩∧Own h [] h':=by
 obtain⟨at_,tc,rfl,htc,-⟩:=id hT
 have hT2:Arr h (.slice at_ 3 tc) [gW [10],gW [92],gW [34]]:=hT;have o0:=Own.refl h;have hnle:nS s≤s.length:=List.countP_le_length;have hcs:∀ c:UInt8,aY h ⟨rb,0+0+((c.toNat:Nat):Int).toNat*1,none⟩=some (aBT v w x c.toNat):=fun c=>by
  rw[show 0+0+((c.toNat:Nat):Int).toNat*1=c.toNat by simp]
  exact hc _ c.toNat_lt
 have hsp:∀ c:UInt8,spc c=true→∃ a cap,aY h ⟨rb,0+0+((c.toNat:Nat):Int).toNat*1,none⟩=some (.slice (some a) 2 cap):=fun c hc=>by
  rcases tab_at hv hw hx c with ⟨h1,_⟩|⟨_,a,cap,he,_⟩
  ·rw[hc]at h1;cases h1
  ·exact⟨a,cap,by rw[hcs,he]⟩
 have hl3:[gW [10],gW [92],gW [34]].length=3:=rfl;have hns:=zR s;refine aCV Tryz.func249 rfl Tryz.ntmps249 (by kernel_rfl) ?_;refine rR (aCy rfl cT ?_);refine rR (nC rfl ?_);refine rR (fA gY rfl rfl rfl ?_);refine rR (load1 eV rfl ‹_› ?_);refine rR (aCk rfl aK ?_);refine aCW (by omega) (by omega) ?_;refine rR (aCy rfl cT ?_);refine Br.join [5,6,8,9,10,11,27,28,29,30,31,32,33,34,35,36,37,38,39,40,41,42,43,44,45,46,47,48,49,50,51,52,53,54,55,56,57,58,59,60,61,62,63,64,65,66,67,68,69,70,71,72,73,74,75,76,77,78,79,80] [5,6] (fun vs hh=>vs=[.int .i64 (s.length+nS s:Nat),.bool (decide (nS s≠0))]∧Own h [] hh) rfl rfl ?_ ?_
 ·by_cases hlong:24≤s.length
  ·refine aCP (fun c20=>?_) (fun hc=>absurd (by omega) hc)
   refine rR (nC rfl ?_);refine rR (fA gY rfl rfl rfl ?_);refine rR (load1 eV rfl ‹_› ?_);refine rR (aCk rfl aK ?_);refine aCZ [5,6,8,9,32,33,34,35,36,37,38,39,40,41,42,43,44,45,46,47,48,49,50,51,52,53,54] [5,6,32] (fun vs hh=>∃(q n:Nat),vs=[.int .i64 (s.length+n:Nat),.bool (decide (n≠0)),.int .i64 q]∧(q=0∧n=0∨q=1∧n=s.count 10∨q=2∧n=s.count 10+s.count 92∨q=3∧n=s.count 10+s.count 92+s.count 34)∧Own h [] hh) (fun vs _=>match vs with|[_,_,.int _ q]=>3 - q.toNat|_=>0) ?_ ?_
   ·exact⟨0,0,rfl,.inl ⟨rfl,rfl⟩,o0⟩
   ·rintro vs junk hh ⟨q,n,rfl,hq,oh⟩
    rcases hq with ⟨rfl,rfl⟩|⟨rfl,rfl⟩|⟨rfl,rfl⟩|⟨rfl,rfl⟩
    ·have p1:([10]:aBs)[(0:Int).toNat]?=some 10:=rfl
     have p2:UInt8.toNat 10=10:=rfl
     obtain⟨ga,gc,hcell⟩:=hsp 10 (by decide)
     refine aCQ ?_;refine rR (idx aK aL (hT2.ext oh.ext) rfl (by omega) (by omega) ?_);refine rR (loadA (hT2.ext oh.ext) aL rfl (by first|assumption|rfl) ?_);refine aCT (tG s 10 _) ?_;rintro _ h2 ⟨rfl,ob⟩;have o2:=oh.ext' ob;have hcl:s.count 10≤s.length:=List.count_le_length;by_cases hc0:s.count 10=0
     ·refine aCi (fun hc=>absurd (by first|omega|assumption|decide|exact rfl) hc) (fun c35=>?_)
      refine aCW (by omega) (by omega) ?_
      refine⟨rfl,?_⟩
      refine⟨⟨1,s.count 10,by simp[hc0],by simp[hc0],o2⟩,by simp⟩
     ·refine aCi (fun c40=>?_) (fun hc=>absurd hc (by first|omega|assumption|decide|exact rfl))
      refine aCS [0,1,2,3,4,5,6,7,9,10,11,12,13] [8] [] [0,1,2,3,4,5,6,7,8,9,10,11,12,13] mixed (by kernel_rfl) rfl (fun _ _ _ _ h=>h) ?_;refine aCu rfl rfl cT (by omega) ‹_› ?_;refine nC rfl ?_;refine fA gY rfl rfl rfl ?_;refine aCw eA.arr eA.el rfl rfl (by omega) (by omega) ?_;refine load1 lR rfl (o2.old hcell) ?_;refine aCk rfl fT ?_;refine aCW (by omega) (by omega) ?_;refine aCW (by omega) (by omega) ?_;refine aCW (by omega) (by omega) ?_;refine aCW (by omega) (by omega) ?_
      refine⟨rfl,?_⟩
      refine⟨⟨1,s.count 10,?_,by simp,o2⟩,by simp⟩
      have hne:s.count 10≠0:=by omega
      simp only[List.cons.injEq,and_true,Value.int.injEq,true_and,Value.bool.injEq]
      exact⟨by omega,(decide_eq_true hne).symm,rfl⟩
    ·have p1:([92]:aBs)[(0:Int).toNat]?=some 92:=rfl
     have p2:UInt8.toNat 92=92:=rfl
     obtain⟨ga,gc,hcell⟩:=hsp 92 (by decide)
     refine aCQ ?_;refine rR (idx aK aL (hT2.ext oh.ext) rfl (by omega) (by omega) ?_);refine rR (loadA (hT2.ext oh.ext) aL rfl (by first|assumption|rfl) ?_);refine aCT (tG s 92 _) ?_;rintro _ h2 ⟨rfl,ob⟩;have o2:=oh.ext' ob;have hcl:s.count 92≤s.length:=List.count_le_length;by_cases hc0:s.count 92=0
     ·refine aCi (fun hc=>absurd (by first|omega|assumption|decide|exact rfl) hc) (fun c65=>?_)
      refine aCW (by omega) (by omega) ?_
      refine⟨rfl,?_⟩
      refine⟨⟨2,s.count 10+s.count 92,by simp[hc0],by simp[hc0],o2⟩,by simp⟩
     ·refine aCi (fun c70=>?_) (fun hc=>absurd hc (by first|omega|assumption|decide|exact rfl))
      refine aCS [0,1,2,3,4,5,6,7,9,10,11,12,13] [8] [] [0,1,2,3,4,5,6,7,8,9,10,11,12,13] mixed (by kernel_rfl) rfl (fun _ _ _ _ h=>h) ?_;refine aCu rfl rfl cT (by omega) ‹_› ?_;refine nC rfl ?_;refine fA gY rfl rfl rfl ?_;refine aCw eA.arr eA.el rfl rfl (by omega) (by omega) ?_;refine load1 lR rfl (o2.old hcell) ?_;refine aCk rfl fT ?_;refine aCW (by omega) (by omega) ?_;refine aCW (by omega) (by omega) ?_;refine aCW (by omega) (by omega) ?_;refine aCW (by omega) (by omega) ?_
      refine⟨rfl,?_⟩
      refine⟨⟨2,s.count 10+s.count 92,?_,by simp,o2⟩,by simp⟩
      have hne:s.count 10+s.count 92≠0:=by omega
      simp only[List.cons.injEq,and_true,Value.int.injEq,true_and,Value.bool.injEq]
      exact⟨by omega,(decide_eq_true hne).symm,rfl⟩
    ·have p1:([34]:aBs)[(0:Int).toNat]?=some 34:=rfl
     have p2:UInt8.toNat 34=34:=rfl
     obtain⟨ga,gc,hcell⟩:=hsp 34 (by decide)
     refine aCQ ?_;refine rR (idx aK aL (hT2.ext oh.ext) rfl (by omega) (by omega) ?_);refine rR (loadA (hT2.ext oh.ext) aL rfl (by first|assumption|rfl) ?_);refine aCT (tG s 34 _) ?_;rintro _ h2 ⟨rfl,ob⟩;have o2:=oh.ext' ob;have hcl:s.count 34≤s.length:=List.count_le_length;by_cases hc0:s.count 34=0
     ·refine aCi (fun hc=>absurd (by first|omega|assumption|decide|exact rfl) hc) (fun c95=>?_)
      refine aCW (by omega) (by omega) ?_
      refine⟨rfl,?_⟩
      refine⟨⟨3,s.count 10+s.count 92+s.count 34,by simp[hc0],by simp[hc0],o2⟩,by simp⟩
     ·refine aCi (fun c100=>?_) (fun hc=>absurd hc (by first|omega|assumption|decide|exact rfl))
      refine aCS [0,1,2,3,4,5,6,7,9,10,11,12,13] [8] [] [0,1,2,3,4,5,6,7,8,9,10,11,12,13] mixed (by kernel_rfl) rfl (fun _ _ _ _ h=>h) ?_;refine aCu rfl rfl cT (by omega) ‹_› ?_;refine nC rfl ?_;refine fA gY rfl rfl rfl ?_;refine aCw eA.arr eA.el rfl rfl (by omega) (by omega) ?_;refine load1 lR rfl (o2.old hcell) ?_;refine aCk rfl fT ?_;refine aCW (by omega) (by omega) ?_;refine aCW (by omega) (by omega) ?_;refine aCW (by omega) (by omega) ?_;refine aCW (by omega) (by omega) ?_
      refine⟨rfl,?_⟩
      refine⟨⟨3,s.count 10+s.count 92+s.count 34,?_,by simp,o2⟩,by simp⟩
      have hne:s.count 10+s.count 92+s.count 34≠0:=by omega
      simp only[List.cons.injEq,and_true,Value.int.injEq,true_and,Value.bool.injEq]
      exact⟨by omega,(decide_eq_true hne).symm,rfl⟩
    ·refine aCR ?_
     refine⟨rfl,?_⟩
     exact⟨by rw[zR],oh⟩
  ·refine aCP (fun hc=>absurd hc (by omega)) (fun c120=>?_)
   refine aCZ [5,6,10,11,55,56,57,58,59,60,61,62,63,64,65,66,67,68,69,70,71,72,73,74,75,76,77,78,79,80] [5,6,10] (fun vs hh=>∃(i:Nat),i≤s.length∧vs=[.int .i64 (s.length+nS (s.take i):Nat),.bool (decide (nS (s.take i)≠0)),.int .i64 i]∧Own h [] hh) (fun vs _=>match vs with|[_,_,.int _ i]=>s.length - i.toNat|_=>0) ?_ ?_
   ·exact⟨0,by omega,rfl,o0⟩
   ·rintro vs junk hh ⟨i,hi,rfl,oh⟩
    have hnl:nS (s.take i)≤s.length:=aDk List.countP_le_length (by simp;omega);by_cases hlt:i<s.length
    ·obtain⟨c,hcx⟩:=getx hlt
     have hn1:=nS_take hcx
     rcases tab_at hv hw hx c with ⟨hf,he⟩|⟨hf,ga,gc,he,_⟩
     ·have hcell:=hcs c
      rw[he]at hcell
      have hc256:=c.toNat_lt
      rw[hf]at hn1
      simp only[aDe,if_false,aDW]at hn1
      refine rR (aCy rfl cT ?_);refine aCP (fun c131=>?_) (fun hc=>absurd (by omega) hc);refine rR (aCu rfl rfl cT (by omega) ‹_› ?_);refine rR (nC rfl ?_);refine rR (fA gY rfl rfl rfl ?_);refine rR (aCw eA.arr eA.el rfl rfl (by omega) (by omega) ?_);refine rR (load1 lR rfl (oh.old hcell) ?_);refine rR (neNil fT rfl rfl ?_);refine aCR ?_;refine aCW (by omega) (by omega) ?_
      refine⟨rfl,?_⟩
      exact⟨⟨i+1,by omega,by rw[hn1];rfl,oh⟩,by simp;omega⟩
     ·have hcell:=hcs c
      rw[he]at hcell
      have hc256:=c.toNat_lt
      rw[hf]at hn1
      simp only[if_true]at hn1
      refine rR (aCy rfl cT ?_);refine aCP (fun c151=>?_) (fun hc=>absurd (by omega) hc);refine rR (aCu rfl rfl cT (by omega) ‹_› ?_);refine rR (nC rfl ?_);refine rR (fA gY rfl rfl rfl ?_);refine rR (aCw eA.arr eA.el rfl rfl (by omega) (by omega) ?_);refine rR (load1 lR rfl (oh.old hcell) ?_);refine rR (neNil fT rfl rfl ?_);refine Br.ttE (by first|omega|(simp;done)) ?_;refine rR (nC rfl ?_);refine rR (fA gY rfl rfl rfl ?_);refine rR (aCw eA.arr eA.el rfl rfl (by omega) (by omega) ?_);refine rR (load1 lR rfl (oh.old hcell) ?_);refine rR (aCk rfl fT ?_);refine aCW (by omega) (by omega) ?_;refine aCW (by omega) (by omega) ?_;refine aCW (by omega) (by omega) ?_
      refine⟨rfl,?_⟩
      refine⟨⟨i+1,by omega,?_,oh⟩,by simp;omega⟩
      rw[hn1]
      simp only[List.cons.injEq,and_true,Value.int.injEq,true_and,Value.bool.injEq]
      exact⟨by omega,(decide_eq_true (by omega)).symm,rfl⟩
    ·have e1:s.take i=s:=aDm (by omega)
     rw[e1]
     refine rR (aCy rfl cT ?_);refine aCP (fun hc=>absurd hc (by omega)) (fun c181=>?_)
     refine⟨rfl,?_⟩
     exact⟨rfl,oh⟩
 ·rintro vs junk hh ⟨rfl,oh⟩
  by_cases hz:nS s=0
  ·rw[aBz s hz]
   refine aCi (fun c220=>?_) (fun hc=>absurd hc (by first|omega|assumption|decide|exact rfl));refine aCX rfl ?_
   exact⟨rfl,oh⟩
  ·refine aCi (fun hc=>absurd (by first|omega|assumption|decide|exact rfl) hc) (fun c240=>?_)
   (refine RunVC.make oh fT ty5 rfl rfl (by omega) (by omega) (by omega) ?_;intro b241 m241 o241);have hel:=aAq s;refine aCZ [13,14,15,86,87,88,89,90,91,92,93,94,95,96,97,98,99,100,101,102,103,104,105,106,107,108,109,110,111,112,113,114,115,116,117,118,119] [13,14] (fun vs hh=>∃(i:Nat),i≤s.length∧vs=[.int .i64 ((fU (s.take i)).length:Nat),.int .i64 i]∧Own h [box b241 (bytes (fU (s.take i))++List.replicate (s.length+nS s - (fU (s.take i)).length) (.int .u8 0)) 5] hh) (fun vs _=>match vs with|[_,.int _ i]=>s.length - i.toNat|_=>0) ?_ ?_
   ·rw[Int.toNat_natCast]at o241
    exact⟨0,by omega,rfl,by simpa[fU,bytes] using o241⟩
   ·rintro vs junk h3 ⟨i,hi,rfl,o3⟩
    have hle:=uN s i;have hbl:(bytes (fU (s.take i))).length=(fU (s.take i)).length:=by simp[bytes]
    by_cases hlt:i<s.length
    ·obtain⟨c,hcx⟩:=getx hlt
     have ht1:=escS_take hcx;have hle1:=uN s (i+1);have hc256:=c.toNat_lt
     rw[ht1,aDa]at hle1
     rcases tab_at hv hw hx c with ⟨hf,he⟩|⟨hf,ga,gc,he,hA⟩
     ·have hcell:=hcs c
      rw[he]at hcell
      have hl1:(wC c).length=1:=by rw[tE hf];rfl
      generalize hoff:(fU (s.take i)).length=off at *
      refine rR (aCy rfl cT ?_);refine aCP (fun c251=>?_) (fun hc=>absurd (by omega) hc);refine rR (aCu rfl rfl cT (by omega) ‹_› ?_);refine rR (nC rfl ?_);refine rR (fA gY rfl rfl rfl ?_);refine rR (aCw eA.arr eA.el rfl rfl (by omega) (by omega) ?_);refine rR (load1 lR rfl (o3.old hcell) ?_);refine rR (neNil fT rfl rfl ?_);refine aCR ?_;refine rR (idxB o3 0 rfl fT ty5 rfl rfl (by omega) (by first|omega|(simp;omega)) ?_);(refine aCL o3 0 rfl ty5 rfl (by first|omega|(simp;omega)) (aI ⟨rfl,rfl⟩ ?_);intro m259 o259);refine aCW (by omega) (by omega) ?_;refine aCW (by omega) (by omega) ?_
      refine⟨rfl,?_⟩
      refine⟨⟨i+1,by omega,by rw[ht1,aDa,hl1,hoff];rfl,?_⟩,by simp;omega⟩
      have hfill:=fillSet (fU (s.take i)) c (s.length+nS s) (by omega)
      rw[hoff]at hfill
      rw[ht1,tE hf,← hfill]
      assumption
     ·have hcell:=hcs c
      rw[he]at hcell
      have hl2:(wC c).length=2:=by rw[esc1_len,hf];rfl
      generalize hoff:(fU (s.take i)).length=off at *
      have hbl2:(bytes (wC c)).length=2:=by simp[bytes,hl2]
      refine rR (aCy rfl cT ?_);refine aCP (fun c301=>?_) (fun hc=>absurd (by omega) hc);refine rR (aCu rfl rfl cT (by omega) ‹_› ?_);refine rR (nC rfl ?_);refine rR (fA gY rfl rfl rfl ?_);refine rR (aCw eA.arr eA.el rfl rfl (by omega) (by omega) ?_);refine rR (load1 lR rfl (o3.old hcell) ?_);refine rR (neNil fT rfl rfl ?_);refine Br.ttE (by first|omega|(simp;done)) ?_;refine aCS [0,1,2,3,4,5,6,7,8,11,12] [9] [10] [0,1,2,3,4,5,6,7,8,9,10,11,12] mixed (by kernel_rfl) rfl (fun _ _ _ _ h=>h) ?_;refine sliceFB fT ty5 rfl rfl (by omega) (by omega) (by omega) ?_;refine nC rfl ?_;refine fA gY rfl rfl rfl ?_;refine aCw eA.arr eA.el rfl rfl (by omega) (by omega) ?_;refine load1 lR rfl (o3.old hcell) ?_;(refine RunVC.copyB o3 0 rfl fT ty5 rfl (hA.ext o3.ext) (by first|omega|(simp;done)|(simp;omega)) (by first|omega|(simp;omega)) (by first|omega|(simp;omega)) (by simp[Value.oneCell']) ?_;intro m314 o314);refine aCW (by omega) (by omega) ?_;refine aCW (by omega) (by omega) ?_
      refine⟨rfl,?_⟩
      refine⟨⟨i+1,by omega,by rw[ht1,aDa,hl2,hbl2,hoff];rfl,?_⟩,by simp;omega⟩
      have hfill:=fillCopy (fU (s.take i)) (wC c) (s.length+nS s) (by omega)
      rw[hoff,hl2]at hfill
      rw[ht1,← hfill]
      rw[hbl2]at *
      assumption
    ·have e1:s.take i=s:=aDm (by omega)
     rw[e1,hel,Nat.sub_self,List.replicate_zero,aDc]at o3
     refine rR (aCy rfl cT ?_);refine aCP (fun hc=>absurd hc (by omega)) (fun c351=>?_);refine rR (aCI (l:=fU s) (Own.boxArr o3 0 rfl (by rw[Int.toNat_natCast];simp[bytes,hel]) (aDg _)) fT int5 cT ?_);refine aCX rfl ?_
     exact⟨rfl,o3.sel [] rfl⟩
def RepF (cs2:aVs)(L2:List Item):Prop:=∃ rb cs t v w x,RepC cs t (aBT v w x)∧cs2=[.int .u32 0,.int .i32 1,.int .u32 0,.iface 250 (pA rb 0),uE] ∧
 L2=[box rb cs 249,row t 9 1 3 [gW [10],gW [92],gW [34]],ro v (bytes [92,110]),ro w (bytes [92,92]),ro x (bytes [92,34])]
theorem aBS (b:Nat)(a:Option Addr)(c:Nat)(B:Base)(s:aBs)(h:Heap)(hl:s.length≤1000000)
  (o0:Own B [box b (zD a c) 220,row (.slice a 6 c) 9 1 6 fX] h) :
  bZ Tryz.prog 148 [pA b 0,.string ⟨⟨s⟩⟩] h fun r h'=>r=.string ⟨⟨fU s⟩⟩∧Own B [] h':=by
 refine aCV Tryz.func148 rfl Tryz.ntmps148 (by kernel_rfl) ?_;refine rR (nC rfl ?_);refine rR (fA aA2 rfl rfl rfl ?_);refine rR (aCx ?_);refine aCT (do_spec ⟨B.h,[row (.slice a 6 c) 9 1 6 fX]++B.T⟩ b (zD a c) (RepF) 220 166 [pA b 0] [] _ (o0.lend [0] [1] rfl) rfl rfl ?_) ?_
 ·intro h' o'
  refine(aAA B b (.int .u32 0) (.int .i32 1) (.int .u32 0) .nilIface a c h' o').mono ?_
  rintro _ h2 ⟨rfl,rb,cs,t,v,w,x,hR,o2⟩
  exact⟨rfl,_,_,⟨rb,cs,t,v,w,x,hR,rfl,rfl⟩,rfl,rfl,o2.lend [0,2,3,4,5,6] [1] rfl⟩
 ·rintro _ h1 ⟨rfl,_,_,⟨rb,cs,t,v,w,x,hR,rfl,rfl⟩,o1⟩
  have o1':Own ⟨B.h,[row (.slice a 6 c) 9 1 6 fX]++B.T⟩ [box b [.int .u32 1,.int .i32 0,.int .u32 0,.iface 250 (pA rb 0),uE] 220,box rb cs 249,row t 9 1 3 [gW [10],gW [92],gW [34]],ro v (bytes [92,110]),ro w (bytes [92,92]),ro x (bytes [92,34])] h1:=o1;clear o1;refine rR (nC rfl ?_);refine rR (fA aA2 rfl rfl rfl ?_);refine rR (aCc o1' 0 rfl ty218 rfl rfl ?_);refine RunVC.invokeR (g:=249) (full:=[pA rb 0,.string ⟨⟨s⟩⟩]) rfl (fun w=>by kernel_rfl) (aAB rb t v w x s _ hl ?_ ?_ (o1'.rowArr 2 rfl) (o1'.roArr 3 rfl) (o1'.roArr 4 rfl) (o1'.roArr 5 rfl)) ?_
  ·exact(o1'.cellB 1 rfl _).trans hR.last
  ·exact fun i hi=>(o1'.cellB 1 rfl _).trans (hR.at_ i hi)
  ·rintro _ h2 ⟨rfl,o2⟩
   refine aCX rfl ?_
   refine⟨rfl,?_⟩
   have o3:=(o1'.sel [] rfl).ext' o2;exact Own.sel (L:=[row (.slice a 6 c) 9 1 6 fX]) o3 [] rfl
theorem iT (B:Base)(b:Nat)(p v:Value)(k:Int)(bs:aBs)(x:Vl)(h:Heap)(hp:cO b p)(hT:jO B.h)
  (o:Own B [box b [p,v,.int .i64 k] 58,row v 5 1 bs.length (bytes bs)] h) (hl:bs.length≤50000000000000) (ht:x.t.length≤1000000000000000) (hn:-9223372036854775808≤x.n∧x.n≤9223372036854775807) (hk:0≤k∧k≤50000000000000) :
  Spec Tryz.prog 123 [.pointer (some ⟨b,0,none⟩),.agg ⟨[.int .i64 x.k,.int .i64 x.n,.string ⟨⟨x.t⟩⟩]⟩] h (WEnds B b bs k 450 (bX x)):=by
 refine aCV Tryz.func123 rfl Tryz.ntmps123 (by kernel_rfl) ?_;by_cases h0:x.k=0
 ·(refine aCq o rfl ?_;intro b10 m10 o10)
  refine rR (aCg o10 2 rfl bS rfl rfl rfl ?_);(refine aCN o10 bS ?_;intro b12 m12 o12);(refine aCf o12 3 rfl bS rfl (by decide) (aI ⟨rfl,rfl⟩ ?_);intro m13 o13);refine rR (fA cN rfl rfl rfl ?_);(refine aCL o13 3 rfl aT rfl (by simp) (aI ⟨rfl,rfl⟩ ?_);intro m15 o15);refine rR (fA cN rfl rfl rfl ?_);refine rR (aCc o15 2 rfl aT rfl rfl ?_);refine aCP (fun c18=>?_) (fun hc=>absurd (by omega) hc);refine rR (nC rfl ?_);refine rR (fA bO rfl rfl rfl ?_);(refine aCM o15 aK aL rfl rfl (by decide) (aI rfl ?_);intro b21 m21 o21);refine aH [[32,110,117,108,108]] 1 30 [2,3] (i:=4) ‹_› rfl rfl rfl hp rfl (by omega) (by omega) (by simp) (by omega) (by omega) (fun p1 v1 bs1 k1 m1 hp1 hb1 hk1 hl1 oq=>?_);have o1:=oq
  simp only[pick,lgS,lgZ]at o1
  clear oq;refine rR (aCg o1 3 rfl bS rfl rfl rfl ?_);refine rR (aCl cN ?_);refine rR (eqS qD rfl rfl rfl rfl ?_);refine aCh ‹_› (aE _ _) (fun e1 m2 _ oq=>?_) fun e1 m2 oq=>?_
  ·simp at e1
   have hq:bX x=some [aD [32] [110,117,108,108]]:=by unfold bX;rw[if_pos h0,if_pos e1]
   refine aCY rfl ?_;exact aC1 hq (oq.sel [0,1] rfl) hp1 (by rw[hb1];rfl) hk1 (by omega) (by omega)
  ·simp at e1
   have hq:bX x=none:=by unfold bX;rw[if_pos h0,if_neg (by rintro⟨a,b⟩;exact e1 a b)]
   exact⟨hq,rfl,oq⟩
 by_cases h4:x.k=4
 ·by_cases hmx:x.n=9223372036854775807
  ·(refine aCq o rfl ?_;intro b50 m50 o50)
   refine rR (aCg o50 2 rfl bS rfl rfl rfl ?_);(refine aCN o50 bS ?_;intro b52 m52 o52);(refine aCf o52 3 rfl bS rfl (by decide) (aI ⟨rfl,rfl⟩ ?_);intro m53 o53);refine rR (fA cN rfl rfl rfl ?_);(refine aCL o53 3 rfl aT rfl (by simp) (aI ⟨rfl,rfl⟩ ?_);intro m55 o55);refine rR (fA cN rfl rfl rfl ?_);refine rR (aCc o55 2 rfl aT rfl rfl ?_);refine aCP (fun hc=>absurd hc (by omega)) (fun c58=>?_);refine aCP (fun hc=>absurd hc (by omega)) (fun c59=>?_);refine aCP (fun hc=>absurd hc (by omega)) (fun c60=>?_);refine aCP (fun hc=>absurd hc (by omega)) (fun c61=>?_);refine aCP (fun c62=>?_) (fun hc=>absurd (by omega) hc);refine rR (fA cN rfl rfl rfl ?_);(refine aCL o55 3 rfl aT rfl (by simp) (aI ⟨rfl,rfl⟩ ?_);intro m64 o64);refine aCS [0,1,2,3,5] [4] [7,8,9] [0,1,2,3,4,5,6,7,8,9] mixed (by kernel_rfl) rfl (fun _ _ _ _ h=>h) ?_;refine nC rfl ?_;refine fA bO rfl rfl rfl ?_;refine fA cN rfl rfl rfl ?_;refine aCc o64 2 rfl aT rfl rfl ?_;refine Ar.i64n (m:=-9223372036854775808) (by decide) (by decide) (by omega) ?_;(refine aCM (Own.refl _) aK aL rfl rfl (by decide) (aI rfl ?_);intro b55 m55 o55);(refine aI o55.ext ?_;have o56:=Own.call o64 o55;simp only[lcA,lnA]at o56;clear o55);refine aCh ‹_› (dO _ [[102,97,108,115,101],[116,114,117,101]] _ _ (by omega) (by omega) (Own.boxArr ‹_› 4 rfl rfl (by decide)) (by simp) (by simp)) (fun e1 m2 _ oq=>by cases e1) fun e1 m2 oq=>?_;have hq:bX x=none:=by unfold bX;rw[if_neg h0,if_neg (by omega),if_neg (by omega),if_neg (by omega),if_pos h4,if_neg (by omega)]
   exact⟨hq,rfl,oq⟩
  ·(refine aCq o rfl ?_;intro b60 m60 o60)
   refine rR (aCg o60 2 rfl bS rfl rfl rfl ?_);(refine aCN o60 bS ?_;intro b62 m62 o62);(refine aCf o62 3 rfl bS rfl (by decide) (aI ⟨rfl,rfl⟩ ?_);intro m63 o63);refine rR (fA cN rfl rfl rfl ?_);(refine aCL o63 3 rfl aT rfl (by simp) (aI ⟨rfl,rfl⟩ ?_);intro m65 o65);refine rR (fA cN rfl rfl rfl ?_);refine rR (aCc o65 2 rfl aT rfl rfl ?_);refine aCP (fun hc=>absurd hc (by omega)) (fun c68=>?_);refine aCP (fun hc=>absurd hc (by omega)) (fun c69=>?_);refine aCP (fun hc=>absurd hc (by omega)) (fun c70=>?_);refine aCP (fun hc=>absurd hc (by omega)) (fun c71=>?_);refine aCP (fun c72=>?_) (fun hc=>absurd (by omega) hc);refine rR (fA cN rfl rfl rfl ?_);(refine aCL o65 3 rfl aT rfl (by simp) (aI ⟨rfl,rfl⟩ ?_);intro m74 o74);refine aCS [0,1,2,3,5] [4] [7,8,9] [0,1,2,3,4,5,6,7,8,9] mixed (by kernel_rfl) rfl (fun _ _ _ _ h=>h) ?_;refine nC rfl ?_;refine fA bO rfl rfl rfl ?_;refine fA cN rfl rfl rfl ?_;refine aCc o74 2 rfl aT rfl rfl ?_;refine aCW (by omega) (by omega) ?_;(refine aCM (Own.refl _) aK aL rfl rfl (by decide) (aI rfl ?_);intro b79 m79 o79);(refine aI o79.ext ?_;have o80:=Own.call o74 o79;simp only[lcA,lnA]at o80;clear o79);refine aCh ‹_› (dO _ [[102,97,108,115,101],[116,114,117,101]] _ _ (by omega) (by omega) (Own.boxArr ‹_› 4 rfl rfl (by decide)) (by simp) (by simp)) (fun e1 m2 _ oq=>?_) fun e1 m2 oq=>?_
   ·have e1:=of_decide_eq_true e1
    simp only[aDb,aDn]at e1
    have hw:([[102,97,108,115,101],[116,114,117,101]]:List aBs).getD (x.n+1 - 1).toNat []=(if x.n=0 then[102,97,108,115,101] else[116,114,117,101]):=by
     by_cases hz:x.n=0
     ·rw[hz];rfl
     ·have:x.n=1:=by omega
      rw[this];rfl
    rw[hw]
    have hwl:((if x.n=0 then[102,97,108,115,101] else[116,114,117,101]):aBs).length≤5:=by split<;>simp
    generalize hW:((if x.n=0 then[102,97,108,115,101] else[116,114,117,101]):aBs)=W at hwl
    (refine aCM oq aK aL rfl rfl (by decide) (aI rfl ?_);intro b70 m70 o70);refine aH [32::W] 1 30 [2,3] (i:=5) ‹_› rfl rfl rfl hp rfl (by omega) (by omega) (by simp;omega) (by omega) (by omega) (fun p1 v1 bs1 k1 m1 hp1 hb1 hk1 hl1 oq=>?_);have o1:=oq
    simp only[pick,lgS,lgZ]at o1
    clear oq;refine rR (aCg o1 3 rfl bS rfl rfl rfl ?_);refine rR (aCl cN ?_);refine rR (eqS qD rfl rfl rfl rfl ?_);refine aCh ‹_› (aE _ _) (fun e2 m2 _ oq=>?_) fun e2 m2 oq=>?_
    ·simp at e2
     have hq:bX x=some [aD [32] W]:=by unfold bX;rw[if_neg h0,if_neg (by omega),if_neg (by omega),if_neg (by omega),if_pos h4,if_pos ⟨e2,by omega⟩,hW]
     refine aCY rfl ?_;exact aC1 hq (oq.sel [0,1] rfl) hp1 (by rw[hb1];simp[bG,fL,wr,aD]) hk1 (by omega) (by omega)
    ·simp at e2
     have hq:bX x=none:=by unfold bX;rw[if_neg h0,if_neg (by omega),if_neg (by omega),if_neg (by omega),if_pos h4,if_neg (by rintro⟨a,_⟩;exact e2 a)]
     exact⟨hq,rfl,oq⟩
   ·have e1:=of_decide_eq_false e1
    simp only[aDb,aDn]at e1
    have hq:bX x=none:=by unfold bX;rw[if_neg h0,if_neg (by omega),if_neg (by omega),if_neg (by omega),if_pos h4,if_neg (by omega)]
    exact⟨hq,rfl,oq⟩
 by_cases h3:x.k=3
 ·(refine aCq o rfl ?_;intro b100 m100 o100)
  refine rR (aCg o100 2 rfl bS rfl rfl rfl ?_);(refine aCN o100 bS ?_;intro b102 m102 o102);(refine aCf o102 3 rfl bS rfl (by decide) (aI ⟨rfl,rfl⟩ ?_);intro m103 o103);refine rR (fA cN rfl rfl rfl ?_);(refine aCL o103 3 rfl aT rfl (by simp) (aI ⟨rfl,rfl⟩ ?_);intro m105 o105);refine rR (fA cN rfl rfl rfl ?_);refine rR (aCc o105 2 rfl aT rfl rfl ?_);refine aCP (fun hc=>absurd hc (by omega)) (fun c108=>?_);refine aCP (fun hc=>absurd hc (by omega)) (fun c109=>?_);refine aCP (fun hc=>absurd hc (by omega)) (fun c110=>?_);refine aCP (fun c111=>?_) (fun hc=>absurd (by omega) hc);refine rR (fA cN rfl rfl rfl ?_);(refine aCL o105 3 rfl aT rfl (by simp) (aI ⟨rfl,rfl⟩ ?_);intro m113 o113);refine aCS [0,1,2,3] [4] [5,6,7] [0,1,2,3,4,5,6,7] mixed (by kernel_rfl) rfl (fun _ _ _ _ h=>h) ?_;refine nC rfl ?_;refine fA bO rfl rfl rfl ?_;refine fA cN rfl rfl rfl ?_;refine aCc o113 2 rfl aT rfl rfl ?_;refine aCh ‹_› (bK x.n _ hn.1 hn.2 (hT.ext (Own.ext ‹_›))) (fun e1 m2 _ oq=>?_) fun e1 m2 oq=>?_
  ·have hil:=bW e1
   (refine aCM oq aK aL rfl rfl (by decide) (aI rfl ?_);intro b110 m110 o110);refine aH [[32,64],Lib.itoa x.n] 2 30 [2,3] (i:=4) ‹_› rfl rfl rfl hp rfl (by omega) (by omega) (by simp;omega) (by omega) (by omega) (fun p1 v1 bs1 k1 m1 hp1 hb1 hk1 hl1 oq=>?_);have o1:=oq
   simp only[pick,lgS,lgZ]at o1
   clear oq;refine rR (aCg o1 3 rfl bS rfl rfl rfl ?_);refine rR (aCl cN ?_);refine rR (eqS qD rfl rfl rfl rfl ?_);refine aCh ‹_› (aE _ _) (fun e2 m2 _ oq=>?_) fun e2 m2 oq=>?_
   ·simp at e2
    have hq:bX x=some [aO [32] [64],bP [] x.n]:=by unfold bX;rw[if_neg h0,if_neg (by omega),if_neg (by omega),if_pos h3,if_pos ⟨e2,e1⟩]
    refine aCY rfl ?_;exact aC1 hq (oq.sel [0,1] rfl) hp1 (by rw[hb1];simp[bG,fL,wr,aO,bP]) hk1 (by omega) (by omega)
   ·simp at e2
    have hq:bX x=none:=by unfold bX;rw[if_neg h0,if_neg (by omega),if_neg (by omega),if_pos h3,if_neg (by rintro⟨a,_⟩;exact e2 a)]
    exact⟨hq,rfl,oq⟩
  ·have hq:bX x=none:=by unfold bX;rw[if_neg h0,if_neg (by omega),if_neg (by omega),if_pos h3,if_neg (by rintro⟨_,e⟩;rw[e1]at e;cases e)]
   exact⟨hq,rfl,oq⟩
 by_cases h2:x.k=2
 ·by_cases hneg:x.n<0
  ·(refine aCq o rfl ?_;intro b140 m140 o140)
   refine rR (aCg o140 2 rfl bS rfl rfl rfl ?_);(refine aCN o140 bS ?_;intro b142 m142 o142);(refine aCf o142 3 rfl bS rfl (by decide) (aI ⟨rfl,rfl⟩ ?_);intro m143 o143);refine rR (fA cN rfl rfl rfl ?_);(refine aCL o143 3 rfl aT rfl (by simp) (aI ⟨rfl,rfl⟩ ?_);intro m145 o145);refine rR (fA cN rfl rfl rfl ?_);refine rR (aCc o145 2 rfl aT rfl rfl ?_);refine aCP (fun hc=>absurd hc (by omega)) (fun c148=>?_);refine aCP (fun hc=>absurd hc (by omega)) (fun c149=>?_);refine aCP (fun c150=>?_) (fun hc=>absurd (by omega) hc);refine rR (fA cN rfl rfl rfl ?_);(refine aCL o145 3 rfl aT rfl (by simp) (aI ⟨rfl,rfl⟩ ?_);intro m152 o152);refine rR (fA cN rfl rfl rfl ?_);refine rR (aCc o152 2 rfl aT rfl rfl ?_);refine aCP (fun c155=>?_) (fun hc=>absurd (by omega) hc);refine rR (fA cN rfl rfl rfl ?_);refine rR (aCc o152 2 rfl aT rfl rfl ?_);refine aCh ‹_› (aE _ _) (fun e1 m2 _ oq=>?_) fun e1 m2 oq=>?_
   ·have e1:=of_decide_eq_true e1
    refine aCS [0,1,2,3,5] [4] [6,7,8] [0,1,2,3,4,5,6,7,8] mixed (by kernel_rfl) rfl (fun _ _ _ _ h=>h) ?_;refine nC rfl ?_;refine fA bO rfl rfl rfl ?_;refine fA cN rfl rfl rfl ?_;refine aCc oq 2 rfl aT rfl rfl ?_;refine aCW (by omega) (by omega) ?_;have hno:nZ (-x.n)=true:=decide_eq_true (by omega)
    rw[Int.zero_sub]
    refine aCh ‹_› (bK _ _ (by omega) (by omega) (hT.ext (Own.ext ‹_›))) (fun e2 m3 _ oq=>?_) fun e2 m3 oq=>?_
    ·have hil:=bW hno
     (refine aCM oq aK aL rfl rfl (by decide) (aI rfl ?_);intro b160 m160 o160);refine aH [[32,45],Lib.itoa (-x.n)] 2 30 [2,3] (i:=4) ‹_› rfl rfl rfl hp rfl (by omega) (by omega) (by simp;omega) (by omega) (by omega) (fun p1 v1 bs1 k1 m1 hp1 hb1 hk1 hl1 oq=>?_);have o1:=oq
     simp only[pick,lgS,lgZ]at o1
     clear oq;refine rR (aCg o1 3 rfl bS rfl rfl rfl ?_);refine rR (aCl cN ?_);refine rR (eqS qD rfl rfl rfl rfl ?_);refine aCh ‹_› (aE _ _) (fun e2 m2 _ oq=>?_) fun e2 m2 oq=>?_
     ·simp at e2
      have hq:bX x=some [aO [32] [45],bP [] (-x.n)]:=by unfold bX;rw[if_neg h0,if_neg (by omega),if_pos h2,if_pos ⟨e2,by omega⟩,if_pos hneg]
      refine aCY rfl ?_;exact aC1 hq (oq.sel [0,1] rfl) hp1 (by rw[hb1];simp[bG,fL,wr,aO,bP]) hk1 (by omega) (by omega)
     ·simp at e2
      have hq:bX x=none:=by unfold bX;rw[if_neg h0,if_neg (by omega),if_pos h2,if_neg (by rintro⟨a,_⟩;exact e2 a)]
      exact⟨hq,rfl,oq⟩
    ·rw[hno]at e2
     cases e2
   ·have e1:=of_decide_eq_false e1
    have hq:bX x=none:=by unfold bX;rw[if_neg h0,if_neg (by omega),if_pos h2,if_neg (by omega)]
    exact⟨hq,rfl,oq⟩
  ·(refine aCq o rfl ?_;intro b200 m200 o200)
   refine rR (aCg o200 2 rfl bS rfl rfl rfl ?_);(refine aCN o200 bS ?_;intro b202 m202 o202);(refine aCf o202 3 rfl bS rfl (by decide) (aI ⟨rfl,rfl⟩ ?_);intro m203 o203);refine rR (fA cN rfl rfl rfl ?_);(refine aCL o203 3 rfl aT rfl (by simp) (aI ⟨rfl,rfl⟩ ?_);intro m205 o205);refine rR (fA cN rfl rfl rfl ?_);refine rR (aCc o205 2 rfl aT rfl rfl ?_);refine aCP (fun hc=>absurd hc (by omega)) (fun c208=>?_);refine aCP (fun hc=>absurd hc (by omega)) (fun c209=>?_);refine aCP (fun c210=>?_) (fun hc=>absurd (by omega) hc);refine rR (fA cN rfl rfl rfl ?_);(refine aCL o205 3 rfl aT rfl (by simp) (aI ⟨rfl,rfl⟩ ?_);intro m212 o212);refine rR (fA cN rfl rfl rfl ?_);refine rR (aCc o212 2 rfl aT rfl rfl ?_);refine aCP (fun hc=>absurd hc (by omega)) (fun c215=>?_);refine aCS [0,1,2,3,6] [4] [5,7,8] [0,1,2,3,4,5,6,7,8] mixed (by kernel_rfl) rfl (fun _ _ _ _ h=>h) ?_;refine nC rfl ?_;refine fA bO rfl rfl rfl ?_;refine fA cN rfl rfl rfl ?_;refine aCc o212 2 rfl aT rfl rfl ?_;refine aCh ‹_› (bK _ _ (by omega) (by omega) (hT.ext (Own.ext ‹_›))) (fun e2 m3 _ oq=>?_) fun e2 m3 oq=>?_
   ·have hil:=bW e2
    have hnn:=of_decide_eq_true e2;refine aCm rfl rfl (by first|omega|(simp;omega)) ?_;(refine aCM oq aK aL rfl rfl (by decide) (aI rfl ?_);intro b211 m211 o211);refine aH [[32]++Lib.itoa x.n] 1 30 [2,3] (i:=4) ‹_› rfl rfl rfl hp rfl (by omega) (by omega) (by simp;omega) (by omega) (by omega) (fun p1 v1 bs1 k1 m1 hp1 hb1 hk1 hl1 oq=>?_);have o1:=oq
    simp only[pick,lgS,lgZ]at o1
    clear oq;refine rR (aCg o1 3 rfl bS rfl rfl rfl ?_);refine rR (aCl cN ?_);refine rR (eqS qD rfl rfl rfl rfl ?_);refine aCh ‹_› (aE _ _) (fun e2 m2 _ oq=>?_) fun e2 m2 oq=>?_
    ·simp at e2
     have hq:bX x=some [bP [32] x.n]:=by unfold bX;rw[if_neg h0,if_neg (by omega),if_pos h2,if_pos ⟨e2,by omega⟩,if_neg hneg]
     refine aCY rfl ?_;exact aC1 hq (oq.sel [0,1] rfl) hp1 (by rw[hb1];simp[bG,fL,wr,bP]) hk1 (by omega) (by omega)
    ·simp at e2
     have hq:bX x=none:=by unfold bX;rw[if_neg h0,if_neg (by omega),if_pos h2,if_neg (by rintro⟨a,_⟩;exact e2 a)]
     exact⟨hq,rfl,oq⟩
   ·have hnn:=of_decide_eq_false e2
    have hq:bX x=none:=by unfold bX;rw[if_neg h0,if_neg (by omega),if_pos h2,if_neg (by omega)]
    exact⟨hq,rfl,oq⟩
 by_cases h1:x.k=1
 ·(refine aCq o rfl ?_;intro b240 m240 o240)
  refine rR (aCg o240 2 rfl bS rfl rfl rfl ?_);(refine aCN o240 bS ?_;intro b242 m242 o242);(refine aCf o242 3 rfl bS rfl (by decide) (aI ⟨rfl,rfl⟩ ?_);intro m243 o243);refine rR (fA cN rfl rfl rfl ?_);(refine aCL o243 3 rfl aT rfl (by simp) (aI ⟨rfl,rfl⟩ ?_);intro m245 o245);refine rR (fA cN rfl rfl rfl ?_);refine rR (aCc o245 2 rfl aT rfl rfl ?_);refine aCP (fun hc=>absurd hc (by omega)) (fun c248=>?_);refine aCP (fun c249=>?_) (fun hc=>absurd (by omega) hc);refine rR (fA cN rfl rfl rfl ?_);refine rR (aCc o245 2 rfl aL rfl rfl ?_);refine rR (aCy rfl cT ?_);refine aCh ‹_› (aE _ _) (fun e1 m2 _ oq=>?_) fun e1 m2 oq=>?_
  ·have e1:=of_decide_eq_true e1
   refine rR (fA cN rfl rfl rfl ?_);(refine aCL oq 3 rfl aL rfl (by simp) (aI ⟨rfl,rfl⟩ ?_);intro m251 o251);refine DrawVC.introB b240 [0,1,2,5,8,9] [6] [7,10,11] [0,1,2,5,6,3,4,7,8,9,10,11] mixed (by kernel_rfl) rfl (fun _ _ _ _ h=>h) ?_;refine nC rfl ?_;refine fA bO rfl rfl rfl ?_;refine fA cN rfl rfl rfl ?_;refine StillVCA.load1 aL rfl rfl ((o251.cellB 2 rfl _).trans rfl) ?_;(refine aCM o251 aK aL rfl rfl (by decide) (aI rfl ?_);intro b266 m266 o266);refine aI ((o266.boxBlk 2 rfl).trans (o251.boxBlk 2 rfl).symm) ?_;refine aCT (vO _ _ (Own.boxArr ‹_› 4 rfl (n:=6) (c:=6) rfl (by decide))) ?_;rintro _ h2 ⟨rb,ra,rc,rfl,ob⟩;have o2:=Own.call (B:=B) ‹_› ob
   simp only[lcA,lnA]at o2
   clear ob;refine aI ((o2.boxBlk 2 rfl).trans (o266.boxBlk 2 rfl).symm) ?_;refine aCT (aBS rb ra rc _ x.t _ (by omega) (o2.lend [5,6] [0,1,2,3] rfl)) ?_;rintro _ h3 ⟨rfl,oc⟩;have o3:=oc.back;clear oc o2
   simp only[pick,lgS,lgZ,lnA]at o3
   have hel:=escS_le x.t;refine aCm rfl rfl (by first|omega|(simp;omega)) ?_;refine aCm rfl rfl (by first|omega|(simp;omega)) ?_;(refine aCM o3 aK aL rfl rfl (by decide) (aI rfl ?_);intro b282 m282 o282);refine aH [[32,34]++fU x.t++[34]] 1 410 [2,3] (i:=4) ‹_› rfl rfl rfl hp rfl (by omega) (by omega) (by simp;omega) (by omega) (by omega) (fun p1 v1 bs1 k1 m1 hp1 hb1 hk1 hl1 oq=>?_);have o4:=oq
   simp only[pick,lgS,lgZ]at o4
   clear oq;refine rR (aCg o4 3 rfl bS rfl rfl rfl ?_);refine rR (aCl cN ?_);refine rR (eqS qD rfl rfl rfl rfl ?_);refine aCh ‹_› (aE _ _) (fun e2 m2 _ oq=>?_) fun e2 m2 oq=>?_
   ·simp at e2
    have hq:bX x=some [txtT [32] x.t]:=by unfold bX;rw[if_neg h0,if_pos h1,if_pos ⟨e2,by omega⟩]
    refine aCY rfl ?_;exact aC1 hq (oq.sel [0,1] rfl) hp1 (by rw[hb1];simp[bG,fL,wr,txtT]) hk1 (by omega) (by omega)
   ·simp at e2
    have hq:bX x=none:=by unfold bX;rw[if_neg h0,if_pos h1,if_neg (by rintro⟨a,_⟩;exact e2 a)]
    exact⟨hq,rfl,oq⟩
  ·have e1:=of_decide_eq_false e1
   have hq:bX x=none:=by unfold bX;rw[if_neg h0,if_pos h1,if_neg (by omega)]
   exact⟨hq,rfl,oq⟩
 ·(refine aCq o rfl ?_;intro b300 m300 o300)
  refine rR (aCg o300 2 rfl bS rfl rfl rfl ?_);(refine aCN o300 bS ?_;intro b302 m302 o302);(refine aCf o302 3 rfl bS rfl (by decide) (aI ⟨rfl,rfl⟩ ?_);intro m303 o303);refine rR (fA cN rfl rfl rfl ?_);(refine aCL o303 3 rfl aT rfl (by simp) (aI ⟨rfl,rfl⟩ ?_);intro m305 o305);refine rR (fA cN rfl rfl rfl ?_);refine rR (aCc o305 2 rfl aT rfl rfl ?_);refine aCP (fun hc=>absurd hc (by omega)) (fun c308=>?_);refine aCP (fun hc=>absurd hc (by omega)) (fun c309=>?_);refine aCP (fun hc=>absurd hc (by omega)) (fun c310=>?_);refine aCP (fun hc=>absurd hc (by omega)) (fun c311=>?_);refine aCP (fun hc=>absurd hc (by omega)) (fun c312=>?_);refine aCh ‹_› (aE _ _) (fun e1 m2 _ oq=>by cases e1) fun e1 m2 oq=>?_;have hq:bX x=none:=by unfold bX;rw[if_neg h0,if_neg h1,if_neg h2,if_neg h3,if_neg h4]
  exact⟨hq,rfl,oq⟩
def qE (kind:Int)(table:aBs)(vk vc vn:Value)(attr as_:aBs)(agg:Int)(z:Int):aVs :=
 [.int .i64 kind,.string ⟨⟨table⟩⟩,vk,vc,vn,.string ⟨⟨attr⟩⟩,.string ⟨⟨as_⟩⟩,.int .i64 agg,.int .i64 z]
mutual
def kN (H:Heap)(c:aVs):Ex→Prop
 | .mk kind table kids conds names attr as_ agg _=>∃ vk vc vn z,c=qE kind table vk vc vn attr as_ agg z ∧
   dD 14 H vc conds.length (conds.flatMap nP)∧dD 1 H vn names.length (names.flatMap sX)∧∃ xs:List cX,dD 9 H vk kids.length (xs.flatMap Subtype.val)∧nV H xs kids
def nV (H:Heap):List cX→List Ex→Prop
 | [],[]=>True
 | c::cs,x::xs=>kN H c.1 x∧nV H cs xs
 | _,_=>False
end
mutual
theorem kN.ext {H H':Heap}(e:Ext H H'):∀(x:Ex)(c:aVs),kN H c x→kN H' c x
 | .mk kind table kids conds names attr as_ agg off,c,h=>by
  rw[kN]at h ⊢
  obtain⟨vk,vc,vn,z,h1,h2,h3,xs,h4,h5⟩:=h
  exact⟨vk,vc,vn,z,h1,h2.ext e,h3.ext e,xs,h4.ext e,nV.ext e kids xs h5⟩
theorem nV.ext {H H':Heap}(e:Ext H H'):∀(xs:List Ex)(cs:List cX),nV H cs xs→nV H' cs xs
 | [],[],_=>trivial
 | x::xs,c::cs,h=>by
  rw[nV]at h ⊢
  exact⟨kN.ext e x c.1 h.1,nV.ext e xs cs h.2⟩
 | [],_::_,h=>(by rw[nV]at h;exact h.elim;all_goals simp)
 | _::_,[],h=>(by rw[nV]at h;exact h.elim;all_goals simp)
end
mutual
theorem lZ.toH {I:Item}{H:Heap}(hI:I.sat H):∀(x:Ex)(c:aVs),lZ I c x→kN H c x
 | .mk kind table kids conds names attr as_ agg off,c,h=>by
  rw[lZ]at h
  rw[kN]
  obtain⟨vk,vc,vn,h1,h2,h3,xs,h4,h5⟩:=h
  exact⟨vk,vc,vn,off,h1,h2 H hI,h3 H hI,xs,h4 H hI,rK.toH hI kids xs h5⟩
theorem rK.toH {I:Item}{H:Heap}(hI:I.sat H):∀(xs:List Ex)(cs:List cX),rK I cs xs→nV H cs xs
 | [],[],_=>trivial
 | x::xs,c::cs,h=>by
  rw[rK]at h
  rw[nV]
  exact⟨lZ.toH hI x c.1 h.1,rK.toH hI xs cs h.2⟩
 | [],_::_,h=>(by rw[rK]at h;exact h.elim;all_goals simp)
 | _::_,[],h=>(by rw[rK]at h;exact h.elim;all_goals simp)
end
theorem jF {H:Heap}:∀ {cs:List cX}{l:List Ex}{i:Nat}{x:Ex},nV H cs l→l[i]?=some x→∃ c,cs[i]?=some c∧kN H c.1 x
 | _,[],_,_,_,h=>by simp at h
 | c::cs,a::l,0,x,hq,h=>by simp at h;subst h;rw[nV]at hq;exact⟨c,rfl,hq.1⟩
 | c::cs,a::l,i+1,x,hq,h=>by rw[nV]at hq;exact jF (cs:=cs) (l:=l) (i:=i) hq.2 (by simpa using h)
 | [],a::l,_,_,hq,_=>by rw[nV]at hq;exact hq.elim;all_goals simp
theorem kH {H:Heap}:∀ {cs:List cX}{l:List Ex},nV H cs l→cs.length=l.length
 | [],[],_=>rfl
 | c::cs,a::l,hq=>by rw[nV]at hq;simp[kH hq.2]
 | c::cs,[],hq=>by rw[nV]at hq;exact hq.elim;all_goals simp
 | [],b::m,hq=>by rw[nV]at hq;exact hq.elim;all_goals simp
def fE (x:It)(z:Int)(vc vn vt vf vv vd:Value)(e0 e1 e2 e3 e4 e5 e6 e7 e8:Value):aVs :=
 [.int .i64 x.kind,.string ⟨⟨x.name⟩⟩,.int .i64 z,.string ⟨⟨x.table⟩⟩,.string ⟨⟨x.attr⟩⟩,vc,vn,.int .i64 x.by_,.int .i64 x.n,.int .i64 x.m,vt,.string ⟨⟨x.other⟩⟩,.string ⟨⟨x.oattr⟩⟩,vf,vv,vd,e0,e1,e2,e3,e4,e5,e6,e7,e8]
def itH (H:Heap)(c:aVs)(x:It):Prop:=∃ z vc vn vt vf vv vd e0 e1 e2 e3 e4 e5 e6 e7 e8,c=fE x z vc vn vt vf vv vd e0 e1 e2 e3 e4 e5 e6 e7 e8 ∧
 dD 5 H vc x.cols.length (x.cols.flatMap uT)∧dD 1 H vn x.names.length (x.names.flatMap sX)∧dD 7 H vt x.terms.length (x.terms.flatMap xT) ∧
 dD 4 H vf x.fixed.length (x.fixed.flatMap xZ)∧dD 2 H vv x.vars.length (x.vars.flatMap vrC)∧dD 14 H vd x.conds.length (x.conds.flatMap nP)∧kN H [e0,e1,e2,e3,e4,e5,e6,e7,e8] x.expr
theorem itH.ext {H H':Heap}{c:aVs}{x:It}(r:itH H c x)(e:Ext H H'):itH H' c x:=by
 obtain⟨z,vc,vn,vt,vf,vv,vd,e0,e1,e2,e3,e4,e5,e6,e7,e8,h1,h2,h3,h4,h5,h6,h7,h8⟩:=r
 exact⟨z,vc,vn,vt,vf,vv,vd,e0,e1,e2,e3,e4,e5,e6,e7,e8,h1,h2.ext e,h3.ext e,h4.ext e,h5.ext e,h6.ext e,h7.ext e,kN.ext e _ _ h8⟩
theorem itR.toH {I:Item}{H:Heap}(hI:I.sat H) {c:aVs}{x:It}(r:itR I c x):itH H c x:=by
 obtain⟨vc,vn,vt,vf,vv,vd,e0,e1,e2,e3,e4,e5,e6,e7,e8,h1,h2,h3,h4,h5,h6,h7,h8⟩:=r
 exact⟨x.off,vc,vn,vt,vf,vv,vd,e0,e1,e2,e3,e4,e5,e6,e7,e8,h1,h2 H hI,h3 H hI,h4 H hI,h5 H hI,h6 H hI,h7 H hI,lZ.toH hI _ _ h8⟩
def nG (H:Heap)(v:Value)(xs:List It):Prop:=∃ cs:List jJ,dD 25 H v xs.length (cs.flatMap Subtype.val)∧cs.length=xs.length∧∀(i:Nat)(x:It),xs[i]?=some x→∃ d:jJ,cs[i]?=some d∧itH H d.1 x
theorem nG.ext {H H':Heap}{v:Value}{xs:List It}(r:nG H v xs)(e:Ext H H'):nG H' v xs:=by
 obtain⟨cs,h1,h2,h3⟩:=r
 refine⟨cs,h1.ext e,h2,fun i x hx=>?_⟩
 obtain⟨d,h4,h5⟩:=h3 i x hx
 exact⟨d,h4,h5.ext e⟩
theorem oS.toH {I:Item}{H:Heap}(hI:I.sat H) {v:Value}{xs:List It}(r:oS I v xs):nG H v xs:=by
 obtain⟨cs,h1,h2⟩:=r
 obtain⟨ds,hd,hg⟩:=aAc h2
 rw[hd]at h1
 have ha:=h1 H hI;have hlen:ds.length=xs.length:=by
  have h3:=ha.1
  rw[rJ (f:=Subtype.val) (sz:=25) (fun y:jJ=>y.2)]at h3
  omega
 refine⟨ds,ha,hlen,fun i x hx=>?_⟩
 obtain⟨d,h4,h5⟩:=hg i x hx
 exact⟨d,h4,h5.toH hI⟩
def VlOK (v:Vl):Prop:=(-9223372036854775808≤v.k∧v.k≤9223372036854775807)∧(-9223372036854775808≤v.n∧v.n≤9223372036854775807)∧v.t.length≤1000000000000000
def aBE (x:Opd):Prop:=x.var.length≤1000000000000000∧x.attr.length≤1000000000000000∧VlOK x.val
def xS (x:Cnd):Prop:=aBE x.left∧(-9223372036854775808≤x.op∧x.op≤9223372036854775807)∧aBE x.right∧(-9223372036854775808≤x.add∧x.add≤9223372036854775807)
def ColOK (x:Col):Prop:=x.name.length≤1000000000000000∧(-9223372036854775808≤x.kind∧x.kind≤9223372036854775807)∧VlOK x.dflt
def TrmOK (x:Trm):Prop:=x.attr.length≤1000000000000000∧(-9223372036854775808≤x.measure∧x.measure≤9223372036854775807)∧(-9223372036854775808≤x.tol∧x.tol≤9223372036854775807)∧(-9223372036854775808≤x.num∧x.num≤9223372036854775807) ∧
 (-9223372036854775808≤x.den∧x.den≤9223372036854775807)∧(-9223372036854775808≤x.gives∧x.gives≤9223372036854775807)∧(-9223372036854775808≤x.takes∧x.takes≤9223372036854775807)
def NmdOK (x:Nmd):Prop:=x.name.length≤1000000000000000∧VlOK x.val
def VrOK (x:Vr):Prop:=x.name.length≤1000000000000000∧x.table.length≤1000000000000000
mutual
def gA:Ex→Prop
 | .mk k t ks cs ns a s g _=>(-9223372036854775808≤k∧k≤9223372036854775807)∧t.length≤1000000000000000∧oF ks∧(∀ c∈cs,xS c)∧(∀ n∈ns,n.length≤1000000000000000)∧a.length≤1000000000000000∧s.length≤1000000000000000∧(-9223372036854775808≤g∧g≤9223372036854775807)∧ks.length≤1000000000000000∧cs.length≤1000000000000000∧ns.length≤1000000000000000
def oF:List Ex→Prop
 | []=>True
 | x::xs=>gA x∧oF xs
end
theorem gU:∀ {l:List Ex}{i:Nat}{x:Ex},oF l→l[i]?=some x→gA x
 | [],_,_,_,h=>by simp at h
 | a::l,0,x,hq,h=>by simp at h;subst h;rw[oF]at hq;exact hq.1
 | a::l,i+1,x,hq,h=>by rw[oF]at hq;exact gU (l:=l) (i:=i) hq.2 (by simpa using h)
def iQ (x:It):Prop:=(-9223372036854775808≤x.kind∧x.kind≤9223372036854775807)∧x.name.length≤1000000000000000∧x.table.length≤1000000000000000∧x.attr.length≤1000000000000000∧(∀ c∈x.cols,ColOK c)∧(∀ n∈x.names,n.length≤1000000000000000) ∧
 (-9223372036854775808≤x.by_∧x.by_≤9223372036854775807)∧(-9223372036854775808≤x.n∧x.n≤9223372036854775807)∧(-9223372036854775808≤x.m∧x.m≤9223372036854775807)∧(∀ t∈x.terms,TrmOK t)∧x.other.length≤1000000000000000∧x.oattr.length≤1000000000000000 ∧
 (∀ f∈x.fixed,NmdOK f)∧(∀ v∈x.vars,VrOK v)∧(∀ c∈x.conds,xS c)∧gA x.expr ∧
 x.cols.length≤1000000000000000∧x.names.length≤1000000000000000∧x.terms.length≤1000000000000000∧x.fixed.length≤1000000000000000∧x.vars.length≤1000000000000000∧x.conds.length≤1000000000000000
mutual
def fI:Ex→Nat
 | .mk _ _ ks cs ns _ _ _ _=>1+cs.length+ns.length+fS ks
def fS:List Ex→Nat
 | []=>0
 | x::xs=>fI x+fS xs
end
mutual
theorem exLev_le:∀(x:Ex),bY x≤fI x
 | .mk k t ks cs ns a s g o=>by
  have:=aBx ks
  rw[bY,fI]
  omega
theorem aBx:∀(xs:List Ex),cK xs≤fS xs
 | []=>aDg _
 | x::xs=>by
  have h1:=exLev_le x;have h2:=aBx xs
  rw[cK,fS]
  omega
end
def eI (x:It):Nat:=1+x.cols.length+x.names.length+x.terms.length+x.fixed.length+x.vars.length+x.conds.length+fI x.expr
theorem indexS_spec (ss:List aBs)(s:aBs)(vs:Value)(h:Heap)(hA:Arr h vs (strs ss))(hl:ss.length≤100) :
  bZ Tryz.prog 176 [vs,.string ⟨⟨s⟩⟩] h fun r h'=>∃ i:Int,r=.int .i64 i∧(0≤i↔s∈ss)∧Own h [] h':=by
 refine aCV Tryz.func176 rfl Tryz.ntmps176 (by kernel_rfl) ?_;have o0:=Own.refl h;have hsl:(strs ss).length=ss.length:=by simp[strs]
 refine rR (aCC hA ‹_› aK ?_);refine aCZ [4,5,8,9,10,11,12,13,14,15,16,17,18] [8] (fun vs' hh=>∃(i:Nat),i≤ss.length∧vs'=[.int .i64 i]∧(∀(j:Nat) (c:aBs),j<i→ss[j]?=some c→c≠s)∧Own h [] hh) (fun vs' _=>match vs' with|[.int _ i]=>ss.length - i.toNat|_=>0) ?_ ?_
 ·exact⟨0,by omega,rfl,fun j c hj=>by omega,o0⟩
 ·rintro vs' junk hh ⟨i,hi,rfl,hE,oh⟩
  by_cases hlt:i<ss.length
  ·obtain⟨c,hc⟩:=getx hlt
   have hss:(strs ss)[i]?=some (.string ⟨⟨c⟩⟩):=by simp[strs,hc]
   by_cases he:s=c
   ·refine aCP (fun c20=>?_) (fun hc=>absurd (by omega) hc)
    refine rR (idx aK aL (hA.ext oh.ext) rfl (by omega) (by omega) ?_);refine rR (aCE (hA.ext oh.ext) aL rfl (by first|assumption|rfl) ?_);refine aCP (fun c23=>?_) (fun hc=>absurd (by omega) hc);refine aCX rfl ?_
    exact⟨_,rfl,⟨fun _=>by subst he;exact aC7 hc,fun _=>by omega⟩,oh⟩
   ·refine aCP (fun c30=>?_) (fun hc=>absurd (by omega) hc)
    refine rR (idx aK aL (hA.ext oh.ext) rfl (by omega) (by omega) ?_);refine rR (aCE (hA.ext oh.ext) aL rfl (by first|assumption|rfl) ?_);refine aCP (fun hc=>absurd hc (by omega)) (fun c33=>?_);refine aCW (by omega) (by omega) ?_
    refine⟨rfl,?_⟩
    refine⟨⟨i+1,by omega,rfl,fun j d hj hd=>?_,oh⟩,by simp;omega⟩
    by_cases hji:j=i
    ·subst hji
     rw[hc]at hd
     cases hd
     exact fun e=>he e.symm
    ·exact hE j d (by omega) hd
  ·refine aCP (fun hc=>absurd hc (by omega)) (fun c40=>?_)
   refine aCX rfl ?_
   refine⟨_,rfl,⟨fun h=>by omega,fun hm=>?_⟩,oh⟩
   obtain⟨j,hj⟩:=aDz.1 hm
   exact absurd rfl (hE j s (by have:=(aC6.1 hj).1;omega) hj)
theorem rQ (ss:List aBs)(s:aBs)(vs:Value)(h:Heap)(hA:Arr h vs (strs ss))(hl:ss.length≤100) :
  bZ Tryz.prog 168 [vs,.string ⟨⟨s⟩⟩] h fun r h'=>r=.bool (decide (s∈ss))∧Own h [] h':=by
 refine aCV Tryz.func168 rfl Tryz.ntmps168 (by kernel_rfl) ?_;have o0:=Own.refl h;refine aCT (indexS_spec ss s vs _ hA hl) ?_;rintro _ h1 ⟨i,rfl,hi,o1⟩;refine aCX rfl ?_
 refine⟨?_,o1⟩
 congr 1
 exact decide_eq_decide.2 hi
theorem tT (s:aBs):reserved s=decide (s∈[[116,114,117,101],[102,97,108,115,101],[110,117,108,108]]):=by
 unfold reserved;exact decide_eq_decide.2 (by simp)
theorem wU (B:Base)(b:Nat)(p v:Value)(k:Int)(bs:aBs)(x:Opd)(h:Heap)(hp:cO b p)(hT:jO B.h)
  (o:Own B [box b [p,v,.int .i64 k] 58,row v 5 1 bs.length (bytes bs)] h) (hl:bs.length≤50000000000000) (hx:aBE x) (hk:0≤k∧k≤50000000000000) :
  Spec Tryz.prog 151 [.pointer (some ⟨b,0,none⟩),.agg ⟨opdC x⟩] h (WEnds B b bs k 500 (jS x)):=by
 obtain⟨xv,xa,xc,⟨vk,vn,vt⟩⟩:=x
 obtain⟨b1,b2,b3,b4,b5⟩:=hx
 simp only at b1 b2 b3 b4 b5;show Spec Tryz.prog 151 [.pointer (some ⟨b,0,none⟩),.agg ⟨[.string ⟨⟨xv⟩⟩,.string ⟨⟨xa⟩⟩,.bool xc,.int .i64 vk,.int .i64 vn,.string ⟨⟨vt⟩⟩]⟩] h _;refine aCV Tryz.func151 rfl Tryz.ntmps151 (by kernel_rfl) ?_;cases xc with
 | true =>
  by_cases hv:xv=[]
  ·by_cases ha:xa=[]
   ·subst hv ha
    have hq:jS ⟨[],[],true,⟨vk,vn,vt⟩⟩=bX ⟨vk,vn,vt⟩:=rfl
    rw[hq]
    (refine aCq o rfl ?_;intro b10 m10 o10);refine rR (fA fN rfl rfl rfl ?_);refine rR (aCc o10 2 rfl ty4 rfl rfl ?_);refine aCQ ?_;refine rR (fA fN rfl rfl rfl ?_);refine rR (aCc o10 2 rfl aL rfl rfl ?_);refine aCQ ?_;refine rR (fA fN rfl rfl rfl ?_);refine rR (aCc o10 2 rfl aL rfl rfl ?_);refine aCh ‹_› (aE _ _) (fun e1 m2 _ oq=>?_) fun e1 m2 oq=>absurd (of_decide_eq_false e1) (by simp);refine rR (fA fN rfl rfl rfl ?_);refine rR (aCg oq 2 rfl bS rfl rfl rfl ?_);refine WEnds.callJ [2] ‹_› rfl rfl (fun J oj=>iT _ b p v k bs ⟨vk,vn,vt⟩ _ hp hT oj (by omega) b5 b4 (by omega)) (fun ps p1 v1 bs1 k1 m3 hq1 hp1 hb1 hk1 hl1 _ hk2 oq=>?_) (fun m3 hq1 oq=>?_)
    ·refine aCY rfl ?_
     exact aC1 hq1 (oq.sel [0,1] rfl) hp1 hb1 hk1 (by omega) (by omega)
    ·exact⟨hq1,rfl,oq⟩
   ·have hq:jS ⟨xv,xa,true,⟨vk,vn,vt⟩⟩=none:=by unfold jS;rw[if_pos rfl,if_neg (fun h=>ha h.2)]
    (refine aCq o rfl ?_;intro b60 m60 o60);refine rR (fA fN rfl rfl rfl ?_);refine rR (aCc o60 2 rfl ty4 rfl rfl ?_);refine aCQ ?_;refine rR (fA fN rfl rfl rfl ?_);refine rR (aCc o60 2 rfl aL rfl rfl ?_);refine aCP (fun c65=>?_) (fun hc=>absurd (by omega) hc);refine rR (fA fN rfl rfl rfl ?_);refine rR (aCc o60 2 rfl aL rfl rfl ?_);refine aCh ‹_› (aE _ _) (fun e1 m2 _ oq=>absurd (of_decide_eq_true e1) ha) fun e1 m2 oq=>?_
    exact⟨hq,rfl,oq⟩
  ·have hq:jS ⟨xv,xa,true,⟨vk,vn,vt⟩⟩=none:=by unfold jS;rw[if_pos rfl,if_neg (fun h=>hv h.1)]
   (refine aCq o rfl ?_;intro b80 m80 o80);refine rR (fA fN rfl rfl rfl ?_);refine rR (aCc o80 2 rfl ty4 rfl rfl ?_);refine aCQ ?_;refine rR (fA fN rfl rfl rfl ?_);refine rR (aCc o80 2 rfl aL rfl rfl ?_);refine aCP (fun hc=>absurd hc (by omega)) (fun c85=>?_);refine aCh ‹_› (aE _ _) (fun e1 m2 _ oq=>by cases e1) fun e1 m2 oq=>?_
   exact⟨hq,rfl,oq⟩
 | false =>
  by_cases hz:vk=0∧vn=0∧vt=[]
  case neg =>
   have hq:jS ⟨xv,xa,false,⟨vk,vn,vt⟩⟩=none:=by unfold jS;rw[if_neg (by simp),if_pos hz]
   have hzb:(decide (vk=0)&&(decide (vn=0)&&(decide (vt=[])&&true)))=false:=by
    rw[aDq]
    intro h
    simp at h
    exact hz ⟨h.1,h.2.1,h.2.2⟩
   by_cases hv:xv=[]
   ·(refine aCq o rfl ?_;intro b100 m100 o100)
    refine rR (fA fN rfl rfl rfl ?_);refine rR (aCc o100 2 rfl ty4 rfl rfl ?_);refine aCR ?_;refine rR (fA fN rfl rfl rfl ?_);refine rR (aCc o100 2 rfl aL rfl rfl ?_);refine aCP (fun c105=>?_) (fun hc=>absurd (by omega) hc);refine rR (fA fN rfl rfl rfl ?_);refine rR (aCc o100 2 rfl aL rfl rfl ?_);refine rR (fA fN rfl rfl rfl ?_);refine rR (aCg o100 2 rfl bS rfl rfl rfl ?_);refine rR (aCl cN ?_);refine rR (eqS qD rfl rfl rfl rfl ?_);refine Br.ffE ‹_› ?_;refine aCh ‹_› (aE _ _) (fun e1 m2 _ oq=>by cases e1) fun e1 m2 oq=>?_
    exact⟨hq,rfl,oq⟩
   ·(refine aCq o rfl ?_;intro b150 m150 o150)
    refine rR (fA fN rfl rfl rfl ?_);refine rR (aCc o150 2 rfl ty4 rfl rfl ?_);refine aCR ?_;refine rR (fA fN rfl rfl rfl ?_);refine rR (aCc o150 2 rfl aL rfl rfl ?_);refine aCP (fun hc=>absurd hc (by omega)) (fun c155=>?_);refine rR (fA fN rfl rfl rfl ?_);refine rR (aCg o150 2 rfl bS rfl rfl rfl ?_);refine rR (aCl cN ?_);refine rR (eqS qD rfl rfl rfl rfl ?_);refine Br.ffE ‹_› ?_;refine aCh ‹_› (aE _ _) (fun e1 m2 _ oq=>by cases e1) fun e1 m2 oq=>?_
    exact⟨hq,rfl,oq⟩
  obtain⟨rfl,rfl,rfl⟩:=hz
  by_cases hv:xv=[]
  ·subst hv
   have hq:jS ⟨[],xa,false,⟨0,0,[]⟩⟩=if reserved xa=true then none else aZ [32] xa:=by unfold jS;rw[if_neg (by simp),if_neg (by simp),if_pos rfl]
   (refine aCq o rfl ?_;intro b200 m200 o200);refine rR (fA fN rfl rfl rfl ?_);refine rR (aCc o200 2 rfl ty4 rfl rfl ?_);refine aCR ?_;refine rR (fA fN rfl rfl rfl ?_);refine rR (aCc o200 2 rfl aL rfl rfl ?_);refine aCQ ?_;refine rR (fA fN rfl rfl rfl ?_);refine rR (aCc o200 2 rfl aL rfl rfl ?_);refine rR (fA fN rfl rfl rfl ?_);refine rR (aCg o200 2 rfl bS rfl rfl rfl ?_);refine rR (aCl cN ?_);refine rR (eqS qD rfl rfl rfl rfl ?_);refine aCQ ?_;(refine aCM o200 aK aL rfl rfl (by decide) (aI rfl ?_);intro b211 m211 o211);refine aCT (rQ [[116,114,117,101],[102,97,108,115,101],[110,117,108,108]] xa _ _ (Own.boxArr ‹_› 3 rfl rfl (by decide)) (by decide)) ?_;rintro _ m1 ⟨rfl,oc⟩;have o1:=oc.thenE (B:=B) ‹_›
   rw[← tT]
   clear oc;cases hr:reserved xa with
   | true =>
    refine aCh ‹_› (aE _ _) (fun e1 m2 _ oq=>by cases e1) fun e1 m2 oq=>?_
    exact⟨hq.trans (by rw[if_pos hr]),rfl,oq⟩
   | false =>
    refine aCh ‹_› (aE _ _) (fun e1 m2 _ oq=>?_) fun e1 m2 oq=>by cases e1
    rw[if_neg (by rw[hr];decide)]at hq
    refine aCS [0,1,2,3,5] [] [4,6,7] [0,1,2,3,4,5,6,7] mixed (by kernel_rfl) rfl (fun _ _ _ _ h=>h) ?_;refine nC rfl ?_;refine fA bO rfl rfl rfl ?_;refine aCh ‹_› (bJ xa _ (by omega)) (fun e2 m3 _ oq=>?_) fun e2 m3 oq=>?_
    ·have hnl:=cR e2
     refine aCm rfl rfl (by first|omega|(simp;omega)) ?_;(refine aCM oq aK aL rfl rfl (by decide) (aI rfl ?_);intro b351 m351 o351);refine aH [[32]++xa] 1 30 [2] (i:=4) ‹_› rfl rfl rfl hp rfl (by omega) (by omega) (by simp;omega) (by omega) (by omega) (fun p1 v1 bs1 k1 m1 hp1 hb1 hk1 hl1 oq=>?_);have o4:=oq
     simp only[pick,lgS,lgZ]at o4
     clear oq;refine rR (fA fN rfl rfl rfl ?_);refine rR (aCc o4 2 rfl aL rfl rfl ?_);refine aCR ?_;refine aCY rfl ?_;exact aC1 (hq.trans (aA e2)) (Own.sel ‹_› [0,1] rfl) hp1 (by rw[hb1];simp[bG,fL,wr,aD]) hk1 (by omega) (by omega)
    ·exact⟨hq.trans (cS e2),rfl,oq⟩
  ·have hq:jS ⟨xv,xa,false,⟨0,0,[]⟩⟩=if reserved xv=true then none else dW xv xa:=by unfold jS;rw[if_neg (by simp),if_neg (by simp),if_neg hv]
   (refine aCq o rfl ?_;intro b400 m400 o400);refine rR (fA fN rfl rfl rfl ?_);refine rR (aCc o400 2 rfl ty4 rfl rfl ?_);refine aCR ?_;refine rR (fA fN rfl rfl rfl ?_);refine rR (aCc o400 2 rfl aL rfl rfl ?_);refine aCP (fun hc=>absurd hc (by omega)) (fun c405=>?_);refine rR (fA fN rfl rfl rfl ?_);refine rR (aCg o400 2 rfl bS rfl rfl rfl ?_);refine rR (aCl cN ?_);refine rR (eqS qD rfl rfl rfl rfl ?_);refine aCQ ?_;(refine aCM o400 aK aL rfl rfl (by decide) (aI rfl ?_);intro b410 m410 o410);refine aCT (rQ [[116,114,117,101],[102,97,108,115,101],[110,117,108,108]] xv _ _ (Own.boxArr ‹_› 3 rfl rfl (by decide)) (by decide)) ?_;rintro _ m1 ⟨rfl,oc⟩;have o1:=oc.thenE (B:=B) ‹_›
   rw[← tT]
   clear oc;cases hr:reserved xv with
   | true =>
    refine aCh ‹_› (aE _ _) (fun e1 m2 _ oq=>by cases e1) fun e1 m2 oq=>?_
    exact⟨hq.trans (by rw[if_pos hr]),rfl,oq⟩
   | false =>
    refine aCh ‹_› (aE _ _) (fun e1 m2 _ oq=>?_) fun e1 m2 oq=>by cases e1
    rw[if_neg (by rw[hr];decide)]at hq
    refine aCS [0,1,2,3,5] [] [4,6,7] [0,1,2,3,4,5,6,7] mixed (by kernel_rfl) rfl (fun _ _ _ _ h=>h) ?_;refine nC rfl ?_;refine fA bO rfl rfl rfl ?_;refine aCh ‹_› (bJ xv _ (by omega)) (fun e2 m3 _ oq=>?_) fun e2 m3 oq=>?_
    ·have hnl:=cR e2
     refine aCm rfl rfl (by first|omega|(simp;omega)) ?_;(refine aCM oq aK aL rfl rfl (by decide) (aI rfl ?_);intro b551 m551 o551);refine aH [[32]++xv] 1 30 [2] (i:=4) ‹_› rfl rfl rfl hp rfl (by omega) (by omega) (by simp;omega) (by omega) (by omega) (fun p1 v1 bs1 k1 m1 hp1 hb1 hk1 hl1 oq=>?_);have o4:=oq
     simp only[pick,lgS,lgZ]at o4
     clear oq;refine rR (fA fN rfl rfl rfl ?_);refine rR (aCc o4 2 rfl aL rfl rfl ?_);refine aCi (fun c582=>?_) (fun hc=>absurd hc (by first|omega|assumption|decide|exact rfl));refine aCS [0,1,2,3] [4] [5,6,7] [0,1,2,3,4,5,6,7] mixed (by kernel_rfl) rfl (fun _ _ _ _ h=>h) ?_;refine nC rfl ?_;refine fA bO rfl rfl rfl ?_;refine fA fN rfl rfl rfl ?_;refine aCc o4 2 rfl aL rfl rfl ?_;refine aCh ‹_› (bJ xa _ (by omega)) (fun e3 m3 _ oq=>?_) fun e3 m3 oq=>?_
     ·have hnl2:=cR e3
      (refine aCM oq aK aL rfl rfl (by decide) (aI rfl ?_);intro b600 m600 o600);refine aH [[46],xa] 2 30 [2] (i:=3) ‹_› rfl rfl rfl hp1 rfl (by omega) (by omega) (by simp;omega) (by omega) (by omega) (fun p2 v2 bs2 k2 m1 hp2 hb2 hk2 hl2 oq=>?_);have o5:=oq
      simp only[pick,lgS,lgZ]at o5
      clear oq;refine aCY rfl ?_;have hpl:dW xv xa=some [aD [32] xv,aO [] [46],aD [] xa]:=by unfold dW;simp only[aA e2,aA e3,aJ,oMS];rfl
      exact aC1 (hq.trans hpl) (Own.sel ‹_› [0,1] rfl) hp2 (by rw[hb2,hb1];simp[bG,fL,wr,aD,aO]) (by rw[hk2,hk1];simp;omega) (by omega) (by omega)
     ·exact⟨hq.trans (by unfold dW;simp only[aA e2,cS e3,aJ,oMN]),rfl,oq⟩
    ·exact⟨hq.trans (by unfold dW;simp only[cS e2,aJ]),rfl,oq⟩
def cZ {α:Type}(one:Nat→α→Option (List Pc))(l:List α):Option (List Pc):=aJ (l.mapIdx one)
theorem zV {α:Type}{one:Nat→α→Option (List Pc)}{l:List α}{i:Nat}{x:α}{p:List Pc}(hx:l[i]?=some x)(hp:cZ one (l.take i)=some p):cZ one (l.take (i+1))=(one i x).map (p++·):=by
 have hi:i<l.length:=(aC6.1 hx).1;have ht:l.take (i+1)=l.take i++[x]:=by rw[aDN,hx];simp
 unfold cZ at hp ⊢
 rw[ht,List.mapIdx_append,iH,hp]
 have hl:(l.take i).length=i:=by rw[aDE];omega
 rw[hl]
 show(match some p,aJ [one (0+i) x] with
  | some p,some q=>some (p++q)
  | _,_=>none)=_
 rw[aDp]
 cases one i x<;>simp[aJ]
theorem loopQ_none {α:Type}{one:Nat→α→Option (List Pc)}{l:List α}{i:Nat}(hp:cZ one (l.take i)=none):cZ one l=none:=by
 have:cZ one (l.take i++l.drop i)=none:=by
  unfold cZ at hp ⊢
  rw[List.mapIdx_append,iH,hp]
 rwa [aDJ]at this
theorem aR {α:Type}{one:Nat→α→Option (List Pc)}{l:List α}{i:Nat}{x:α}{p:List Pc}(hx:l[i]?=some x)(hp:cZ one (l.take i)=some p)(h:one i x=none):cZ one l=none :=
 loopQ_none (i:=i+1) (by rw[zV hx hp,h];rfl)
theorem bA {α:Type}{one:Nat→α→Option (List Pc)}{l:List α}{i:Nat}{x:α}{p q:List Pc}(hx:l[i]?=some x)(hp:cZ one (l.take i)=some p)(h:one i x=some q):cZ one (l.take (i+1))=some (p++q):=by
 rw[zV hx hp,h];rfl
theorem fR {α:Type}{one:Nat→α→Option (List Pc)}{l:List α}{i:Nat}{o:Option (List Pc)}(hi:l.length≤i)(hp:cZ one (l.take i)=o):cZ one l=o:=by
 rwa [aDm hi]at hp
theorem pN {α β:Type}(f0 f1:α→β)(x:α)(r:List α):(x::r).mapIdx (fun i y=>if i=0 then f0 y else f1 y)=f0 x::r.map f1:=by
 rw[List.mapIdx_cons]
 congr 1
 simp only[Nat.add_one_ne_zero,if_false]
 induction r with
 | nil=>rfl
 | cons y r ih=>rw[List.mapIdx_cons,ih];rfl
theorem seqQ_last (a l:List (Option (List Pc))):aJ (a++l)=aJ (a++[aJ l]):=by
 rw[iH,iH]
 cases aJ a with
 | none=>rfl
 | some p =>
  cases aJ l with
  | none=>rfl
  | some q=>simp[aJ]
def uR (i:Nat)(x:Cnd):Option (List Pc):=(uQ x).map ((if i=0 then aD [32] [119,104,101,114,101] else aD [32] [97,110,100])::·)
theorem aA9 (p:Pc)(o:Option (List Pc))(r:List (Option (List Pc))):aJ (some [p]::o::r)=aJ (o.map (p::·)::r):=by
 cases o with
 | none=>rfl
 | some q =>
  show((aJ r).map (q++·)).map ([p]++·)=(aJ r).map ((p::q)++·)
  rw[Option.map_map]
  rfl
theorem condsQ_loop (l:List Cnd)(h:l≠[]):nO l=cZ uR l:=by
 cases l with
 | nil=>exact absurd rfl h
 | cons x r =>
  show aJ (some [aD [32] [119,104,101,114,101]]::uQ x::r.map fun y=>(uQ y).map (aD [32] [97,110,100]::·))=_
  unfold cZ
  rw[aA9]
  congr 1
  have:=pN (fun x=>(uQ x).map (aD [32] [119,104,101,114,101]::·)) (fun x=>(uQ x).map (aD [32] [97,110,100]::·)) x r
  rw[← this]
  congr 1
  funext i y
  unfold uR;split<;>rfl
def dY {α:Type}(one:aBs→α→Option (List Pc))(i:Nat)(x:α):Option (List Pc):=if i=0 then one [] x else(one [32] x).map (aO [] [44]::·)
theorem xE {α:Type}(one:aBs→α→Option (List Pc))(l:List α)(h:l≠[]):dJ one [] l=cZ (dY one) l:=by
 cases l with
 | nil=>exact absurd rfl h
 | cons x r =>
  show aJ (one [] x::r.map fun y=>(one [32] y).map (aO [] [44]::·))=_
  unfold cZ
  rw[show(x::r).mapIdx (dY one)=_ from pN (one []) (fun y=>(one [32] y).map (aO [] [44]::·)) x r]
def fixI (i:Nat)(x:Nmd):Option (List Pc):=(aAR x).map ((if i=0 then aD [32] [119,104,101,114,101] else aO [] [44])::·)
theorem fixedQ_loop (l:List Nmd):aAl l=cZ fixI l:=by
 cases l with
 | nil=>rfl
 | cons x r =>
  show aJ (some [aD [32] [119,104,101,114,101]]::aAR x::r.map fun y=>(aAR y).map (aO [] [44]::·))=_
  unfold cZ
  rw[aA9]
  congr 1
  have:=pN (fun x=>(aAR x).map (aD [32] [119,104,101,114,101]::·)) (fun x=>(aAR x).map (aO [] [44]::·)) x r
  rw[← this]
  congr 1
  funext i y
  unfold fixI;split<;>rfl
theorem terms_loop (l:List Trm):aJ (l.map bI)=cZ (fun _=>bI) l:=by
 unfold cZ
 congr 1
 induction l with
 | nil=>rfl
 | cons x r ih=>rw[List.mapIdx_cons,aDx,ih]
def nW:aVs→aVs→Option Bool
 | [],[]=>some true
 | a::xs,b::ys=>match scEq a b,nW xs ys with
  | some p,some q=>some (p&&q)
  | _,_=>none
 | _,_=>none
theorem cmpL_app:∀ {a c b d:aVs}{r:Bool},a.length=c.length→nW (a++b) (c++d)=some r→∃ p q,nW a c=some p∧nW b d=some q∧r=(p&&q)
 | [],[],b,d,r,_,h=>⟨true,r,rfl,h,by simp⟩
 | x::a,y::c,b,d,r,hl,h=>by
  simp only[lcA,nW]at h
  split at h
  ·rename_i p q hp hq
   obtain⟨p',q',h1,h2,rfl⟩:=cmpL_app (a:=a) (c:=c) (by simpa using hl) hq
   refine⟨p&&p',q',?_,h2,?_⟩
   ·simp only[nW,hp,h1]
   ·simp only[Option.some.injEq]at h
    rw[← h,Bool.and_assoc]
  ·cases h
 | [],y::c,_,_,_,hl,_=>by simp at hl
 | x::a,[],_,_,_,hl,_=>by simp at hl
theorem aAx:∀ {a b:aVs}{r:Bool},nW a b=some r→a.length=b.length
 | [],[],_,_=>rfl
 | x::a,y::b,r,h=>by
  simp only[nW]at h
  split at h
  ·rename_i p q hp hq
   simp[aAx hq]
  ·cases h
 | [],_::_,_,h=>by simp[nW]at h
 | _::_,[],_,h=>by simp[nW]at h
section
variable {P : Program}
def FitsC (b:Bool)(ks:List Nat)(v v':Value)(r:Bool):Prop:=match b with
 | true=>∃ xs ys,v=.agg ⟨xs⟩∧v'=.agg ⟨ys⟩∧xs.map iX=ks∧nW xs ys=some r
 | false=>[iX v]=ks∧scEq v v'=some r
theorem part_fitsC {t:TypeId}{b:Bool}{ks:List Nat}{xs ys:aVs}{o:Nat}{u:TypeDesc}{r:Bool}(hu:P.underlying t=some u)(hb:kX u=b)(hs:(P.info? t).map (·.size)=some ks.length)(hk:((xs.drop o).take ks.length).map iX=ks)
  (hc:nW ((xs.drop o).take ks.length) ((ys.drop o).take ks.length)=some r) (h1:b=false→ks.length=1) (w:World) :
  ∃ v v',(part t (⟨xs⟩:Array Value) o).run P w=.ok v w∧(part t (⟨ys⟩:Array Value) o).run P w=.ok v' w∧FitsC b ks v v' r:=by
 have hI:(isAgg t).run P w=.ok b w:=by
  simp only[isAgg,Sem.run_bind,run_underlying hu,Result.andThen_ok]
  subst hb;cases u<;>simp[kX]
 cases b with
 | true =>
  obtain⟨i,hi,hsz⟩:=aDi.1 hs
  have hS:(sizeOf t).run P w=.ok ks.length w:=by simp[sizeOf,typeInfo,hi,hsz]
  have ex:∀ zs:aVs,Value.agg ((⟨zs⟩:Array Value).extract o (o+ks.length))=.agg ⟨(zs.drop o).take ks.length⟩:=fun zs=>by
   congr 1
   apply Array.toList_inj.1
   simp[List.take_drop]
  exact⟨.agg ((⟨xs⟩:Array Value).extract o (o+ks.length)),.agg ((⟨ys⟩:Array Value).extract o (o+ks.length)),by simp[part,hI,hS],by simp[part,hI,hS],_,_,ex xs,ex ys,hk,hc⟩
 | false =>
  have hl:=h1 rfl
  match ks,hl with
  | [k],_ =>
   cases hx:xs.drop o with
   | nil=>rw[hx]at hk;simp at hk
   | cons y l =>
    rw[hx]at hk hc
    cases hy:ys.drop o with
    | nil=>rw[hy]at hc;simp[nW]at hc
    | cons y' l' =>
     rw[hy]at hc
     have h2:xs[o]?=some y:=by
      have:=congrArg (·[0]?) hx
      simpa using this
     have h3:ys[o]?=some y':=by
      have:=congrArg (·[0]?) hy
      simpa using this
     refine⟨y,y',by simp[part,hI,h2],by simp[part,hI,h3],?_⟩
     simp only[aDb,aDn,aDv,List.take_zero,nW]at hc
     simp only[aDb,aDn,aDv,List.take_zero,aDx,List.map_nil]at hk
     refine⟨hk,?_⟩
     split at hc
     ·rename_i p q hp hq
      simp only[Option.some.injEq]at hq hc
      subst hq
      rw[hp,← hc]
      simp
     ·cases hc
theorem aAo {D:Nat}{rec_:TypeId→Option (Bool×List Nat)}{xs ys:aVs}(w:World)
  (hu:∀ t b ks,rec_ t=some (b,ks)→(∃ u,P.underlying t=some u∧kX u=b)∧(b=false→ks.length=1))
  (hr:∀ t b ks v v' r,rec_ t=some (b,ks)→FitsC b ks v v' r→(Op.equalIn D t v v').run P w=.ok r w) :
  ∀(fs:List Field) (o:Nat) (ks:List Nat) (r:Bool),goF P rec_ fs o=some ks→(xs.drop o).map iX=ks→nW (xs.drop o) (ys.drop o)=some r→(Op.eqFields D ⟨xs⟩ ⟨ys⟩ fs).run P w=.ok r w
 | [],o,ks,r,h,hk,hc=>by
  cases h
  have h0:xs.drop o=[]:=by simpa using hk
  rw[h0]at hc
  have:=aAx hc
  rw[aDB.1 this.symm]at hc
  simp only[nW,Option.some.injEq]at hc
  subst hc
  simp[Op.eqFields]
 | f::fs,o,ks,r,h,hk,hc=>by
  unfold goF at h;split at h
  ·rename_i hn
   simp only[aC8,bne_iff_ne,ne_eq,beq_iff_eq]at hn
   obtain⟨hn,rfl⟩:=hn
   split at h
   ·cases h
   ·rename_i b k1 hrec
    split at h
    ·rename_i hsz
     simp only[beq_iff_eq]at hsz
     obtain⟨k2,h2,h3⟩:=aDi.1 h
     subst h3
     obtain⟨⟨u,hu1,hu2⟩,h1⟩:=hu _ _ _ hrec
     have hka:((xs.drop f.offset).take k1.length).map iX=k1:=by
      have:=congrArg (List.take k1.length) hk
      rw[← List.map_take]at this
      simpa using this
     have hkb:(xs.drop (f.offset+k1.length)).map iX=k2:=by
      have:=congrArg (List.drop k1.length) hk
      rw[← List.map_drop,aDA]at this
      simpa using this
     have hll:=aAx hc;have hs1:nW ((xs.drop f.offset).take k1.length++(xs.drop f.offset).drop k1.length) ((ys.drop f.offset).take k1.length++(ys.drop f.offset).drop k1.length)=some r:=by
      rw[aDJ,aDJ];exact hc
     obtain⟨p,q,hp1,hq1,rfl⟩:=cmpL_app (by rw[aDE,aDE,hll]) hs1
     rw[aDA,aDA]at hq1
     obtain⟨v,v',hp,hp',hf⟩:=part_fitsC (P:=P) hu1 hu2 hsz hka hp1 h1 w
     have ih:=aAo (xs:=xs) (ys:=ys) w hu hr fs _ k2 q h2 hkb hq1
     simp only[Op.eqFields,Sem.run_bind,Sem.run_ite]
     rw[if_pos hn,hp]
     simp only[Result.andThen_ok]
     rw[hp']
     simp only[Result.andThen_ok]
     rw[hr _ _ _ _ _ _ hrec hf]
     cases p
     ·simp
     ·simpa using ih
    ·cases h
  ·cases h
theorem deep_cmp (w:World):∀(d e:Nat)(t:TypeId)(b:Bool)(ks:List Nat)(v v':Value)(r:Bool),rO P d t=some (b,ks)→FitsC b ks v v' r→(Op.equalIn (d+e) t v v').run P w=.ok r w
 | 0,_,_,_,_,_,_,_,h,_=>by cases h
 | d+1,e,t,b,ks,v,v',r,h,hf=>by
  rw[show d+1+e=(d+e)+1 by omega]
  unfold rO at h;split at h
  ·rename_i hu
   cases h
   obtain⟨h1,h2⟩:=hf
   simp only[List.cons.injEq,and_true]at h1
   exact mM w (by rw[hu,h1];rfl) (by rw[h1];decide) h2
  ·rename_i hu
   cases h
   obtain⟨h1,h2⟩:=hf
   simp only[List.cons.injEq,and_true]at h1
   exact mM w (by rw[hu,h1];rfl) (by rw[h1];decide) h2
  ·rename_i hu
   cases h
   obtain⟨h1,h2⟩:=hf
   simp only[List.cons.injEq,and_true]at h1
   exact mM w (by rw[hu,h1];rfl) (by rw[h1];decide) h2
  ·rename_i fs hu
   split at h
   ·cases h
   ·rename_i hst
    obtain⟨k',h1,h2⟩:=aDi.1 h
    cases h2
    obtain⟨xs,ys,rfl,rfl,hk,hc⟩:=hf
    have hfo:P.fieldsOf t=fs:=by simp[Program.fieldsOf,hu]
    rw[run_equalIn_struct w _ t ⟨xs⟩ ⟨ys⟩ (by rw[hfo];exact hu) (by simpa using hst),hfo]
    exact aAo w (fun t b ks h=>⟨deepP_und h,fun hb=>by subst hb;exact deepP_one h⟩) (fun t b ks v v' r h hf=>deep_cmp w d e t b ks v v' r h hf) fs.toList 0 _ r h1 (by simpa using hk) (by simpa using hc)
  ·cases h
variable {ty : TypeId} {s : aVs} {h : Heap} {K : KK} {Q : QQ}
theorem StillVC.neDeep {pr:Bool}{t t':TypeId}{x y:Operand}{xs ys:aVs}{ks:List Nat}{r:Bool}(hp:rO P 5 t=some (true,ks))(hg:P.eqGuardType P.depth t=false)(hx:ev s x=.agg ⟨xs⟩)(hy:ev s y=.agg ⟨ys⟩)(hk:xs.map iX=ks)
  (hc:nW xs ys=some r) (hK:K (.bool (!r)) false h):StillVC pr P (.binOp .neq t x y t') ty s h K :=
 .pure' _ false (fun w=>by
  have hr:(Op.equalIn 10000 t (.agg ⟨xs⟩) (.agg ⟨ys⟩)).run P w=.ok r w:=deep_cmp w 5 9995 t true ks _ _ r hp ⟨xs,ys,rfl,rfl,hk,hc⟩
  simp only[execOp,hx,hy,Sem.run_bind,run_eqGuard_agg w .neq t x y _ _ hg,Result.andThen_ok,run_neq_struct,hr,Sem.run_pure]) hK
end
theorem cmp_cnd (x y:Cnd):∃ r,nW (nP x) (nP y)=some r∧(r=true↔x=y):=by
 obtain⟨⟨a1,a2,a3,⟨a4,a5,a6⟩⟩,a7,⟨a8,a9,a10,⟨a11,a12,a13⟩⟩,a14⟩:=x
 obtain⟨⟨b1,b2,b3,⟨b4,b5,b6⟩⟩,b7,⟨b8,b9,b10,⟨b11,b12,b13⟩⟩,b14⟩:=y
 exact⟨_,rfl,by simp only[aC8,decide_eq_true_eq,Cnd.mk.injEq,Opd.mk.injEq,Vl.mk.injEq,and_assoc,and_true]⟩
theorem cmp_col (x y:Col):∃ r,nW (uT x) (uT y)=some r∧(r=true↔x=y):=by
 obtain⟨a1,a2,⟨a3,a4,a5⟩⟩:=x
 obtain⟨b1,b2,⟨b3,b4,b5⟩⟩:=y
 exact⟨_,rfl,by simp only[aC8,decide_eq_true_eq,Col.mk.injEq,Vl.mk.injEq,and_true]⟩
theorem cmp_trm (x y:Trm):∃ r,nW (xT x) (xT y)=some r∧(r=true↔x=y):=by
 obtain⟨a1,a2,a3,a4,a5,a6,a7⟩:=x
 obtain⟨b1,b2,b3,b4,b5,b6,b7⟩:=y
 exact⟨_,rfl,by simp only[aC8,decide_eq_true_eq,Trm.mk.injEq,and_true]⟩
theorem cmp_vr (x y:Vr):∃ r,nW (vrC x) (vrC y)=some r∧(r=true↔x=y):=by
 obtain⟨a1,a2⟩:=x
 obtain⟨b1,b2⟩:=y
 exact⟨_,rfl,by simp only[aC8,decide_eq_true_eq,Vr.mk.injEq,and_true]⟩
abbrev Apart (o:Option (List Pc)):Prop:=∀ ps,o=some ps→Flow false ps
abbrev jP (o:Option (List Pc)):Prop:=∀ ps,o=some ps→Flow true ps
theorem Apart.open {o:Option (List Pc)}(h:Apart o):jP o:=fun ps e=>(h ps e).mono
theorem eU {l:List Pc}(h:Flow false l):Apart (some l):=fun ps e=>by cases e;exact h
theorem fP:Apart none:=fun ps e=>by cases e
theorem cF:Apart (aJ []):=fun ps e=>by obtain rfl:=dG e;trivial
theorem bD {x:Option (List Pc)}{r:List (Option (List Pc))}(hx:Apart x)(hr:Apart (aJ r)):Apart (aJ (x::r)):=fun ps e=>by
 obtain⟨a,b,h1,h2,rfl⟩:=aG e
 exact Flow.app (hr b h2) (hx a h1)
theorem pU {x:Option (List Pc)}{r:List (Option (List Pc))}(hx:jP x)(hr:Apart (aJ r)):jP (aJ (x::r)):=fun ps e=>by
 obtain⟨a,b,h1,h2,rfl⟩:=aG e
 exact Flow.app (hr b h2) (hx a h1)
theorem dB {c:Prop} [Decidable c] {a b:Option (List Pc)}(ha:Apart a)(hb:Apart b):Apart (if c then a else b):=by
 split
 ·exact ha
 ·exact hb
theorem gI {p:Pc}{r:List Pc}(hg:mK p.t)(hb:okB p.b=true)(hs:mZ (fL p)=true)(hr:Flow (wZ p.t) r):Flow false (p::r):=⟨hg,hb,.inr hs,hr⟩
theorem wH {p:Pc}{o:Option (List Pc)}(hg:mK p.t)(hb:okB p.b=true)(hs:mZ (fL p)=true)(h:Apart o):Apart (o.map (p::·)):=fun ps e=>by
 obtain⟨q,hq,rfl⟩:=aDi.1 e
 exact gI hg hb hs (h q hq).mono
theorem ap_mapO {p:Pc}{o:Option (List Pc)}(hg:mK p.t)(hb:okB p.b=true)(hs:mZ (fL p)=true)(ho:wZ p.t=true)(h:jP o):Apart (o.map (p::·)):=fun ps e=>by
 obtain⟨q,hq,rfl⟩:=aDi.1 e
 exact gI hg hb hs (by rw[ho];exact h q hq)
theorem yF {p:Pc}{r:List (Option (List Pc))}(hg:mK p.t)(hb:okB p.b=true)(hs:mZ (fL p)=true)(ho:wZ p.t=true)(h:jP (aJ r)):Apart (aJ (some [p]::r)):=fun ps e=>by
 obtain⟨a,b,h1,h2,rfl⟩:=aG e
 cases h1
 exact gI hg hb hs (by rw[ho];exact h b h2)
theorem apO_one {p:Pc}(hg:mK p.t)(hb:okB p.b=true):jP (some [p]):=fun ps e=>by cases e;exact⟨hg,hb,.inl rfl,trivial⟩
theorem mD {p:Pc}(hg:mK p.t)(hb:okB p.b=true)(hs:mZ (fL p)=true):Apart (some [p]):=eU (gI hg hb hs trivial)
theorem yU {b l:aBs}(hb:okB b=true)(hn:b≠[]):mZ (b++l)=true:=by
 rcases of_decide_eq_true hb with rfl|rfl|rfl|rfl
 ·exact absurd rfl hn
 ·rfl
 ·rfl
 ·rfl
theorem aB9 {b s:aBs}(hb:okB b=true)(hn:b≠[]):Apart (aZ b s):=fun ps e=>by
 obtain⟨h,rfl⟩:=fQ e
 exact gI (iV h) hb (yU hb hn) trivial
theorem uV {b s:aBs}(hb:okB b=true):jP (aZ b s):=fun ps e=>by
 obtain⟨h,rfl⟩:=fQ e
 exact⟨iV h,hb,.inl rfl,trivial⟩
theorem ap_num {b:aBs}{n:Int}(hb:okB b=true)(hn:b≠[]):Apart (iD b n):=fun ps e=>by
 obtain⟨h,rfl⟩:=vM e
 exact gI (nL h) hb (yU hb hn) trivial
theorem apO_num {b:aBs}{n:Int}(hb:okB b=true):jP (iD b n):=fun ps e=>by
 obtain⟨h,rfl⟩:=vM e
 exact⟨nL h,hb,.inl rfl,trivial⟩
theorem sG {n:Int}{ws:List aBs}(h:∀ s∈ws,eW s=true):Apart (gB n ws):=fun ps e=>by
 obtain⟨j,rfl,s,hs,rfl⟩:=sT e
 exact gI (iV (h s (aC7 hs))) rfl rfl trivial
theorem ap_op {n:Int}:Apart (opQ n):=fun ps e=>by
 obtain⟨j,rfl,s,hs,rfl⟩:=zM e
 have:s∈([[61],[33,61],[60],[60,61]]:List aBs):=aC7 hs
 simp at this
 rcases this with rfl|rfl|rfl|rfl<;>exact gI rfl rfl rfl trivial
theorem oM {s:aBs}(h:eW s=true):Apart (some [aD [32] s]):=mD (iV h) rfl rfl
theorem pC {α:Type}{one:α→Option (List Pc)}(h:∀ x,Apart (one x)):∀(l:List α),Apart (aJ (l.map one))
 | []=>cF
 | x::l=>bD (h x) (pC h l)
theorem ap_list {α:Type}{one:aBs→α→Option (List Pc)}{b:aBs}(h0:∀ x,Apart (one b x))(h:∀ x,Apart (one [32] x)):∀(l:List α),Apart (hH one b l)
 | []=>eU (l:=[]) trivial
 | x::r=>bD (h0 x) (pC (fun y=>wH (p:=aO [] [44]) rfl rfl rfl (h y)) r)
theorem apO_list {α:Type}{one:aBs→α→Option (List Pc)}{b:aBs}(h0:∀ x,jP (one b x))(h:∀ x,Apart (one [32] x)):∀(l:List α),jP (hH one b l)
 | []=>(eU (l:=[]) trivial).open
 | x::r=>pU (h0 x) (pC (fun y=>wH (p:=aO [] [44]) rfl rfl rfl (h y)) r)
theorem aAG {α:Type}{one:aBs→α→Option (List Pc)}{b:aBs}(h0:∀ x,jP (one b x))(h:∀ x,Apart (one [32] x)):∀(l:List α),jP (dJ one b l)
 | []=>fP.open
 | x::r=>apO_list h0 h (x::r)
theorem aBB {α:Type}{one:aBs→α→Option (List Pc)}{b:aBs}(h0:∀ x,Apart (one b x))(h:∀ x,Apart (one [32] x)):∀(l:List α),Apart (dJ one b l)
 | []=>fP
 | x::r=>ap_list h0 h (x::r)
theorem jX (s:aBs):Apart (aZ [32] s):=aB9 rfl (by simp)
theorem xR (n:Int):Apart (iD [32] n):=ap_num rfl (by simp)
theorem ap_names (l:List aBs):Apart (hH aZ [32] l):=ap_list (fun x=>jX x) (fun x=>jX x) l
theorem aBC (l:List aBs):jP (dJ aZ [] l):=aAG (fun _=>uV rfl) (fun x=>jX x) l
theorem aAF (v:Vl):Apart (bX v):=by
 unfold bX;refine dB (dB (oM rfl) fP) (dB ?_ (dB ?_ (dB ?_ (dB (dB ?_ fP) fP))))
 ·split
  ·rename_i h
   exact mD (good_txt h.2) rfl rfl
  ·exact fP
 ·split
  ·rename_i h
   split
   ·rename_i hn
    exact eU (gI rfl rfl rfl ⟨nL (decide_eq_true (by omega)),rfl,.inl rfl,trivial⟩)
   ·rename_i hn
    exact mD (nL (decide_eq_true (by omega))) rfl rfl
  ·exact fP
 ·split
  ·rename_i h
   exact eU (gI rfl rfl rfl ⟨nL h.2,rfl,.inl rfl,trivial⟩)
  ·exact fP
 ·split
  ·exact oM rfl
  ·exact oM rfl
theorem rT (t a:aBs):Apart (dW t a):=bD (jX t) (yF rfl rfl rfl rfl (pU (uV rfl) cF))
theorem ap_side (x:Opd):Apart (jS x):=by
 unfold jS;exact dB (dB (aAF _) fP) (dB fP (dB (dB fP (jX _)) (dB fP (rT _ _))))
theorem ap_add (n:Int):Apart (wI n):=by
 unfold wI;split
 ·exact fP
 split
 ·exact eU (gI rfl rfl rfl ⟨nL (decide_eq_true (by omega)),rfl,.inr rfl,trivial⟩)
 split
 ·exact eU (gI rfl rfl rfl ⟨nL (decide_eq_true (by omega)),rfl,.inl rfl,trivial⟩)
 ·exact eU trivial
theorem ap_cond (x:Cnd):Apart (uQ x):=bD (ap_side _) (bD ap_op (bD (ap_side _) (bD (ap_add _) cF)))
theorem ap_conds:∀(l:List Cnd),Apart (nO l)
 | []=>fP
 | x::r=>bD (oM rfl) (bD (ap_cond x) (pC (fun y=>wH (iV rfl) rfl rfl (ap_cond y)) r))
theorem ap_rest (k:Int)(cs:List Cnd)(ns:List aBs)(a as_:aBs)(g:Int):Apart (dT k cs ns a as_ g):=by
 unfold dT;refine dB (ap_conds cs) (dB (bD (oM rfl) (bD (ap_names ns) cF)) (dB (bD (mD rfl rfl rfl) (bD (jX a) (bD (oM rfl) (bD (jX as_) cF)))) (dB (dB ?_ fP) (eU trivial))));exact bD (oM rfl) (bD (ap_names ns) (bD (oM rfl) (bD (sG (by decide)) (bD (dB (dB (eU trivial) fP) (jX a)) (bD (oM rfl) (bD (jX as_) cF))))))
theorem ap_nameB {o:Bool}{b s:aBs}(hb:okB b=true)(ho:o=true∨b≠[]) {ps:List Pc}(e:aZ b s=some ps):Flow o ps:=by
 rcases ho with rfl|hn
 ·exact uV hb ps e
 ·exact(aB9 hb hn ps e).mono
mutual
theorem fl_ex (b:aBs)(hb:okB b=true) {o:Bool}(ho:o=true∨b≠[]):∀(x:Ex)(ps:List Pc),fZ b x=some ps→Flow o ps
 | .mk k tb ks cs ns a as_ g _,ps,e=>by
  rw[fZ]at e
  split at e
  ·rename_i h
   split at e
   ·exact ap_nameB hb ho e
   ·rename_i h1
    obtain⟨p1,q1,e1,k1,rfl⟩:=aG e
    obtain⟨p2,q2,e2,k2,rfl⟩:=aG k1
    cases e1
    have hw:eW (cG.getD (k - 2).toNat [])=true:=by
     rcases(show k=2∨k=3∨k=4∨k=5∨k=6∨k=7∨k=8 by omega) with rfl|rfl|rfl|rfl|rfl|rfl|rfl<;>rfl
    have hk:Flow true (p2++q2):=Flow.app (bD (ap_rest _ _ _ _ _ _) (bD (mD (p:=aO [] [41]) rfl rfl rfl) cF) q2 k2) (fl_kids [] rfl (.inl rfl) ks p2 e2)
    exact⟨iV hw,hb,ho.imp id fun hn=>yU hb hn,rfl,rfl,.inr rfl,hk⟩
  ·cases e
theorem fl_kids (b:aBs)(hb:okB b=true) {o:Bool}(ho:o=true∨b≠[]):∀(l:List Ex)(ps:List Pc),kE b l=some ps→Flow o ps
 | [],ps,e=>by
  rw[kE]at e
  cases e
  trivial
 | x::r,ps,e=>by
  rw[kE]at e
  split at e
  ·rename_i p q h1 h2
   cases e
   have hx:=fl_ex b hb ho x p h1;have hr:=fl_kids [32] rfl (o:=false) (.inr (by simp)) r q h2;cases r with
   | nil =>
    rw[kE]at h2
    cases h2
    simpa using hx
   | cons y r =>
    simp only[List.isEmpty_cons,aDe,if_false,aC9]
    exact Flow.app (gI (p:=aO [] [44]) rfl rfl rfl hr) hx
  ·cases e
end
theorem ap_vl (v:Vl):Apart ((bX v).map (aO [32] [61]::·)):=wH rfl rfl rfl (aAF v)
theorem ap_col (c:Col):Apart (mR [32] c):=bD (jX _) (bD (sG (by decide)) (bD (dB (eU (l:=[]) trivial) (ap_vl _)) cF))
theorem apO_col (c:Col):jP (mR [] c):=pU (uV rfl) (bD (sG (by decide)) (bD (dB (eU (l:=[]) trivial) (ap_vl _)) cF))
theorem ap_term (t:Trm):Apart (bI t):=by
 refine bD (aB9 rfl (by simp)) (bD (sG (by decide)) (bD (dB (xR _) (dB (eU (l:=[]) trivial) fP)) (bD (oM rfl) (bD (xR _) (bD (dB (eU (l:=[]) trivial) ?_) (bD (oM rfl) (bD (xR _) (bD (dB (eU (l:=[]) trivial) ?_) (bD (mD (p:=aO [] [59]) rfl rfl rfl) cF)))))))))
 ·exact ap_mapO rfl rfl rfl rfl (apO_num rfl)
 ·exact wH (iV rfl) rfl rfl (xR _)
theorem ap_fix (f:Nmd):Apart (aAR f):=bD (jX _) (bD (mD (p:=aO [32] [61]) rfl rfl rfl) (bD (aAF _) cF))
theorem ap_fixed:∀(l:List Nmd),Apart (aAl l)
 | []=>eU (l:=[]) trivial
 | x::r=>bD (oM rfl) (bD (ap_fix x) (pC (fun y=>wH (p:=aO [] [44]) rfl rfl rfl (ap_fix y)) r))
theorem ap_var (v:Vr):Apart (sV v):=bD (jX _) (bD (jX _) cF)
theorem ap_sym2 {s w:aBs}{r:List (Option (List Pc))}(h1:mK (aO [] s).t)(h2:mZ s=true)(hw:eW w=true)(h:Apart (aJ r)):Apart (aJ (some [aO [] s,aD [32] w]::r)) :=
 bD (eU (gI h1 rfl h2 (gI (p:=aD [32] w) (r:=[]) (iV hw) rfl rfl trivial).mono)) h
theorem ap_seqs:∀ {l:List (Option (List Pc))},(∀ x∈l,Apart x)→Apart (aJ l)
 | [],_=>cF
 | x::r,h=>bD (h x (by simp)) (ap_seqs fun y hy=>h y (by simp[hy]))
theorem ap_part (x:It):Apart (jD x):=by
 unfold jD;refine dB ?_ (dB ?_ (dB ?_ (dB ?_ (dB ?_ (dB ?_ (dB ?_ (dB ?_ (dB ?_ ?_))))))))
 ·exact yF rfl rfl rfl rfl (pU (aAG apO_col ap_col _) (ap_sym2 rfl rfl rfl (bD (aBB jX jX _) cF)))
 ·exact bD (oM rfl) (bD (xR _) cF)
 ·exact bD (oM rfl) (bD (rT _ _) (bD (oM rfl) (bD (sG (by decide)) (bD (dB (xR _) (eU (l:=[]) trivial)) (bD (dB (xR _) (eU (l:=[]) trivial)) cF)))))
 ·refine ap_seqs fun y hy=>?_
  rcases aDP.1 hy with hy|hy
  ·simp only[aDl,List.not_mem_nil,or_false]at hy
   rcases hy with rfl|rfl|rfl|rfl|rfl
   ·exact oM rfl
   ·exact jX _
   ·exact oM rfl
   ·exact xR _
   ·exact mD rfl rfl rfl
  ·obtain⟨t,_,rfl⟩:=List.mem_map.1 hy
   exact ap_term t
 ·exact bD (rT _ _) (bD (oM rfl) (bD (sG (by decide)) cF))
 ·exact bD (oM rfl) (bD (jX _) (yF rfl rfl rfl rfl (pU (aBC _) (bD (mD (p:=aO [] [41]) rfl rfl rfl) cF))))
 ·exact bD (oM rfl) (bD (jX _) (yF rfl rfl rfl rfl (pU (aBC _) (ap_sym2 rfl rfl rfl (bD (jX _) (bD (ap_fixed _) cF))))))
 ·exact bD (rT _ _) (bD (oM rfl) (bD (rT _ _) cF))
 ·exact bD (aBB ap_var ap_var _) (bD (ap_conds _) cF)
 ·exact bD (mD (p:=aO [32] [61]) rfl rfl rfl) (bD (fun ps e=>fl_ex [32] rfl (.inr (by simp)) _ ps e) cF)
theorem itWord_ok {k:Int}(h1:1≤k)(h10:k≤10):eW (dS.getD (k - 1).toNat [])=true:=by
 rcases(show k=1∨k=2∨k=3∨k=4∨k=5∨k=6∨k=7∨k=8∨k=9∨k=10 by omega) with rfl|rfl|rfl|rfl|rfl|rfl|rfl|rfl|rfl|rfl<;>rfl
theorem item_flow (x:It):jP (mH x):=fun ps e=>by
 unfold mH at e;split at e
 ·rename_i h
  refine pU (apO_one (iV (itWord_ok h.1 h.2.1)) rfl) (bD (dB (eU (l:=[]) trivial) (jX _)) (bD (ap_part x) (bD ?_ cF))) ps e;split
  ·exact mD rfl rfl rfl
  ·exact mD rfl rfl rfl
 ·cases e
theorem aBl {α β:Type}{f:α→Option β}:∀ {l:List α}{r:List β},l.mapM f=some r→r.length=l.length∧∀(i:Nat)(x:α),l[i]?=some x→∃ y,r[i]?=some y∧f x=some y
 | [],r,h=>by
  simp at h
  subst h
  simp
 | x::l,r,h=>by
  rw[List.mapM_cons]at h
  cases hx:f x with
  | none=>rw[hx]at h;cases h
  | some y =>
   cases hl:l.mapM f with
   | none=>rw[hx,hl]at h;cases h
   | some s =>
    rw[hx,hl]at h
    cases h
    obtain⟨h1,h2⟩:=aBl hl
    refine⟨by simp[h1],fun i z hz=>?_⟩
    cases i with
    | zero=>simp at hz;subst hz;exact⟨y,rfl,hx⟩
    | succ i=>exact h2 i z (by simpa using hz)
theorem aAe {xs:List It}{ls:List (List Pc)}(h:fB xs=some ls):∀ l∈ls,Flow true l:=by
 intro l hl
 obtain⟨i,hi⟩:=aDz.1 hl
 obtain⟨h1,h2⟩:=aBl h
 have hlt:i<xs.length:=by have:=(aC6.1 hi).1;omega
 obtain⟨y,e1,e2⟩:=h2 i _ (List.getElem?_eq_getElem hlt)
 rw[hi]at e1
 cases e1
 exact item_flow _ _ e2
abbrev lM:Nat→Nat→Prop:=fun _ _=>True
theorem TWs.of_te {Q:Nat→Nat→Prop}{a b:List Tok}(h:TE Q a b)(hb:TWs b):TWs a:=by
 induction h with
 | nil=>exact fun _ h=>by cases h
 | cons h _ ih =>
  intro t ht
  rcases aDl.1 ht with rfl|ht
  ·intro h4 c hc
   exact hb _ (by simp) (h.1.symm.trans h4) c (h.2.1▸hc)
  ·exact ih (fun t ht=>hb t (by simp[ht])) t ht
theorem TE.flip {a b:List Tok}(h:TE lM a b):TE lM b a:=by
 induction h with
 | nil=>exact .nil
 | cons h _ ih=>exact .cons ⟨h.1.symm,h.2.1.symm,h.2.2.1.symm,trivial⟩ ih
theorem item_real {z z':Nat}{ts ts' r':List Tok}{x':It}(hw:LW ts)(ht:TE lM ts' ts)(h:iA z' ts'=.ok (x',r')):∃ x r,iA z ts=.ok (x,r)∧uX lM x x'∧TE lM r' r∧LW r:=by
 have hw':TWs ts':=hw.1.of_te ht;cases hp:iA z ts with
 | ok y =>
  obtain⟨x,r⟩:=y
  obtain⟨p,_,rfl,k⟩:=item_firm (Q:=lM) hw hp
  obtain⟨p',q',rfl,t1,t2⟩:=ht.flip.split
  obtain⟨x2,e2,hq⟩:=k z' p' q' hw'.left hw'.right t1
  rw[h]at e2
  cases e2
  exact⟨x,r,rfl,hq,t2.flip,hw.right⟩
 | error e =>
  obtain⟨e,o⟩:=e
  rcases item_err (Q:=lM) hw hp with ⟨_,_,k⟩|⟨_,p,t,r,rfl,_,k⟩
  ·have:=k z' ts' hw' ht.flip
   rw[h]at this
   cases this
  ·obtain⟨p',q',rfl,t1,t2⟩:=ht.flip.split
   cases t2 with
   | @cons _ t9 _ r9 t3 t4 =>
    have w1:TW t9:=hw'.right t9 (by simp);have w2:TWs r9:=fun t ht=>hw'.right t (by simp[ht])
    have:=k z' p' t9 r9 hw'.left w1 w2 t1 t3
    rw[h]at this
    cases this
theorem Its.real {z z':Nat}{ts':List Tok}{xs':List It}(h:Its z' ts' xs'):∀ {ts:List Tok},LW ts→TE lM ts' ts→∃ xs,Its z ts xs∧sM lM xs xs':=by
 induction h with
 | nil =>
  intro ts _ ht;cases ht
  exact⟨[],.nil,trivial⟩
 | cons hp _ ih =>
  intro ts hw ht
  obtain⟨x,r,e,hq,ht2,hw2⟩:=item_real (z:=z) hw ht hp
  obtain⟨xs,h1,h2⟩:=ih hw2 ht2
  exact⟨x::xs,.cons e h1,hq,h2⟩
theorem items_its {xs:List It}:∀ {ls:List (List Pc)},fB xs=some ls→xs.all kG=true→Its 0 (ls.flatMap aX) (xs.map eE):=by
 induction xs with
 | nil =>
  intro ls h _;cases h;exact .nil
 | cons x xs ih =>
  intro ls h hf;unfold fB at h
  rw[List.mapM_cons]at h
  cases hx:mH x with
  | none=>rw[hx]at h;cases h
  | some y =>
   cases hl:xs.mapM mH with
   | none=>rw[hx,hl]at h;cases h
   | some s =>
    rw[hx,hl]at h
    cases h
    simp only[List.all_cons,aC8]at hf
    rw[aDj]
    exact .cons (item_read 0 hx (of_decide_eq_true hf.1) _ (NS.nil _)) (ih hl hf.2)
theorem offsL_te:∀(ls:List (List Pc))(i:Nat),TE lM (ls.flatMap aX) (aBj ls i)
 | [],_=>.nil
 | l::r,i=>by
  rw[aDj]
  exact(offsP_te l i).app (offsL_te r _)
theorem text_lex {xs:List It}{ls:List (List Pc)}(h:fB xs=some ls)(hc:nN ls≤5000):sL (kJ ls)=.ok (aBj ls 0):=lexM_of (by rw[aBi];exact hc) (vR ls 0 (aAe h))
theorem text_parse {xs:List It}{ls:List (List Pc)}(h:fB xs=some ls)(hf:xs.all kG=true)(hn:xs.length≤200)(hc:nN ls≤5000):∃ ys,kU (kJ ls)=.ok ys∧sM lM ys (xs.map eE):=by
 have hL:=text_lex h hc;have hw:=(fJ.wf _ _ _ _ (aDg _) (vR ls 0 (aAe h))).1
 obtain⟨ys,h1,h2⟩:=(items_its h hf).real (z:=(kJ ls).length) hw (offsL_te ls 0)
 refine⟨ys,(aBb hL).2 ⟨h1,?_⟩,h2⟩
 have:∀ {a b:List It},sM lM a b→a.length=b.length:=by
  intro a
  induction a with
  | nil =>
   intro b hb;cases b with
   | nil=>rfl
   | cons _ _=>exact hb.elim
  | cons x a ih =>
   intro b hb;cases b with
   | nil=>exact hb.elim
   | cons y b=>simp[ih hb.2]
 rw[this h2,List.length_map]
 exact hn
theorem dD.isS {sz n:Nat}{h:Heap}{v:Value}{xs:aVs}(a:dD sz h v n xs):∃ e f,v=.slice e n f:=by
 obtain⟨_,e,f,hv,_⟩:=a
 exact⟨e,f,hv⟩
theorem mU {α:Type}{a b:List α}(hl:a.length=b.length)(h:∀ j,j<a.length→a[j]?=b[j]?):a=b:=by
 apply List.ext_getElem?
 intro j;by_cases hj:j<a.length
 ·exact h j hj
 ·rw[aDQ (by omega),aDQ (by omega)]
theorem oT {α:Type}{a b:List α}{i:Nat}{s:α}(h:∀ j,j<i→a[j]?=b[j]?)(ha:a[i]?=some s)(hb:b[i]?=some s):∀ j,j<i+1→a[j]?=b[j]?:=fun j hj=>by
 by_cases e:j=i
 ·subst e
  rw[ha,hb]
 ·exact h j (by omega)
theorem zQ {α:Type}{a b:List α}{i:Nat}{s t:α}(ha:a[i]?=some s)(hb:b[i]?=some t)(h:¬ s=t):¬ a=b:=fun e=>by
 subst e
 rw[ha]at hb
 exact h (Option.some.inj hb)
theorem yW (a b:List aBs)(va vb:Value)(h:Heap)(hA:Arr h va (strs a))(hB:Arr h vb (strs b))(hl:a.length≤1000000000000000)(hl2:b.length≤1000000000000000) :
  bZ Tryz.prog 119 [va,vb] h fun r h'=>r=.bool (decide (a=b))∧Own h [] h':=by
 have hsl:(strs a).length=a.length:=by simp[strs]
 have hsl2:(strs b).length=b.length:=by simp[strs]
 refine aCV Tryz.func119 rfl Tryz.ntmps119 (by kernel_rfl) ?_;have o0:=Own.refl h;by_cases hlen:a.length=b.length
 ·refine rR (aCC hA ‹_› aK ?_)
  refine rR (aCC hB ‹_› aK ?_);refine aCi (fun hc=>absurd (by first|omega|assumption|decide|exact rfl) hc) (fun c12=>?_);refine aCZ [4,5,11,12,13,14,15,16,17,18,19,20,21,22,23,24,25] [5] (fun vs hh=>∃(i:Nat),i≤a.length∧vs=[.int .i64 i]∧(∀ j,j<i→a[j]?=b[j]?)∧Own h [] hh) (fun vs _=>match vs with|[.int _ i]=>a.length - i.toNat|_=>0) ?_ ?_
  ·exact⟨0,by omega,rfl,fun j hj=>by omega,o0⟩
  ·rintro vs junk hh ⟨i,hi,rfl,hpre,oh⟩
   by_cases hlt:i<a.length
   ·obtain⟨s,hs⟩:=getx hlt
    obtain⟨t,ht⟩:=getx (show i<b.length by omega)
    have hss:(strs a)[i]?=some (.string ⟨⟨s⟩⟩):=by simp[strs,hs]
    have htt:(strs b)[i]?=some (.string ⟨⟨t⟩⟩):=by simp[strs,ht]
    by_cases he:s=t
    ·subst he
     refine rR (aCC (hA.ext oh.ext) ‹_› aK ?_);refine aCP (fun c21=>?_) (fun hc=>absurd (by omega) hc);refine aCS [0,1,2,4,5,6,8] [3,7] [] [0,1,2,3,4,5,6,7,8] mixed (by kernel_rfl) rfl (fun _ _ _ _ h=>h) ?_;refine idx aK aL (hA.ext oh.ext) rfl (by omega) (by omega) ?_;refine aCE (hA.ext oh.ext) aL rfl (by first|assumption|rfl) ?_;refine idx aK aL (hB.ext oh.ext) rfl (by omega) (by omega) ?_;refine aCE (hB.ext oh.ext) aL rfl (by first|assumption|rfl) ?_;refine aCi (fun hc=>absurd (by first|omega|assumption|decide|exact rfl) hc) (fun c26=>?_);refine aCW (by omega) (by omega) ?_
     refine⟨rfl,?_⟩
     exact⟨⟨i+1,by omega,rfl,oT hpre hs ht,Own.sel ‹_› [] rfl⟩,by simp;omega⟩
    ·refine rR (aCC (hA.ext oh.ext) ‹_› aK ?_)
     refine aCP (fun c61=>?_) (fun hc=>absurd (by omega) hc);refine aCS [0,1,2,4,5,6,8] [3,7] [] [0,1,2,3,4,5,6,7,8] mixed (by kernel_rfl) rfl (fun _ _ _ _ h=>h) ?_;refine idx aK aL (hA.ext oh.ext) rfl (by omega) (by omega) ?_;refine aCE (hA.ext oh.ext) aL rfl (by first|assumption|rfl) ?_;refine idx aK aL (hB.ext oh.ext) rfl (by omega) (by omega) ?_;refine aCE (hB.ext oh.ext) aL rfl (by first|assumption|rfl) ?_;refine aCi (fun c66=>?_) (fun hc=>absurd hc (by first|omega|assumption|decide|exact rfl));refine aCX rfl ?_
     exact⟨congrArg Value.bool (decide_eq_false (zQ hs ht he)).symm,oh⟩
   ·refine rR (aCC (hA.ext oh.ext) ‹_› aK ?_)
    refine aCP (fun hc=>absurd hc (by omega)) (fun c41=>?_);refine aCX rfl ?_
    exact⟨congrArg Value.bool (decide_eq_true (mU hlen fun j hj=>hpre j (by omega))).symm,oh⟩
 ·refine rR (aCC hA ‹_› aK ?_)
  refine rR (aCC hB ‹_› aK ?_);refine aCi (fun c82=>?_) (fun hc=>absurd hc (by first|omega|assumption|decide|exact rfl));refine aCX rfl ?_
  exact⟨congrArg Value.bool (decide_eq_false fun e=>hlen (by rw[e])).symm,o0⟩
theorem tQ (a b:List Cnd)(va vb:Value)(h:Heap)(hA:dD 14 h va a.length (a.flatMap nP))(hB:dD 14 h vb b.length (b.flatMap nP))(hl:a.length≤1000000000000000)(hl2:b.length≤1000000000000000) :
  bZ Tryz.prog 120 [va,vb] h fun r h'=>∃ bb:Bool,r=.bool bb∧(bb=true↔a=b)∧Own h [] h':=by
 refine aCV Tryz.func120 rfl Tryz.ntmps120 (by kernel_rfl) ?_;have o0:=Own.refl h;by_cases hlen:a.length=b.length
 ·refine rR (aCD hA jA ?_)
  refine rR (aCD hB jA ?_);refine aCi (fun hc=>absurd (by first|omega|assumption|decide|exact rfl) hc) (fun c12=>?_);refine aCZ [4,5,11,12,13,14,15,16,17,18,19,20,21,22,23,24,25] [5] (fun vs hh=>∃(i:Nat),i≤a.length∧vs=[.int .i64 i]∧(∀ j,j<i→a[j]?=b[j]?)∧Own h [] hh) (fun vs _=>match vs with|[.int _ i]=>a.length - i.toNat|_=>0) ?_ ?_
  ·exact⟨0,by omega,rfl,fun j hj=>by omega,o0⟩
  ·rintro vs junk hh ⟨i,hi,rfl,hpre,oh⟩
   by_cases hlt:i<a.length
   ·obtain⟨s,hs⟩:=getx hlt
    obtain⟨t,ht⟩:=getx (show i<b.length by omega)
    obtain⟨r,hc,hr⟩:=cmp_cnd s t
    cases r with
    | true =>
     obtain rfl:=hr.1 rfl;refine rR (aCD (hA.ext oh.ext) jA ?_);refine aCP (fun c21=>?_) (fun hc=>absurd (by omega) hc);refine aCS [0,1,2,4,5,6,8] [3,7] [] [0,1,2,3,4,5,6,7,8] mixed (by kernel_rfl) rfl (fun _ _ _ _ h=>h) ?_;refine aCn jA eT (hA.ext oh.ext) rfl (by omega) (by omega) ?_;refine aCp eT (hA.ext oh.ext) (fun _=>rfl) (by decide) rfl ‹_› ?_;refine aCn jA eT (hB.ext oh.ext) rfl (by omega) (by omega) ?_;refine aCp eT (hB.ext oh.ext) (fun _=>rfl) (by decide) rfl ‹_› ?_;refine neDeep dp_cond eg_cond rfl rfl rfl hc ?_;refine aCR ?_;refine aCW (by omega) (by omega) ?_
     refine⟨rfl,?_⟩
     exact⟨⟨i+1,by omega,rfl,oT hpre hs ht,Own.sel ‹_› [] rfl⟩,by simp;omega⟩
    | false =>
     refine rR (aCD (hA.ext oh.ext) jA ?_);refine aCP (fun c61=>?_) (fun hc=>absurd (by omega) hc);refine aCS [0,1,2,4,5,6,8] [3,7] [] [0,1,2,3,4,5,6,7,8] mixed (by kernel_rfl) rfl (fun _ _ _ _ h=>h) ?_;refine aCn jA eT (hA.ext oh.ext) rfl (by omega) (by omega) ?_;refine aCp eT (hA.ext oh.ext) (fun _=>rfl) (by decide) rfl ‹_› ?_;refine aCn jA eT (hB.ext oh.ext) rfl (by omega) (by omega) ?_;refine aCp eT (hB.ext oh.ext) (fun _=>rfl) (by decide) rfl ‹_› ?_;refine neDeep dp_cond eg_cond rfl rfl rfl hc ?_;refine aCQ ?_;refine aCX rfl ?_
     exact⟨false,rfl,⟨fun h=>(by cases h),fun e=>absurd e (zQ hs ht fun e=>by have:=hr.2 e;cases this)⟩,Own.sel ‹_› [] rfl⟩
   ·refine rR (aCD (hA.ext oh.ext) jA ?_)
    refine aCP (fun hc=>absurd hc (by omega)) (fun c41=>?_);refine aCX rfl ?_
    exact⟨true,rfl,⟨fun _=>mU hlen fun j hj=>hpre j (by omega),fun _=>rfl⟩,oh⟩
 ·refine rR (aCD hA jA ?_)
  refine rR (aCD hB jA ?_);refine aCi (fun c82=>?_) (fun hc=>absurd hc (by first|omega|assumption|decide|exact rfl));refine aCX rfl ?_
  exact⟨false,rfl,⟨fun h=>(by cases h),fun e=>absurd (by rw[e]) hlen⟩,o0⟩
theorem exsQ_of {Q:Nat→Nat→Prop}:∀ {l m:List Ex},l.length=m.length→(∀(i:Nat)(x y:Ex),l[i]?=some x→m[i]?=some y→ExQ Q x y)→tJ Q l m
 | [],[],_,_=>trivial
 | a::l,b::m,hl,h=>⟨h 0 a b rfl rfl,exsQ_of (by simpa using hl) fun i x y hx hy=>h (i+1) x y (by simpa using hx) (by simpa using hy)⟩
 | a::l,[],hl,_=>by simp at hl
 | [],b::m,hl,_=>by simp at hl
theorem qQ:∀(n:Nat)(x y:Ex)(c d:aVs)(h:Heap)(_:fY x≤n)(_:gA x)(_:gA y)(_:kN h c x)(_:kN h d y),
  bZ Tryz.prog 122 [.agg ⟨c⟩,.agg ⟨d⟩,.bool false] h fun r h'=>∃ bb:Bool,r=.bool bb∧(bb=true↔ExQ lM x y)∧Own h [] h'
 | 0,.mk _ _ _ _ _ _ _ _ _,_,_,_,_,hd,_,_,_,_=>absurd hd (by rw[fY];omega)
 | n+1,.mk k t ks cs ns a s g o,.mk k' t' ks' cs' ns' a' s' g' o',c,d,h,hd,hB,hB',hc,hD=>by
  rw[fY]at hd
  rw[gA]at hB hB'
  rw[kN]at hc hD
  rw[ExQ]
  obtain⟨vk,vc,vn,z,rfl,q1,q2,xs,q3,rk⟩:=hc
  obtain⟨uk,uc,un,z',rfl,w1,w2,ys,w3,pk⟩:=hD
  obtain⟨_,_,b4,_,_,_,_,_,b1,b2,b3⟩:=hB
  obtain⟨_,_,d4,_,_,_,_,_,d1,d2,d3⟩:=hB'
  obtain⟨e1,f1,rfl⟩:=q1.isS
  obtain⟨e2,f2,rfl⟩:=q2.isS
  obtain⟨e3,f3,rfl⟩:=q3.isS
  obtain⟨e4,f4,rfl⟩:=w1.isS
  obtain⟨e5,f5,rfl⟩:=w2.isS
  obtain⟨e6,f6,rfl⟩:=w3.isS
  rw[gR]at q2 w2
  unfold qE;have hxs:xs.length=ks.length:=kH rk;have hys:ys.length=ks'.length:=kH pk;refine aCV Tryz.func122 rfl Tryz.ntmps122 (by kernel_rfl) ?_;have o0:=Own.refl h;by_cases c0:k=k'
  case neg =>
   (refine aCq o0 rfl ?_;intro b10 m10 o10);(refine aCq o10 rfl ?_;intro b11 m11 o11);refine aCR ?_;refine rR (fA aM rfl rfl rfl ?_);refine rR (aCc o11 0 rfl aT rfl rfl ?_);refine rR (fA aM rfl rfl rfl ?_);refine rR (aCc o11 1 rfl aT rfl rfl ?_);refine aCi (fun c16=>?_) (fun hc=>absurd hc (by first|omega|assumption|decide|exact rfl));refine aCQ ?_;refine aCX rfl ?_
   exact⟨false,rfl,⟨fun h=>(by cases h),fun hq=>absurd hq.1 c0⟩,Own.sel ‹_› [] rfl⟩
  subst k';by_cases c1:t=t'
  case neg =>
   (refine aCq o0 rfl ?_;intro b60 m60 o60);(refine aCq o60 rfl ?_;intro b61 m61 o61);refine aCR ?_;refine rR (fA aM rfl rfl rfl ?_);refine rR (aCc o61 0 rfl aT rfl rfl ?_);refine rR (fA aM rfl rfl rfl ?_);refine rR (aCc o61 1 rfl aT rfl rfl ?_);refine aCi (fun hc=>absurd (by first|omega|assumption|decide|exact rfl) hc) (fun c66=>?_);refine rR (fA aM rfl rfl rfl ?_);refine rR (aCc o61 0 rfl aL rfl rfl ?_);refine rR (fA aM rfl rfl rfl ?_);refine rR (aCc o61 1 rfl aL rfl rfl ?_);refine aCi (fun c71=>?_) (fun hc=>absurd hc (by first|omega|assumption|decide|exact rfl));refine aCQ ?_;refine aCX rfl ?_
   exact⟨false,rfl,⟨fun h=>(by cases h),fun hq=>absurd hq.2.1 c1⟩,Own.sel ‹_› [] rfl⟩
  subst t';by_cases c2:a=a'
  case neg =>
   (refine aCq o0 rfl ?_;intro b110 m110 o110);(refine aCq o110 rfl ?_;intro b111 m111 o111);refine aCR ?_;refine rR (fA aM rfl rfl rfl ?_);refine rR (aCc o111 0 rfl aT rfl rfl ?_);refine rR (fA aM rfl rfl rfl ?_);refine rR (aCc o111 1 rfl aT rfl rfl ?_);refine aCi (fun hc=>absurd (by first|omega|assumption|decide|exact rfl) hc) (fun c116=>?_);refine rR (fA aM rfl rfl rfl ?_);refine rR (aCc o111 0 rfl aL rfl rfl ?_);refine rR (fA aM rfl rfl rfl ?_);refine rR (aCc o111 1 rfl aL rfl rfl ?_);refine aCi (fun hc=>absurd (by first|omega|assumption|decide|exact rfl) hc) (fun c121=>?_);refine rR (fA aM rfl rfl rfl ?_);refine rR (aCc o111 0 rfl aL rfl rfl ?_);refine rR (fA aM rfl rfl rfl ?_);refine rR (aCc o111 1 rfl aL rfl rfl ?_);refine aCi (fun c126=>?_) (fun hc=>absurd hc (by first|omega|assumption|decide|exact rfl));refine aCQ ?_;refine aCX rfl ?_
   exact⟨false,rfl,⟨fun h=>(by cases h),fun hq=>absurd hq.2.2.2.2.1 c2⟩,Own.sel ‹_› [] rfl⟩
  subst a';by_cases c3:s=s'
  case neg =>
   (refine aCq o0 rfl ?_;intro b160 m160 o160);(refine aCq o160 rfl ?_;intro b161 m161 o161);refine aCR ?_;refine rR (fA aM rfl rfl rfl ?_);refine rR (aCc o161 0 rfl aT rfl rfl ?_);refine rR (fA aM rfl rfl rfl ?_);refine rR (aCc o161 1 rfl aT rfl rfl ?_);refine aCi (fun hc=>absurd (by first|omega|assumption|decide|exact rfl) hc) (fun c166=>?_);refine rR (fA aM rfl rfl rfl ?_);refine rR (aCc o161 0 rfl aL rfl rfl ?_);refine rR (fA aM rfl rfl rfl ?_);refine rR (aCc o161 1 rfl aL rfl rfl ?_);refine aCi (fun hc=>absurd (by first|omega|assumption|decide|exact rfl) hc) (fun c171=>?_);refine rR (fA aM rfl rfl rfl ?_);refine rR (aCc o161 0 rfl aL rfl rfl ?_);refine rR (fA aM rfl rfl rfl ?_);refine rR (aCc o161 1 rfl aL rfl rfl ?_);refine aCi (fun hc=>absurd (by first|omega|assumption|decide|exact rfl) hc) (fun c176=>?_);refine rR (fA aM rfl rfl rfl ?_);refine rR (aCc o161 0 rfl aL rfl rfl ?_);refine rR (fA aM rfl rfl rfl ?_);refine rR (aCc o161 1 rfl aL rfl rfl ?_);refine aCi (fun c181=>?_) (fun hc=>absurd hc (by first|omega|assumption|decide|exact rfl));refine aCQ ?_;refine aCX rfl ?_
   exact⟨false,rfl,⟨fun h=>(by cases h),fun hq=>absurd hq.2.2.2.2.2.1 c3⟩,Own.sel ‹_› [] rfl⟩
  subst s';by_cases c4:g=g'
  case neg =>
   (refine aCq o0 rfl ?_;intro b210 m210 o210);(refine aCq o210 rfl ?_;intro b211 m211 o211);refine aCR ?_;refine rR (fA aM rfl rfl rfl ?_);refine rR (aCc o211 0 rfl aT rfl rfl ?_);refine rR (fA aM rfl rfl rfl ?_);refine rR (aCc o211 1 rfl aT rfl rfl ?_);refine aCi (fun hc=>absurd (by first|omega|assumption|decide|exact rfl) hc) (fun c216=>?_);refine rR (fA aM rfl rfl rfl ?_);refine rR (aCc o211 0 rfl aL rfl rfl ?_);refine rR (fA aM rfl rfl rfl ?_);refine rR (aCc o211 1 rfl aL rfl rfl ?_);refine aCi (fun hc=>absurd (by first|omega|assumption|decide|exact rfl) hc) (fun c221=>?_);refine rR (fA aM rfl rfl rfl ?_);refine rR (aCc o211 0 rfl aL rfl rfl ?_);refine rR (fA aM rfl rfl rfl ?_);refine rR (aCc o211 1 rfl aL rfl rfl ?_);refine aCi (fun hc=>absurd (by first|omega|assumption|decide|exact rfl) hc) (fun c226=>?_);refine rR (fA aM rfl rfl rfl ?_);refine rR (aCc o211 0 rfl aL rfl rfl ?_);refine rR (fA aM rfl rfl rfl ?_);refine rR (aCc o211 1 rfl aL rfl rfl ?_);refine aCi (fun hc=>absurd (by first|omega|assumption|decide|exact rfl) hc) (fun c231=>?_);refine rR (fA aM rfl rfl rfl ?_);refine rR (aCc o211 0 rfl aT rfl rfl ?_);refine rR (fA aM rfl rfl rfl ?_);refine rR (aCc o211 1 rfl aT rfl rfl ?_);refine aCi (fun c236=>?_) (fun hc=>absurd hc (by first|omega|assumption|decide|exact rfl));refine aCQ ?_;refine aCX rfl ?_
   exact⟨false,rfl,⟨fun h=>(by cases h),fun hq=>absurd hq.2.2.2.2.2.2.1 c4⟩,Own.sel ‹_› [] rfl⟩
  subst g';by_cases hkl:ks.length=ks'.length
  case neg =>
   (refine aCq o0 rfl ?_;intro b260 m260 o260);(refine aCq o260 rfl ?_;intro b261 m261 o261);refine aCR ?_;refine rR (fA aM rfl rfl rfl ?_);refine rR (aCc o261 0 rfl aT rfl rfl ?_);refine rR (fA aM rfl rfl rfl ?_);refine rR (aCc o261 1 rfl aT rfl rfl ?_);refine aCi (fun hc=>absurd (by first|omega|assumption|decide|exact rfl) hc) (fun c266=>?_);refine rR (fA aM rfl rfl rfl ?_);refine rR (aCc o261 0 rfl aL rfl rfl ?_);refine rR (fA aM rfl rfl rfl ?_);refine rR (aCc o261 1 rfl aL rfl rfl ?_);refine aCi (fun hc=>absurd (by first|omega|assumption|decide|exact rfl) hc) (fun c271=>?_);refine rR (fA aM rfl rfl rfl ?_);refine rR (aCc o261 0 rfl aL rfl rfl ?_);refine rR (fA aM rfl rfl rfl ?_);refine rR (aCc o261 1 rfl aL rfl rfl ?_);refine aCi (fun hc=>absurd (by first|omega|assumption|decide|exact rfl) hc) (fun c276=>?_);refine rR (fA aM rfl rfl rfl ?_);refine rR (aCc o261 0 rfl aL rfl rfl ?_);refine rR (fA aM rfl rfl rfl ?_);refine rR (aCc o261 1 rfl aL rfl rfl ?_);refine aCi (fun hc=>absurd (by first|omega|assumption|decide|exact rfl) hc) (fun c281=>?_);refine rR (fA aM rfl rfl rfl ?_);refine rR (aCc o261 0 rfl aT rfl rfl ?_);refine rR (fA aM rfl rfl rfl ?_);refine rR (aCc o261 1 rfl aT rfl rfl ?_);refine aCi (fun hc=>absurd (by first|omega|assumption|decide|exact rfl) hc) (fun c286=>?_);refine rR (fA aM rfl rfl rfl ?_);refine rR (aCc o261 0 rfl cQ rfl rfl ?_);refine rR (aCk rfl bV ?_);refine rR (fA aM rfl rfl rfl ?_);refine rR (aCc o261 1 rfl cQ rfl rfl ?_);refine rR (aCk rfl bV ?_);refine aCi (fun c293=>?_) (fun hc=>absurd hc (by first|omega|assumption|decide|exact rfl))
   refine aCQ ?_;refine aCX rfl ?_
   exact⟨false,rfl,⟨fun h=>(by cases h),fun hq=>absurd (exsQ_len hq.2.2.2.2.2.2.2.2) hkl⟩,Own.sel ‹_› [] rfl⟩
  (refine aCq o0 rfl ?_;intro b500 m500 o500);(refine aCq o500 rfl ?_;intro b501 m501 o501);refine aCR ?_;refine rR (fA aM rfl rfl rfl ?_);refine rR (aCc o501 0 rfl aT rfl rfl ?_);refine rR (fA aM rfl rfl rfl ?_);refine rR (aCc o501 1 rfl aT rfl rfl ?_);refine aCi (fun hc=>absurd (by first|omega|assumption|decide|exact rfl) hc) (fun c506=>?_);refine rR (fA aM rfl rfl rfl ?_);refine rR (aCc o501 0 rfl aL rfl rfl ?_);refine rR (fA aM rfl rfl rfl ?_);refine rR (aCc o501 1 rfl aL rfl rfl ?_);refine aCi (fun hc=>absurd (by first|omega|assumption|decide|exact rfl) hc) (fun c511=>?_);refine rR (fA aM rfl rfl rfl ?_);refine rR (aCc o501 0 rfl aL rfl rfl ?_);refine rR (fA aM rfl rfl rfl ?_);refine rR (aCc o501 1 rfl aL rfl rfl ?_);refine aCi (fun hc=>absurd (by first|omega|assumption|decide|exact rfl) hc) (fun c516=>?_);refine rR (fA aM rfl rfl rfl ?_);refine rR (aCc o501 0 rfl aL rfl rfl ?_);refine rR (fA aM rfl rfl rfl ?_);refine rR (aCc o501 1 rfl aL rfl rfl ?_);refine aCi (fun hc=>absurd (by first|omega|assumption|decide|exact rfl) hc) (fun c521=>?_);refine rR (fA aM rfl rfl rfl ?_);refine rR (aCc o501 0 rfl aT rfl rfl ?_);refine rR (fA aM rfl rfl rfl ?_);refine rR (aCc o501 1 rfl aT rfl rfl ?_);refine aCi (fun hc=>absurd (by first|omega|assumption|decide|exact rfl) hc) (fun c526=>?_);refine rR (fA aM rfl rfl rfl ?_);refine rR (aCc o501 0 rfl cQ rfl rfl ?_);refine rR (aCk rfl bV ?_);refine rR (fA aM rfl rfl rfl ?_);refine rR (aCc o501 1 rfl cQ rfl rfl ?_);refine rR (aCk rfl bV ?_);refine aCi (fun hc=>absurd (by first|omega|assumption|decide|exact rfl) hc) (fun c533=>?_)
  refine rR (fA aM rfl rfl rfl ?_);refine rR (aCc o501 0 rfl eV rfl rfl ?_);refine rR (fA aM rfl rfl rfl ?_);refine rR (aCc o501 1 rfl eV rfl rfl ?_);refine aCT (yW ns ns' _ _ _ (q2.ext (Own.ext (B:=h) ‹_›)).to1 (w2.ext (Own.ext (B:=h) ‹_›)).to1 b3 d3) ?_;rintro _ hs1 ⟨rfl,oc1⟩;have os1:=oc1.thenE ‹_›;by_cases hns:ns=ns'
  case neg =>
   rw[decide_eq_false hns]
   refine aCQ ?_;refine aCQ ?_;refine aCX rfl ?_
   exact⟨false,rfl,⟨fun h=>(by cases h),fun hq=>absurd hq.2.2.2.1 hns⟩,Own.sel ‹_› [] rfl⟩
  subst ns'
  rw[decide_eq_true rfl]
  refine aCi (fun hc=>absurd (by first|omega|assumption|decide|exact rfl) hc) (fun c700=>?_);refine rR (fA aM rfl rfl rfl ?_);refine rR (aCc os1 0 rfl mL rfl rfl ?_);refine rR (fA aM rfl rfl rfl ?_);refine rR (aCc os1 1 rfl mL rfl rfl ?_);refine aCT (tQ cs cs' _ _ _ (q1.ext os1.ext) (w1.ext os1.ext) b2 d2) ?_;rintro _ hs2 ⟨bb,rfl,hbb,oc2⟩;have os2:=oc2.thenE os1;cases bb with
  | false =>
   refine aCQ ?_;refine aCX rfl ?_
   exact⟨false,rfl,⟨fun h=>(by cases h),fun hq=>by have:=hbb.2 hq.2.2.1;cases this⟩,Own.sel ‹_› [] rfl⟩
  | true =>
  obtain rfl:=hbb.1 rfl;refine aCR ?_;refine aCZ [6,7,76,77,78,79,80,81,82,83,84,85,86,87,88,89,90,91,92,93,94,95] [7] (fun vs hh=>∃(i:Nat),i≤ks.length∧vs=[.int .i64 i]∧(∀(j:Nat) (x y:Ex),j<i→ks[j]?=some x→ks'[j]?=some y→ExQ lM x y)∧Own h [box b500 [.int .i64 k,.string ⟨⟨t⟩⟩,.slice e3 ks.length f3,.slice e1 cs.length f1,.slice e2 ns.length f2,.string ⟨⟨a⟩⟩,.string ⟨⟨s⟩⟩,.int .i64 g,.int .i64 z] 42,box b501 [.int .i64 k,.string ⟨⟨t⟩⟩,.slice e6 ks'.length f6,.slice e4 cs.length f4,.slice e5 ns.length f5,.string ⟨⟨a⟩⟩,.string ⟨⟨s⟩⟩,.int .i64 g,.int .i64 z'] 42] hh) (fun vs _=>match vs with|[.int _ i]=>ks.length - i.toNat|_=>0) ?_ ?_
  ·exact⟨0,by omega,rfl,fun j x y hj=>by omega,os2⟩
  ·rintro vs junk hh ⟨i,hi,rfl,hpre,oh⟩
   clear oc1 os1 oc2 os2;by_cases hlt:i<ks.length
   ·obtain⟨kx,hkx⟩:=getx hlt
    obtain⟨ky,hky⟩:=getx (show i<ks'.length by omega)
    obtain⟨cx,hcx,hrx⟩:=jF rk hkx
    obtain⟨cy,hcy,hry⟩:=jF pk hky
    refine rR (fA aM rfl rfl rfl ?_);refine rR (aCc oh 0 rfl cQ rfl rfl ?_);refine rR (aCk rfl bV ?_);refine aCP (fun c903=>?_) (fun hc=>absurd (by omega) hc);refine aCS [0,2,3,5,7,8,10,12] [1,4,6,9] [11] [0,1,2,3,4,5,6,7,8,9,10,11,12] mixed (by kernel_rfl) rfl (fun _ _ _ _ h=>h) ?_;refine fA aM rfl rfl rfl ?_;refine aCc oh 0 rfl cQ rfl rfl ?_;refine aCn bV aS (q3.ext oh.ext) rfl (by omega) (by omega) ?_;refine aCp aS (q3.ext oh.ext) (fun y:cX=>y.2) (by decide) rfl ‹_› ?_;refine fA aM rfl rfl rfl ?_;refine aCc oh 1 rfl cQ rfl rfl ?_;refine aCn bV aS (w3.ext oh.ext) rfl (by omega) (by omega) ?_;refine aCp aS (w3.ext oh.ext) (fun y:cX=>y.2) (by decide) rfl ‹_› ?_;refine aCT (qQ n kx ky cx.1 cy.1 _ (aDk (gJ hkx) (by omega)) (gU b4 hkx) (gU d4 hky) (kN.ext oh.ext _ _ hrx) (kN.ext oh.ext _ _ hry)) ?_;rintro _ hs3 ⟨bb,rfl,hbk,oc3⟩;have os3:=oc3.thenE oh;cases bb with
    | true =>
     refine aCR ?_;refine aCW (by omega) (by omega) ?_
     refine⟨rfl,?_⟩
     refine⟨⟨i+1,by omega,rfl,fun j x y hj hx hy=>?_,Own.sel ‹_› [0,1] rfl⟩,by simp;omega⟩
     by_cases e:j=i
     ·subst e
      rw[hkx]at hx
      rw[hky]at hy
      cases hx
      cases hy
      exact hbk.1 rfl
     ·exact hpre j x y (by omega) hx hy
    | false =>
     refine aCQ ?_;refine aCX rfl ?_
     refine⟨false,rfl,⟨fun h=>(by cases h),fun hq=>?_⟩,Own.sel ‹_› [] rfl⟩
     obtain⟨y',hy',hxy⟩:=exsQ_get hq.2.2.2.2.2.2.2.2 hkx
     rw[hky]at hy'
     cases hy'
     have:=hbk.2 hxy
     cases this
   ·refine rR (fA aM rfl rfl rfl ?_)
    refine rR (aCc oh 0 rfl cQ rfl rfl ?_);refine rR (aCk rfl bV ?_);refine aCP (fun hc=>absurd hc (by omega)) (fun c1053=>?_);refine aCX rfl ?_
    exact⟨true,rfl,⟨fun _=>⟨rfl,rfl,rfl,rfl,rfl,rfl,rfl,trivial,exsQ_of hkl fun j x y hx hy=>hpre j x y (by have:=(aC6.1 hx).1;omega) hx hy⟩,fun _=>rfl⟩,Own.sel ‹_› [] rfl⟩
theorem tV (B:Base)(b:Nat)(p v:Value)(k:Int)(bs:aBs)(l:List Cnd)(vs:Value)(h:Heap)(hp:cO b p)(hT:jO B.h)(hA:dD 14 B.h vs l.length (l.flatMap nP))(hOK:∀ c∈l,xS c)
  (o:Own B [box b [p,v,.int .i64 k] 58,row v 5 1 bs.length (bytes bs)] h) (hl:bs.length+2000*l.length≤50000000000000) (hk:0≤k∧k+2000*l.length≤50000000000000) :
  Spec Tryz.prog 127 [.pointer (some ⟨b,0,none⟩),vs] h (WEnds B b bs k (2000*l.length) (nO l)):=by
 obtain⟨ya,yc,rfl⟩:=hA.isS
 refine aCV Tryz.func127 rfl Tryz.ntmps127 (by kernel_rfl) ?_;by_cases h0:l=[]
 ·subst h0
  refine rR (aCk rfl jA ?_);refine aCh ‹_› (aE _ _) (fun e1 m2 _ oq=>by cases e1) fun e1 m2 oq=>?_
  exact⟨rfl,rfl,oq⟩
 have hpos:0<l.length:=List.length_pos_iff.2 h0;refine rR (aCk rfl jA ?_);refine aCh ‹_› (aE _ _) (fun e1 m2 oc oq=>?_) fun e1 m2 oq=>absurd (of_decide_eq_false e1) (by omega);clear oc o
 rw[condsQ_loop l h0]
 refine rR (aCk rfl jA ?_);refine aCZ [4,6,13,14,15,16,17,18,19,20,21,22,23,24,25,26,27,28,29,30,31,32,33,34,35,36,37,38,39,40,41,42,43,44,45,46,47,48,49,50,51,52,53,54,55,56,57,58,59,60,61,62,63,64,65,66,67,68,69,70,71,72,73,74] [4,13] (fun vs' hh=>∃(i:Nat) (p' v':Value) (bs' be:aBs) (k':Int) (ps:List Pc),i≤l.length∧be=(if i=0 then[32,119,104,101,114,101] else[32,97,110,100])∧vs'=[.string ⟨⟨be⟩⟩,.int .i64 i]∧cO b p'∧cZ uR (l.take i)=some ps∧bs'=bs++bG ps∧k'=k+ps.length∧bs'.length≤bs.length+2000*i∧k'≤k+2000*i∧Own B [box b [p',v',.int .i64 k'] 58,row v' 5 1 bs'.length (bytes bs')] hh) (fun vs' _=>match vs' with|[_,.int _ i]=>l.length - i.toNat|_=>0) ?_ ?_
 ·exact⟨0,p,v,bs,_,k,[],by omega,rfl,rfl,hp,rfl,by simp[bG],by simp,by omega,by omega,oq⟩
 ·rintro vs' junk hh ⟨i,p',v',bs',be,k',ps,hi,hbe,rfl,hp',hQ,hb',hk',hl',hk2,oh⟩
  clear oq;by_cases hlt:i<l.length
  ·obtain⟨x,hx⟩:=getx hlt
   have hxOK:=hOK x (aC7 hx)
   obtain⟨hL,hop,hR,hadd⟩:=hxOK
   have hbl:be.length≤6:=by rw[hbe];split<;>simp
   have hkk:0≤k':=by omega
   have hm:2000*i+2000≤2000*l.length:=by omega
   refine aCP (fun c50=>?_) (fun hc=>absurd (by omega) hc);refine rR (aCn jA eT (hA.ext oh.ext) rfl (by omega) (by omega) ?_);refine rR (aCp eT (hA.ext oh.ext) (fun _=>rfl) (by decide) rfl ‹_› ?_);(refine aCN oh eT ?_;intro b53 m53 o53);(refine aCf o53 2 rfl eT rfl (by decide) (aI ⟨rfl,rfl⟩ ?_);intro m54 o54);refine rR (nC rfl ?_);refine rR (fA bO rfl rfl rfl ?_);(refine aCM o54 aK aL rfl rfl (by decide) (aI rfl ?_);intro b57 m57 o57);refine aH [be] 1 30 [2] (i:=3) ‹_› rfl rfl rfl hp' rfl (by omega) (by omega) (by simp;omega) (by omega) (by omega) (fun p1 v1 bs1 k1 m1 hp1 hb1 hk1 hl1 oq=>?_);have o1:=oq
   simp only[pick,lgS,lgZ]at o1
   clear oq;have hone:uR i x=(aJ [jS x.left,opQ x.op,jS x.right,wI x.add]).map ((if i=0 then aD [32] [119,104,101,114,101] else aD [32] [97,110,100])::·):=rfl;generalize hw:(if i=0 then aD [32] [119,104,101,114,101] else aD [32] [97,110,100])=w at hone;have hwb:fL w=be:=by rw[hbe,← hw];split<;>rfl
   refine rR (fA kK rfl rfl rfl ?_);refine rR (aCg o1 2 rfl mF rfl rfl rfl ?_);refine WEnds.callJ [2] ‹_› rfl rfl (fun J oj=>wU _ b p1 v1 k1 bs1 x.left _ hp1 hT oj (by omega) hL (by omega)) (fun ps2 p2 v2 bs2 k2 m2 hq2 hp2 hb2 hk2' hl2 _ hj2 oq=>?_) (fun m2 hq2 oq=>?_)
   case refine_2 =>
    have:uR i x=none:=by rw[hone];simp only[hq2,aJ,oMN]
    exact⟨aR hx hQ this,rfl,oq⟩
   have o2:=oq
   simp only[pick,lgS,lgZ]at o2
   clear oq o1;refine aCS [0,1,2,3] [4] [6,7,8] [0,1,2,3,4,5,6,7,8] mixed (by kernel_rfl) rfl (fun _ _ _ _ h=>h) ?_;refine nC rfl ?_;refine fA bO rfl rfl rfl ?_;refine fA kK rfl rfl rfl ?_;refine aCc o2 2 rfl aT rfl rfl ?_;(refine aCM (Own.refl _) aK aL rfl rfl (by decide) (aI rfl ?_);intro b124 m124 o124);(refine aI o124.ext ?_;have o125:=Own.call o2 o124;simp only[lcA,lnA]at o125;clear o124);refine aCh ‹_› (dO _ [[61],[33,61],[60],[60,61]] _ _ (by omega) (by omega) (Own.boxArr ‹_› 3 rfl rfl (by decide)) (by simp) (by simp)) (fun e3 m3 _ oq=>?_) fun e3 m3 oq=>?_
   case refine_2 =>
    have e3:=of_decide_eq_false e3
    simp only[aDb,aDn]at e3
    have:uR i x=none:=by rw[hone];simp only[hq2,show opQ x.op=none from if_neg (by omega),aJ,oMN]
    exact⟨aR hx hQ this,rfl,oq⟩
   have e3:=of_decide_eq_true e3
   simp only[aDb,aDn]at e3
   have hq3:opQ x.op=some [aO [32] (([[61],[33,61],[60],[60,61]]:List aBs).getD (x.op - 1).toNat [])]:=if_pos (by omega);have hwl:(([[61],[33,61],[60],[60,61]]:List aBs).getD (x.op - 1).toNat []).length≤2:=by
    have:x.op=1∨x.op=2∨x.op=3∨x.op=4:=by omega
    rcases this with h|h|h|h<;>rw[h]<;>decide
   generalize (([[61],[33,61],[60],[60,61]]:List aBs).getD (x.op - 1).toNat [])=opw at hq3 hwl
   (refine aCM oq aK aL rfl rfl (by decide) (aI rfl ?_);intro b140 m140 o140);refine aH [32::opw] 1 30 [2] (i:=4) ‹_› rfl rfl rfl hp2 rfl (by omega) (by omega) (by simp;omega) (by omega) (by omega) (fun p4 v4 bs4 k4 m4 hp4 hb4 hk4 hl4 oq=>?_);have o4:=oq
   simp only[pick,lgS,lgZ]at o4
   clear oq o2;refine rR (fA kK rfl rfl rfl ?_);refine rR (aCg o4 2 rfl mF rfl rfl rfl ?_);refine WEnds.callJ [2] ‹_› rfl rfl (fun J oj=>wU _ b p4 v4 k4 bs4 x.right _ hp4 hT oj (by omega) hR (by omega)) (fun ps5 p5 v5 bs5 k5 m5 hq5 hp5 hb5 hk5 hl5 _ hj5 oq=>?_) (fun m5 hq5 oq=>?_)
   case refine_2 =>
    have:uR i x=none:=by rw[hone];simp only[hq2,hq3,hq5,aJ,oMN]
    exact⟨aR hx hQ this,rfl,oq⟩
   have o5:=oq
   simp only[pick,lgS,lgZ]at o5
   clear oq o4;by_cases hr:-9999999999≤x.add∧x.add≤9999999999
   case neg =>
    have hq6:wI x.add=none:=if_pos hr;have hn:uR i x=none:=by rw[hone];simp only[hq2,hq3,hq5,hq6,aJ,oMN]
    by_cases hr1:-9999999999≤x.add
    ·refine rR (fA kK rfl rfl rfl ?_)
     refine rR (aCc o5 2 rfl aT rfl rfl ?_);refine aCP (fun c202=>?_) (fun hc=>absurd (by omega) hc);refine rR (fA kK rfl rfl rfl ?_);refine rR (aCc o5 2 rfl aT rfl rfl ?_);refine aCh ‹_› (aE _ _) (fun e6 m6 _ oq=>absurd (of_decide_eq_true e6) (by omega)) fun e6 m6 oq=>?_
     exact⟨aR hx hQ hn,rfl,oq⟩
    ·refine rR (fA kK rfl rfl rfl ?_)
     refine rR (aCc o5 2 rfl aT rfl rfl ?_);refine aCP (fun hc=>absurd hc (by omega)) (fun c222=>?_);refine aCh ‹_› (aE _ _) (fun e6 m6 _ oq=>by cases e6) fun e6 m6 oq=>?_
     exact⟨aR hx hQ hn,rfl,oq⟩
   refine rR (fA kK rfl rfl rfl ?_);refine rR (aCc o5 2 rfl aT rfl rfl ?_);refine aCP (fun c242=>?_) (fun hc=>absurd (by omega) hc);refine rR (fA kK rfl rfl rfl ?_);refine rR (aCc o5 2 rfl aT rfl rfl ?_);refine aCh ‹_› (aE _ _) (fun e6 m6 _ oq=>?_) fun e6 m6 oq=>absurd (of_decide_eq_false e6) (by omega);clear o5;have hend:∀ ps6,wI x.add=some ps6→uR i x=some (w::(ps2++([aO [32] opw]++(ps5++(ps6++[]))))):=fun ps6 h=>by
    rw[hone];simp only[hq2,hq3,hq5,h,aJ,oMS]
   have hbs:bs5=bs++bG (ps++(w::(ps2++([aO [32] opw]++ps5)))):=by
    rw[hb5,hb4,hb2,hb1,hb',← hwb]
    simp[bG,fL,wr,aO]
   have hks:k5=k+(ps++(w::(ps2++([aO [32] opw]++ps5)))).length:=by
    rw[hk5,hk4,hk2',hk1,hk']
    simp
    omega
   by_cases hpos:0<x.add
   ·have hno:nZ x.add=true:=decide_eq_true (by omega)
    have hil:=bW hno;have hq6:wI x.add=some [aO [32] [43],bP [32] x.add]:=by unfold wI;rw[if_neg (by omega),if_pos hpos]
    refine rR (fA kK rfl rfl rfl ?_);refine rR (aCc oq 2 rfl aT rfl rfl ?_);refine aCP (fun c262=>?_) (fun hc=>absurd (by omega) hc);refine aCS [0,1,2,3,6] [4] [5,7,8] [0,1,2,3,4,5,6,7,8] mixed (by kernel_rfl) rfl (fun _ _ _ _ h=>h) ?_;refine nC rfl ?_;refine fA bO rfl rfl rfl ?_;refine fA kK rfl rfl rfl ?_;refine aCc oq 2 rfl aT rfl rfl ?_;refine aCh ‹_› (bK _ _ (by omega) (by omega) (hT.ext (Own.ext (B:=B) ‹_›))) (fun e7 m7 _ oq=>?_) fun e7 m7 oq=>(by rw[hno]at e7;cases e7);refine aCm rfl rfl (by first|omega|(simp;omega)) ?_;(refine aCM oq aK aL rfl rfl (by decide) (aI rfl ?_);intro b281 m281 o281);refine aH [[32,43],[32]++Lib.itoa x.add] 2 30 [2] (i:=3) ‹_› rfl rfl rfl hp5 rfl (by omega) (by omega) (by simp;omega) (by omega) (by omega) (fun p8 v8 bs8 k8 m8 hp8 hb8 hk8 hl8 oq=>?_);have o8:=oq
    simp only[pick,lgS,lgZ]at o8
    clear oq;refine aCW (by omega) (by omega) ?_
    refine⟨rfl,?_⟩
    refine⟨⟨i+1,p8,v8,bs8,_,k8,ps++(w::(ps2++([aO [32] opw]++(ps5++([aO [32] [43],bP [32] x.add]++[]))))),by omega,?_,rfl,hp8,bA hx hQ (hend _ hq6),by rw[hb8,hbs];simp[bG,fL,wr,aO,bP],by rw[hk8,hks];simp;omega,by omega,by omega,Own.sel ‹_› [0,1] rfl⟩,by simp;omega⟩
    rw[if_neg (by omega)]
   by_cases hneg:x.add<0
   ·have hno:nZ (-x.add)=true:=decide_eq_true (by omega)
    have hil:=bW hno;have hq6:wI x.add=some [aO [32] [45],bP [32] (-x.add)]:=by unfold wI;rw[if_neg (by omega),if_neg hpos,if_pos hneg]
    refine rR (fA kK rfl rfl rfl ?_);refine rR (aCc oq 2 rfl aT rfl rfl ?_);refine aCP (fun hc=>absurd hc (by omega)) (fun c312=>?_);refine rR (fA kK rfl rfl rfl ?_);refine rR (aCc oq 2 rfl aT rfl rfl ?_);refine aCP (fun c315=>?_) (fun hc=>absurd (by omega) hc);refine aCS [0,1,2,3,5,7] [4] [6,8,9] [0,1,2,3,4,5,6,7,8,9] mixed (by kernel_rfl) rfl (fun _ _ _ _ h=>h) ?_;refine nC rfl ?_;refine fA bO rfl rfl rfl ?_;refine fA kK rfl rfl rfl ?_;refine aCc oq 2 rfl aT rfl rfl ?_;refine aCW (by omega) (by omega) ?_
    rw[Int.zero_sub]
    refine aCh ‹_› (bK _ _ (by omega) (by omega) (hT.ext (Own.ext (B:=B) ‹_›))) (fun e7 m7 _ oq=>?_) fun e7 m7 oq=>(by rw[hno]at e7;cases e7);refine aCm rfl rfl (by first|omega|(simp;omega)) ?_;(refine aCM oq aK aL rfl rfl (by decide) (aI rfl ?_);intro b331 m331 o331);refine aH [[32,45],[32]++Lib.itoa (-x.add)] 2 30 [2] (i:=3) ‹_› rfl rfl rfl hp5 rfl (by omega) (by omega) (by simp;omega) (by omega) (by omega) (fun p8 v8 bs8 k8 m8 hp8 hb8 hk8 hl8 oq=>?_);have o8:=oq
    simp only[pick,lgS,lgZ]at o8
    clear oq;refine aCW (by omega) (by omega) ?_
    refine⟨rfl,?_⟩
    refine⟨⟨i+1,p8,v8,bs8,_,k8,ps++(w::(ps2++([aO [32] opw]++(ps5++([aO [32] [45],bP [32] (-x.add)]++[]))))),by omega,?_,rfl,hp8,bA hx hQ (hend _ hq6),by rw[hb8,hbs];simp[bG,fL,wr,aO,bP],by rw[hk8,hks];simp;omega,by omega,by omega,Own.sel ‹_› [0,1] rfl⟩,by simp;omega⟩
    rw[if_neg (by omega)]
   ·have hq6:wI x.add=some []:=by unfold wI;rw[if_neg (by omega),if_neg hpos,if_neg hneg]
    refine rR (fA kK rfl rfl rfl ?_);refine rR (aCc oq 2 rfl aT rfl rfl ?_);refine aCP (fun hc=>absurd hc (by omega)) (fun c362=>?_);refine rR (fA kK rfl rfl rfl ?_);refine rR (aCc oq 2 rfl aT rfl rfl ?_);refine aCP (fun hc=>absurd hc (by omega)) (fun c365=>?_);refine aCW (by omega) (by omega) ?_
    refine⟨rfl,?_⟩
    refine⟨⟨i+1,p5,v5,bs5,_,k5,ps++(w::(ps2++([aO [32] opw]++(ps5++([]++[]))))),by omega,?_,rfl,hp5,bA hx hQ (hend _ hq6),by rw[hbs];simp,by rw[hks];simp,by omega,by omega,Own.sel ‹_› [0,1] rfl⟩,by simp;omega⟩
    rw[if_neg (by omega)]
  ·refine aCP (fun hc=>absurd hc (by omega)) (fun c400=>?_)
   refine aCY rfl ?_;have hQ2:=fR (aDt hlt) hQ;exact aC1 hQ2 oh hp' hb' hk' (by omega) (by omega)
end Go.Proofs.YtohlogbnpfofpaaGreatDoor
