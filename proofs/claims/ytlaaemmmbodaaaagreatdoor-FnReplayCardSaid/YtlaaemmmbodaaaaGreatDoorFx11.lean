/- Parts. -/
import Derived.Test.YtlaaemmmbodaaaaGreatDoorFx10
set_option maxHeartbeats 16000000
set_option maxRecDepth 100000
set_option linter.all false
open Go Go.RowKit Go.Proofs.YtlaaemmmbodaaaaGreatDoor
variable {A aq au ak al aF:QR} {n c0 aw c2 c3 c4:Nat} {rs:List aM} {tu se sp:Int} {qs:List aZ} {ws:List Int} {ae:List aW} {os:List Out} {v:Prop} {KL:VG aq au ak al aF c0 aw c2 c3 c4 rs qs ws ae os tu se sp}
namespace Go.Proofs.YtlaaemmmbodaaaaGreatDoor
theorem Zt (h:v:=by simp [results,Tryz.results88,go_sem,af]):v:=h
theorem aGF (h:v:=by simp [results,Tryz.results157,go_sem,af]):v:=h
theorem ayD (w:World) (m t s:Int) (e:TypeId):aX 3 aW.cells (w.alloc (.cells #[m,t,s] e)) (some ⟨w,0,none⟩) [(⟨m,t,s⟩ :aW)]:=by
 have h:=(bn.built (B:=w) (f:=aW.cells) w [(⟨m,t,s⟩ :aW)] e (XZ _) Yk hI).ej (hf:=hI)
 simpa [aW.cells] using h
theorem aic (w:World) (v:Int) (e:TypeId):aX 1 cE (w.alloc (.cells #[v] e)) (some ⟨w,0,none⟩) [v]:=aX.one _ _
theorem arx (p:Nat) (A:QR) (c:Nat) (cs:List UInt8) (cK:cs) (N:Nat) (bU:N<=300000) (w:World) (aA:gX w p A c cs N):
 Rd 157 #[.pointer (some ⟨p,0,none⟩)] w λe ah=>∃(tu se sp:Int) (ws:List Int) (ae:List aW) (aU:QR) (d2:Nat) (bd:QR) (d3:Nat),e= .returned (.agg #[tu,se,sp,aU ws d2,bd ae d3])/\ws.length<=60/\ae.length<=60/\kq w ah aU d2 bd d3 ws ae/\Stepped w ah p A c cs (N + 400):=by
 obtain⟨i0,bo,dP,dZ,dV⟩:=Xo vK
 obtain⟨Dc,cc,NU,NV,NW⟩:=Xo Hl
 go_in
 have aS:=aA.lt;have aG:=ht w (some p)
 go_upto_region 1 with fail
 refine Xi λbm bD J=>?_
 replace aA:=aA.aK bD;replace aG:=bx aG (bL bD (some p));have nY:=bD.size;have Gf:=J.lt;have af:=J.aL
 go_wp2_with fail
 refine (iI 3 p A c cK (N + 0) KK KK _ (aA.aK ao)).mono ?_
 rintro e aI ⟨dM,rfl,⟨EC,_,rW⟩,jF⟩
 obtain⟨eI,aA,sj,aG⟩:=Xk jF aG;replace J:=J.bV eI;replace af:=J.aL;replace rW:=rW KK
 go_wp2_with fail
 refine (pQ [1,10,60,300,3600] (1) 3600 WG WG WG cK KK (aA.aK (pd _))).mono ?_
 rintro e bw ⟨s0,rfl,Ww,mi⟩
 obtain⟨hH,aA,uV,aG⟩:=Xk mi aG;replace J:=J.bV hH;replace af:=J.aL
 go_wp2_with fail
 refine (aqn (1 + dM) s0 _).mono ?_
 rintro e bH ⟨tu,se,dD,rfl,mL⟩
 obtain⟨db,ed,aA,yj,aG⟩:=YR mL aA aG;replace J:=J.bV ed;replace af:=J.aL;clear EC rW Ww
 go_upto_region 2 with fail
 refine Xi λyp eM ag=>?_
 replace aA:=aA.aK eM;replace aG:=bx aG (bL eM (some p));replace J:=J.bV (bL eM (some p));replace af:=J.aL;have ti:=eM.size;have aCw:=ag.lt
 obtain⟨f0,f1,f2,f3,f4⟩:=ag.aL
 obtain⟨oN,wS⟩ :∃b,b= bH.heap.size:=⟨_,rfl⟩
 have aDT:w.heap.size < oN:=KK
 rw [<- wS] at ag f0 f1 f2 f3 f4
 rw [<- wS]
 clear wS
 go_wp2_with fail
 refine (iI 14 p A c cK (N + 4) KK KK _ (aA.aK ao)).mono ?_
 rintro e dk ⟨r2,rfl,⟨QZ,_,xP⟩,jd⟩
 clear f0 f1 f2 f3 f4;obtain⟨fx,aA,uW,aG⟩:=Xk jd aG;replace J:=J.bV fx;replace ag:=ag.bV fx;replace af:=J.aL
 obtain⟨f0,f1,f2,f3,f4⟩:=ag.aL
 replace xP:=xP KK
 obtain⟨m0,rfl⟩ :∃m:Nat,r2= m:=⟨r2.toNat,by omega⟩
 go_wp2
 go_loopw [5] (λi wr=>∃(m:Nat) (tu se sp:Int) (ws:List Int) (ae:List aW) (aU:QR) (d2:Nat) (bd:QR) (d3:Nat),i= .int .i64 (m:Int)/\ws.length + m<=13/\ae.length + 2 * m<=26/\ay wr w 41 #[(0:Int),(0:Int),(0:Int),(),()]/\ay wr oN 41 #[tu,se,sp,aU ws d2,bd ae d3]/\kq w wr aU d2 bd d3 ws ae/\gX wr p A c cs (N + 10 + 8 * (13 - m))/\w.grownBy wr (some p)) (λi _=>(intOf i).toNat)
 case atStart=>exact⟨m0,tu,se,0,[],[],none,0,none,0,rfl,by simp;omega,by simp;omega,J,ag,MC,aA.mono KK,aG⟩
 case round=>
  clear aA J ag aG af f0 f1 f2 f3 f4
  obtain⟨m,tu,se,sp,ws,ae,aU,d2,bd,d3,rfl,xS,mO,J,ag,dv,aA,aG⟩:=hrel
  have bh:=dv.fc;have bf:=dv.fE;clear dv;have tn:=I bh.tK;have vi:=I bf.tK;have BR:=I (nW bh fR);have BS:=I (nW bf hI)
  by_cases bC:0 < m
  .have af:=J.aL
   obtain⟨f0,f1,f2,f3,f4⟩:=ag.aL
   have lK:=ag.lt
   have zu:(m:Int) - 1= ((m - 1:Nat):Int):=KK
   have ki:(0:Int) < (m:Int):=KK
   have CN:decide ((0:Int) < (m:Int))= true:=Xh ki
   go_upto_region 6 with fail
   refine Xi λaBR gv bU=>?_
   replace aA:=aA.aK gv;replace aG:=bx aG (bL gv (some p));replace J:=J.bV (bL gv (some p));replace af:=J.aL;clear f0 f1 f2 f3 f4;replace ag:=ag.bV (bL gv (some p))
   obtain⟨f0,f1,f2,f3,f4⟩:=ag.aL
   replace bh:=bh.dm (bL gv (some p));replace bf:=bf.dm (bL gv (some p));have Dy:=gv.size;have UB:=bU.lt;have hn:=bU.aL
   go_wp2_with fail
   refine (iI 6 p A c cK (N + 10 + 8 * (13 - m)) KK KK _ (aA.aK ao)).mono ?_
   rintro e du ⟨r,rfl,⟨vw,_,nv⟩,mM⟩
   clear f0 f1 f2 f3 f4;obtain⟨gy,aA,yk,aG⟩:=Xk mM aG;replace J:=J.bV gy;replace ag:=ag.bV gy;replace bU:=bU.bV gy;replace bh:=bh.dm gy
   replace bf:=bf.dm gy;replace af:=J.aL
   obtain⟨f0,f1,f2,f3,f4⟩:=ag.aL
   replace hn:=bU.aL;replace nv:=nv KK;clear ki CN;have qo:∀k,(Value.slice aU ws d2).ownBlock= some k->¬k= wr.heap.size:=bh.bK bU;have pz:∀k,(Value.slice bd ae d3).ownBlock= some k->¬k= wr.heap.size:=bf.bK bU
   rcases (show r= 0\/r= 1\/r= 2\/r= 3\/r= 4\/r= 5 by omega) with rfl | rfl | rfl | rfl | rfl | rfl
   case' inr.inr.inl=>
    have np:=aG.size
    go_wp2_with fail
    refine (acW tu se sp aU d2 ws bd d3 ae KK KK tn.o vi.o BR.o BS.o _ (bh.ej fR) (bf.ej hI)).mono ?_
    rintro e eB ⟨KD,Ks,Kx,q1,KJ,Kv,ct,e2,cu,e3,b,rfl,qR,qQ,ef,kg⟩
    clear f0 f1 f2 f3 f4;obtain⟨eJ,en,aA,xt,aG⟩:=YR kg aA aG;replace J:=J.bV en;replace ag:=ag.bV en;replace bU:=bU.bV en;replace bh:=bh.dm en
    replace bf:=bf.dm en;replace af:=J.aL
    obtain⟨f0,f1,f2,f3,f4⟩:=ag.aL
    replace hn:=bU.aL;have fq:=ef.fc;have fv:=ef.fE;clear ef;replace fq:=fq.base (B':=w) np;replace fv:=fv.base (B':=w) np;have eo:=qo;have dL:=pz;have sV:=fq.bK bU;have sW:=fv.bK bU;have Ej:=bU.iW;have eE:=J.lt;have mY:=ag.lt;have BI:=bU.lt
    go_upto_region 16 with fail
    clear af f0 f1 f2 f3 f4 hn
    refine hs 0 λly ea=>?_
    replace aG:=kW ea aG;replace aA:=kV ea aA;replace J:=ea.dj J;replace ag:=ea.dj ag;replace bU:=ea.iK bU;replace bh:=bh.eh ea;replace bf:=bf.eh ea;replace fq:=fq.eh ea;replace fv:=fv.eh ea;have af:=J.aL
    obtain⟨f0,f1,f2,f3,f4⟩:=ag.aL
    have hn:=bU.aL;replace aA:=aA.mono (M:=N + 10 + 8 * (13 - m) + 6) KK;clear eo dL sV sW qo pz
   case' inr.inr.inr.inl=>
    have np:=aG.size
    go_wp2_with fail
    refine (acW tu se sp aU d2 ws bd d3 ae KK KK tn.o vi.o BR.o BS.o _ (bh.ej fR) (bf.ej hI)).mono ?_
    rintro e eB ⟨KD,Ks,Kx,q1,KJ,Kv,ct,e2,cu,e3,b,rfl,qR,qQ,ef,kg⟩
    clear f0 f1 f2 f3 f4;obtain⟨eJ,en,aA,xt,aG⟩:=YR kg aA aG;replace J:=J.bV en;replace ag:=ag.bV en;replace bU:=bU.bV en;replace bh:=bh.dm en
    replace bf:=bf.dm en;replace af:=J.aL
    obtain⟨f0,f1,f2,f3,f4⟩:=ag.aL
    replace hn:=bU.aL;have fq:=ef.fc;have fv:=ef.fE;clear ef;replace fq:=fq.base (B':=w) np;replace fv:=fv.base (B':=w) np;have eo:=qo;have dL:=pz;have sV:=fq.bK bU;have sW:=fv.bK bU;have Ej:=bU.iW;have eE:=J.lt;have mY:=ag.lt;have BI:=bU.lt
    go_upto_region 16 with fail
    clear af f0 f1 f2 f3 f4 hn
    refine hs 0 λly ea=>?_
    replace aG:=kW ea aG;replace aA:=kV ea aA;replace J:=ea.dj J;replace ag:=ea.dj ag;replace bU:=ea.iK bU;replace bh:=bh.eh ea;replace bf:=bf.eh ea;replace fq:=fq.eh ea;replace fv:=fv.eh ea;have af:=J.aL
    obtain⟨f0,f1,f2,f3,f4⟩:=ag.aL
    have hn:=bU.aL;replace aA:=aA.mono (M:=N + 10 + 8 * (13 - m) + 6) KK;clear eo dL sV sW qo pz
   case' inr.inr.inr.inr.inr=>
    have np:=aG.size
    go_wp2_with fail
    refine (aqp tu se sp aU d2 ws bd d3 ae KK KK tn.o vi.o BR.o BS.o _ (bh.ej fR) (bf.ej hI)).mono ?_
    rintro e eB ⟨KD,Ks,Kx,KJ,Kv,ct,e2,cu,e3,b,rfl,qR,qQ,ef,kg⟩
    clear f0 f1 f2 f3 f4;obtain⟨eJ,en,aA,xt,aG⟩:=YR kg aA aG;replace J:=J.bV en;replace ag:=ag.bV en;replace bU:=bU.bV en;replace bh:=bh.dm en
    replace bf:=bf.dm en;replace af:=J.aL
    obtain⟨f0,f1,f2,f3,f4⟩:=ag.aL
    replace hn:=bU.aL;have fq:=ef.fc;have fv:=ef.fE;clear ef;replace fq:=fq.base (B':=w) np;replace fv:=fv.base (B':=w) np;have eo:=qo;have dL:=pz;have sV:=fq.bK bU;have sW:=fv.bK bU;have Ej:=bU.iW;have eE:=J.lt;have mY:=ag.lt;have BI:=bU.lt
    go_upto_region 16 with fail
    clear af f0 f1 f2 f3 f4 hn
    refine hs 0 λly ea=>?_
    replace aG:=kW ea aG;replace aA:=kV ea aA;replace J:=ea.dj J;replace ag:=ea.dj ag;replace bU:=ea.iK bU;replace bh:=bh.eh ea;replace bf:=bf.eh ea;replace fq:=fq.eh ea;replace fv:=fv.eh ea;have af:=J.aL
    obtain⟨f0,f1,f2,f3,f4⟩:=ag.aL
    have hn:=bU.aL;replace aA:=aA.mono (M:=N + 10 + 8 * (13 - m) + 6) KK;clear eo dL sV sW qo pz
   case' inl=>
    go_upto_region 10 with fail
    obtain⟨dx,et⟩ :∃X:World->Prop,∀V,X V↔ay V oN 41 #[tu,se,sp,aU ws d2,bd ae d3]:=⟨_,λ_=>Xt⟩
    have cH:=I et;clear et
    refine nZ dx [([0,1],2),([3],4),([5,6,7],8)] [9] PV PV ((cH.o _).2 ag) ?_
    replace bh:=bh.aK (Wt du du).drew;replace bf:=bf.aK (Wt du du).drew
    haveI:Nonempty (cM dx):=⟨⟨_,(cH.o _).2 ag⟩⟩
    replace aA:=aA.aK (Wt _ _).drew;replace aG:=bx aG (bL (Wt du du).drew (some p));clear af;replace J:ay du.drew w 41 #[(0:Int),(0:Int),(0:Int),(),()]:=J;clear f0 f1 f2 f3 f4;replace ag:ay du.drew (oN) 41 #[tu,se,sp,aU ws d2,bd ae d3]:=ag
    clear hn;replace bU:ay du.drew wr 41 #[tu,se,sp,aU ws d2,bd ae d3]:=bU;have tR:du.drew.heap.size= du.heap.size:=rfl
    generalize du.drew= wd at *
    have af:=J.aL
    obtain⟨f0,f1,f2,f3,f4⟩:=ag.aL
    have hn:=bU.aL;clear tR;have HW:w.heap.size<=wd.heap.size:=aG.size;clear f0 f1 f2 f3 f4
    obtain⟨f0,f1,f2,f3,f4⟩:=ay.kG (λK:cM dx=>(cH.o _).1 K.holds)
    refine gA λff da=>?_
    refine YB ?_
    repeat go_big_quiet_step (fail)
    refine VF ?_
    refine XV ?_
    go_wp2_with fail
    refine (iI 6 p A c cK (N + 10 + 8 * (13 - m) + 2) KK KK _ (aA.aK ao)).mono ?_
    rintro e eB ⟨q,rfl,⟨vv,_,hO⟩,kg⟩
    obtain⟨en,aA,xt,aG⟩:=Xk kg aG;replace J:=J.bV en;replace bU:=bU.bV en;replace bh:=bh.dm en;replace bf:=bf.dm en
    replace af:=J.aL;replace hn:=bU.aL;replace hO:=hO KK;replace ag:=ag.bV en
    go_wp2
    refine gb ((cH.o _).2 ag) (da _ _ ?_)
    refine gA λff da=>?_
    refine Xp ?_
    repeat go_big_quiet_step (fail)
    refine VF ?_
    refine XV ?_
    have np:=aG.size
    go_wp2_with fail
    refine (acV KK KK tn.o vi.o BR.o BS.o (bh.ej fR) (bf.ej hI)).mono ?_
    rintro e fH ⟨KD,Ks,Kx,KJ,Kv,ct,e2,cu,e3,b,rfl,qR,qQ,ef,jc⟩
    obtain⟨mA,ds,aA,th,aG⟩:=YR jc aA aG;replace J:=J.bV ds;replace bU:=bU.bV ds;replace bh:=bh.dm ds
    replace bf:=bf.dm ds;replace af:=J.aL;replace hn:=bU.aL;replace ag:=ag.bV ds
    go_wp2
    refine gb ((cH.o _).2 ag) (da _ _ ?_)
    refine gA λff da=>?_
    refine YI ?_
    repeat go_big_quiet_step (fail)
    refine VF ?_
    refine XV ?_
    clear f0 f1 f2 f3 f4
    obtain⟨f0,f1,f2,f3,f4⟩:=ag.aL
    have fq:=ef.fc;have fv:=ef.fE;clear ef;replace fq:=fq.base (B':=w) np;replace fv:=fv.base (B':=w) np;have eo:=qo;have dL:=pz;have sV:=fq.bK bU;have sW:=fv.bK bU;have Ej:=bU.iW;have eE:=J.lt;have BI:=bU.lt;have mY:=ag.lt
    go_wp2
    clear af hn f0 f1 f2 f3 f4
    refine hs 0 λly ea=>?_
    replace aG:=kW ea aG;replace aA:=kV ea aA;replace J:=ea.dj J;replace bU:=ea.iK bU;replace ag:=ea.dj ag;replace bh:=bh.eh ea;replace bf:=bf.eh ea;replace fq:=fq.eh ea;replace fv:=fv.eh ea;have af:=J.aL;have hn:=bU.aL
    obtain⟨f0,f1,f2,f3,f4⟩:=ag.aL
    refine gb ((cH.o _).2 ag) (da _ _ ?_)
    refine ky ?_
    refine Xp ?_
    repeat go_big_quiet_step (fail)
    refine VF ?_
    go_upto_region 16 with fail
    replace aA:=aA.mono (M:=N + 10 + 8 * (13 - m) + 6) KK;clear eo dL sV sW qo pz
   case' inr.inl=>
    go_upto_region 10 with fail
    obtain⟨dx,et⟩ :∃X:World->Prop,∀V,X V↔ay V oN 41 #[tu,se,sp,aU ws d2,bd ae d3]:=⟨_,λ_=>Xt⟩
    have cH:=I et;clear et
    refine nZ dx [([0,1],2),([3],4),([5,6,7],8)] [9] PV PV ((cH.o _).2 ag) ?_
    replace bh:=bh.aK (Wt du du).drew;replace bf:=bf.aK (Wt du du).drew
    haveI:Nonempty (cM dx):=⟨⟨_,(cH.o _).2 ag⟩⟩
    replace aA:=aA.aK (Wt _ _).drew;replace aG:=bx aG (bL (Wt du du).drew (some p));clear af;replace J:ay du.drew w 41 #[(0:Int),(0:Int),(0:Int),(),()]:=J;clear f0 f1 f2 f3 f4;replace ag:ay du.drew (oN) 41 #[tu,se,sp,aU ws d2,bd ae d3]:=ag
    clear hn;replace bU:ay du.drew wr 41 #[tu,se,sp,aU ws d2,bd ae d3]:=bU;have tR:du.drew.heap.size= du.heap.size:=rfl
    generalize du.drew= wd at *
    have af:=J.aL
    obtain⟨f0,f1,f2,f3,f4⟩:=ag.aL
    have hn:=bU.aL;clear tR;have HW:w.heap.size<=wd.heap.size:=aG.size;clear f0 f1 f2 f3 f4
    obtain⟨f0,f1,f2,f3,f4⟩:=ay.kG (λK:cM dx=>(cH.o _).1 K.holds)
    refine gA λff da=>?_
    refine YB ?_
    repeat go_big_quiet_step (fail)
    refine VF ?_
    refine XV ?_
    go_wp2_with fail
    refine (iI 6 p A c cK (N + 10 + 8 * (13 - m) + 2) KK KK _ (aA.aK ao)).mono ?_
    rintro e eB ⟨q,rfl,⟨vv,_,hO⟩,kg⟩
    obtain⟨en,aA,xt,aG⟩:=Xk kg aG;replace J:=J.bV en;replace bU:=bU.bV en;replace bh:=bh.dm en;replace bf:=bf.dm en
    replace af:=J.aL;replace hn:=bU.aL;replace hO:=hO KK;replace ag:=ag.bV en
    go_wp2
    refine gb ((cH.o _).2 ag) (da _ _ ?_)
    refine gA λff da=>?_
    refine Xp ?_
    repeat go_big_quiet_step (fail)
    refine VF ?_
    refine XV ?_
    have np:=aG.size
    go_wp2_with fail
    refine (acV KK KK tn.o vi.o BR.o BS.o (bh.ej fR) (bf.ej hI)).mono ?_
    rintro e fH ⟨KD,Ks,Kx,KJ,Kv,ct,e2,cu,e3,b,rfl,qR,qQ,ef,jc⟩
    obtain⟨mA,ds,aA,th,aG⟩:=YR jc aA aG;replace J:=J.bV ds;replace bU:=bU.bV ds;replace bh:=bh.dm ds
    replace bf:=bf.dm ds;replace af:=J.aL;replace hn:=bU.aL;replace ag:=ag.bV ds
    go_wp2
    refine gb ((cH.o _).2 ag) (da _ _ ?_)
    refine gA λff da=>?_
    refine YI ?_
    repeat go_big_quiet_step (fail)
    refine VF ?_
    refine XV ?_
    clear f0 f1 f2 f3 f4
    obtain⟨f0,f1,f2,f3,f4⟩:=ag.aL
    have fq:=ef.fc;have fv:=ef.fE;clear ef;replace fq:=fq.base (B':=w) np;replace fv:=fv.base (B':=w) np;have eo:=qo;have dL:=pz;have sV:=fq.bK bU;have sW:=fv.bK bU;have Ej:=bU.iW;have eE:=J.lt;have BI:=bU.lt;have mY:=ag.lt
    go_wp2
    clear af hn f0 f1 f2 f3 f4
    refine hs 0 λly ea=>?_
    replace aG:=kW ea aG;replace aA:=kV ea aA;replace J:=ea.dj J;replace bU:=ea.iK bU;replace ag:=ea.dj ag;replace bh:=bh.eh ea;replace bf:=bf.eh ea;replace fq:=fq.eh ea;replace fv:=fv.eh ea;have af:=J.aL;have hn:=bU.aL
    obtain⟨f0,f1,f2,f3,f4⟩:=ag.aL
    refine gb ((cH.o _).2 ag) (da _ _ ?_)
    refine ky ?_
    refine Xp ?_
    repeat go_big_quiet_step (fail)
    refine VF ?_
    go_upto_region 16 with fail
    replace aA:=aA.mono (M:=N + 10 + 8 * (13 - m) + 6) KK;clear eo dL sV sW qo pz
   case' inr.inr.inr.inr.inl=>
    go_upto_region 15 with fail
    obtain⟨dx,et⟩ :∃X:World->Prop,∀V,X V↔ay V oN 41 #[tu,se,sp,aU ws d2,bd ae d3]:=⟨_,λ_=>Xt⟩
    have cH:=I et;clear et
    refine nZ dx [([0,1],2),([],3),([],4),([5,6,7,8],9)] [10] PV PV ((cH.o _).2 ag) ?_
    replace bh:=bh.aK (Wt du du).drew;replace bf:=bf.aK (Wt du du).drew
    haveI:Nonempty (cM dx):=⟨⟨_,(cH.o _).2 ag⟩⟩
    replace aA:=aA.aK (Wt _ _).drew;replace aG:=bx aG (bL (Wt du du).drew (some p));clear af;replace J:ay du.drew w 41 #[(0:Int),(0:Int),(0:Int),(),()]:=J;clear f0 f1 f2 f3 f4;replace ag:ay du.drew (oN) 41 #[tu,se,sp,aU ws d2,bd ae d3]:=ag
    clear hn;replace bU:ay du.drew wr 41 #[tu,se,sp,aU ws d2,bd ae d3]:=bU;have tR:du.drew.heap.size= du.heap.size:=rfl
    generalize du.drew= wd at *
    have af:=J.aL
    obtain⟨f0,f1,f2,f3,f4⟩:=ag.aL
    have hn:=bU.aL;clear tR;have HW:w.heap.size<=wd.heap.size:=aG.size;clear f0 f1 f2 f3 f4
    obtain⟨f0,f1,f2,f3,f4⟩:=ay.kG (λK:cM dx=>(cH.o _).1 K.holds)
    refine gA λff da=>?_
    refine YB ?_
    repeat go_big_quiet_step (fail)
    refine VF ?_
    refine XV ?_
    go_wp2
    refine gb ((cH.o _).2 (ag.to (bP _ _))) (da _ _ ?_)
    refine gA λff da=>?_
    refine Xn ?_
    refine VF ?_
    refine XV ?_
    go_wp2_with fail
    refine (pQ [1,5,30,100] (1) 100 WG WG WG cK KK (aA.aK (pd _))).mono ?_
    rintro e eB ⟨q,rfl,vv,kg⟩
    obtain⟨en,aA,xt,aG⟩:=Xk kg aG;replace J:=J.bV en;replace bU:=bU.bV en;replace bh:=bh.dm en;replace bf:=bf.dm en
    replace af:=J.aL;replace hn:=bU.aL;replace ag:=ag.bV en
    go_wp2
    refine gb ((cH.o _).2 ag) (da _ _ ?_)
    refine gA λff da=>?_
    refine Xn ?_
    refine VF ?_
    refine XV ?_
    have np:=aG.size
    go_wp2_with fail
    refine (aqo tu se sp aU d2 ws bd d3 ae KK KK tn.o vi.o BR.o BS.o q _ (bh.ej fR) (bf.ej hI)).mono ?_
    rintro e fH ⟨KD,Ks,Kx,q1,KJ,Kv,ct,e2,cu,e3,b,rfl,qR,qQ,ef,jc⟩
    obtain⟨mA,ds,aA,th,aG⟩:=YR jc aA aG;replace J:=J.bV ds;replace bU:=bU.bV ds;replace bh:=bh.dm ds
    replace bf:=bf.dm ds;replace af:=J.aL;replace hn:=bU.aL;replace ag:=ag.bV ds
    go_wp2
    refine gb ((cH.o _).2 ag) (da _ _ ?_)
    refine gA λff da=>?_
    refine Yo ?_
    repeat go_big_quiet_step (fail)
    refine VF ?_
    refine XV ?_
    clear f0 f1 f2 f3 f4
    obtain⟨f0,f1,f2,f3,f4⟩:=ag.aL
    have fq:=ef.fc;have fv:=ef.fE;clear ef;replace fq:=fq.base (B':=w) np;replace fv:=fv.base (B':=w) np;have eo:=qo;have dL:=pz;have sV:=fq.bK bU;have sW:=fv.bK bU;have Ej:=bU.iW;have eE:=J.lt;have BI:=bU.lt;have mY:=ag.lt
    go_wp2
    clear af hn f0 f1 f2 f3 f4
    refine hs 0 λly ea=>?_
    replace aG:=kW ea aG;replace aA:=kV ea aA;replace J:=ea.dj J;replace bU:=ea.iK bU;replace ag:=ea.dj ag;replace bh:=bh.eh ea;replace bf:=bf.eh ea;replace fq:=fq.eh ea;replace fv:=fv.eh ea;have af:=J.aL;have hn:=bU.aL
    obtain⟨f0,f1,f2,f3,f4⟩:=ag.aL
    refine gb ((cH.o _).2 ag) (da _ _ ?_)
    refine ky ?_
    refine Xp ?_
    repeat go_big_quiet_step (fail)
    refine VF ?_
    go_upto_region 16 with fail
    replace aA:=aA.mono (M:=N + 10 + 8 * (13 - m) + 6) KK;clear eo dL sV sW qo pz
   all_goals
    cases b
    .go_wp2
     go_roundw
     case rel=>exact⟨m - 1,tu,se,sp,ws,ae,aU,d2,bd,d3,by rw [<- zu],by omega,by omega,J,ag,⟨bh,bf,bh.apart bf WG⟩,aA.mono KK,aG⟩
     case measure=>simp [intOf];omega
    .have eo:=bh.bK ag
     have dL:=bf.bK ag;have sV:=fq.bK ag;have sW:=fv.bK ag
     obtain⟨aqU,aCZ,aqV,aqW,aDa⟩:=ag.iW
     have eE:=J.lt;have mY:=ag.lt;have BI:=bU.lt
     go_upto_region 4 with fail
     clear af f0 f1 f2 f3 f4 hn
     refine hs 0 λyq kn=>?_
     replace aG:=kW kn aG;replace aA:=kV kn aA;replace J:=kn.dj J;replace ag:=kn.iK ag;replace bU:=kn.dj bU;replace bh:=bh.eh kn;replace bf:=bf.eh kn;replace fq:=fq.eh kn;replace fv:=fv.eh kn;have af:=J.aL
     obtain⟨f0,f1,f2,f3,f4⟩:=ag.aL
     have hn:=bU.aL
     go_wp2
     go_roundw
     case rel=>exact⟨m - 1,KD,Ks,Kx,KJ,Kv,ct,e2,cu,e3,by rw [<- zu],by omega,by omega,J,ag,⟨fq,fv,fq.apart fv WG⟩,aA.mono KK,aG⟩
     case measure=>simp [intOf];omega
  .have qM:¬(0:Int) < (m:Int):=KK
   have oO:decide ((0:Int) < (m:Int))= false:=Xe qM;have af:=J.aL
   obtain⟨f0,f1,f2,f3,f4⟩:=ag.aL
   have lK:=ag.lt;replace aA:=aA.mono (M:=N + 120) KK
   go_wp2_with fail
   refine (iI 24 p A c cK (N + 120) KK KK _ (aA.aK ao)).mono ?_
   rintro e fH ⟨q,rfl,⟨vv,_,hO⟩,jc⟩
   clear f0 f1 f2 f3 f4;obtain⟨ds,aA,th,aG⟩:=Xk jc aG;replace J:=J.bV ds;replace ag:=ag.bV ds;replace bh:=bh.dm ds;replace bf:=bf.dm ds
   replace af:=J.aL
   obtain⟨f0,f1,f2,f3,f4⟩:=ag.aL
   replace hO:=hO KK;clear qM oO;have qo:∀k,(Value.slice aU ws d2).ownBlock= some k->¬k= oN:=bh.bK ag;have pz:∀k,(Value.slice bd ae d3).ownBlock= some k->¬k= oN:=bf.bK ag
   have Rp:ws.length<=14:=KK
   have aty:ae.length<=27:=KK
   clear xS mO
   rcases (show q= 0\/q= 1\/q= 2\/q= 3\/3 < q by omega) with rfl | rfl | rfl | rfl | cj
   case' inl=>
    go_wp2_with fail
    refine (pQ [0,1,4] (0) 4 WG WG WG cK KK (aA.aK (pd _))).mono ?_
    rintro e ib ⟨tu,rfl,aDM,lu⟩
    clear f0 f1 f2 f3 f4;obtain⟨fN,aA,vW,aG⟩:=Xk lu aG;replace J:=J.bV fN;replace ag:=ag.bV fN;replace bh:=bh.dm fN;replace bf:=bf.dm fN
    replace af:=J.aL
    obtain⟨f0,f1,f2,f3,f4⟩:=ag.aL
    have eo:=qo;have dL:=pz;have aqU:=ag.frozen 0;have eE:=J.lt;have mY:=ag.lt
    go_upto_region 27 with fail
    clear af f0 f1 f2 f3 f4
    refine kL 0 λic fF=>?_
    replace aG:=kW fF aG;replace aA:=kV fF aA;replace J:=fF.dj J;replace ag:=fF.ayb ag;replace bh:=bh.eh fF;replace bf:=bf.eh fF;have af:=J.aL
    obtain⟨f0,f1,f2,f3,f4⟩:=ag.aL
    replace aA:=aA.mono (M:=N + 140) KK;clear eo dL qo pz
   case' inr.inl=>
    have np:=aG.size
    go_wp2_with fail
    refine (XM aU d2 ws KK tn.o _ (bh.ej fR)).mono ?_
    rintro e ib ⟨Y,y,rfl,pb,lu⟩
    clear f0 f1 f2 f3 f4;obtain⟨lv,fN,aA,vW,aG⟩:=YR lu aA aG;replace J:=J.bV fN;replace ag:=ag.bV fN;replace bh:=bh.dm fN
    replace bf:=bf.dm fN;replace af:=J.aL
    obtain⟨f0,f1,f2,f3,f4⟩:=ag.aL
    replace pb:=pb.base (B':=w) np
    go_wp2_with fail
    refine (RS p A c cs cK (N + 122) KK _ (aA.aK ao)).mono ?_
    rintro e yo ⟨v,rfl,hW,ze⟩
    clear f0 f1 f2 f3 f4;obtain⟨ox,aA,aIt,aG⟩:=Xk ze aG;replace J:=J.bV ox;replace ag:=ag.bV ox;replace bh:=bh.dm ox;replace bf:=bf.dm ox
    replace pb:=pb.dm ox;replace af:=J.aL
    obtain⟨f0,f1,f2,f3,f4⟩:=ag.aL
    have EY:∀k,(Value.slice Y ws y).ownBlock= some k->¬k= oN:=pb.bK ag;have xi:∀k,(Value.slice Y ws y).ownBlock= some k->¬k= w.heap.size:=pb.bK J;have FI:=I aA;have BQ:=I aG;have Ge:=I J;have Li:=I ag;have jD:=I bf;have oc:=I (bf.apart pb WG);have FX:=I pb;have FT:=I xi;have Lv:=I EY;clear aA aG J ag bf pb xi EY bh af f0 f1 f2 f4
    go_upto_region 27 with ((at_builtin;refine ke rfl _ _ 38 rfl w 3 i0 _ 1 8 Tryz.underlying38 bo dP dZ dV rfl WG cE fR qU _ ws rfl (FX.o.alloc _) ⟨yo,0,none⟩ 1 (v) rfl (aic _ _ _) Xz KK (by have:=BQ.o.size;simp;omega) ?_;intro HX pH jQ hP sH;clear sH;obtain⟨wM,xJ,rfl⟩:=sf jQ Wn;have ag:=(Li.o.to (bP _ _)).jE hP (λe=>Lv.o _ e.symm rfl);have f3:=(ag.cell 3).trans (show _= some (aU ws d2) from rfl);have gS:=ag.frozen 3;have lK:=ag.lt))
    have lZ:(ws ++ [v]).length= ws.length + 1:=Wn
    rw [lZ] at jQ
    have aA:=(FI.o.aK (bP _ (.cells #[.int .i64 (v)] 3))).row hP (λk ax=>by have:=(FX.o.lt k ax).1;omega);have aG:=nR (bx BQ.o (bL (bP _ (.cells #[.int .i64 (v)] 3)) _)) hP (λk ax=>(FX.o.lt k ax).1);have J:=(Ge.o.to (bP _ (.cells #[.int .i64 (v)] 3))).jE hP (λe=>FT.o _ e.symm rfl);have bf:=(jD.o.aK (bP _ (.cells #[.int .i64 (v)] 3))).kept hP (λk ax e=>oc.o k ax e)
    have bh:=jQ;clear f3 hP jQ gS;have af:=J.aL
    obtain⟨f0,f1,f2,f3,f4⟩:=ag.aL
    have eo:=bh.bK ag;have dL:=pz;replace lK:=ag.lt;clear af f0 f1 f2 f3 f4
    refine kL 3 λic fF=>?_
    replace aG:=kW fF aG;replace aA:=kV fF aA;replace J:=fF.dj J;replace ag:=fF.HK ag;replace bh:=bh.eh fF;replace bf:=bf.eh fF;have af:=J.aL
    obtain⟨f0,f1,f2,f3,f4⟩:=ag.aL
    replace Rp:(ws ++ [v]).length<=15:=by rw [lZ];omega
    rw [<- lZ] at ag f3 bh
    clear lZ eo dL
    generalize ws ++ [v]= ws at *
    generalize (some ⟨wM,0,none⟩ :QR)= aU at *
    generalize xJ= d2 at *
    replace aA:=aA.mono (M:=N + 140) KK;clear qo pz
   case' inr.inr.inl=>
    go_wp2_with fail
    refine (RS p A c cs cK (N + 122) KK _ (aA.aK ao)).mono ?_
    rintro e ib ⟨sp,rfl,aDJ,lu⟩
    clear f0 f1 f2 f3 f4;obtain⟨fN,aA,vW,aG⟩:=Xk lu aG;replace J:=J.bV fN;replace ag:=ag.bV fN;replace bh:=bh.dm fN;replace bf:=bf.dm fN
    replace af:=J.aL
    obtain⟨f0,f1,f2,f3,f4⟩:=ag.aL
    have eo:=qo;have dL:=pz;have aqV:=ag.frozen 2;have eE:=J.lt;have mY:=ag.lt
    go_upto_region 27 with fail
    clear af f0 f1 f2 f3 f4
    refine kL 2 λic fF=>?_
    replace aG:=kW fF aG;replace aA:=kV fF aA;replace J:=fF.dj J;replace ag:=fF.Ss ag;replace bh:=bh.eh fF;replace bf:=bf.eh fF;have af:=J.aL
    obtain⟨f0,f1,f2,f3,f4⟩:=ag.aL
    replace aA:=aA.mono (M:=N + 140) KK;clear eo dL qo pz
   case' inr.inr.inr.inl=>
    have np:=aG.size;have FI:=I aA;have BQ:=I aG;have Ge:=I J;have Li:=I ag;have jD:=I bf;have jC:=I bh;have eE:=J.lt;have mY:=ag.lt;clear aA aG J bh bf af f0 f1 f2 f3
    go_wp2_with ((at_builtin;refine va rfl _ _ 39 rfl fH 214 Dc _ 3 24 Tryz.underlying39 cc NU NV NW rfl WG aW.cells hI yg fH rfl (ay.new _ _ _) (XZ _) bd d3 ae ae.length rfl rfl ((jD.o.ej hI).alloc _) vi.o Xz KK ?_;intro gs pg oG fW fM))
    have aQ:Below fH fH oG:=ai (bP _ _) fM;have aA:=FI.o.aK aQ;have aG:=bx BQ.o (bL aQ (some p));have J:=Ge.o.to aQ;replace ag:=Li.o.to aQ;have bh:=jC.o.aK aQ;have jU:=fW.base (B':=w) np;clear f4 fW fM;have af:=J.aL
    obtain⟨f0,f1,f2,f3,f4⟩:=ag.aL
    have lK:=ag.lt
    go_wp2_with fail
    refine (pQ [7,99,100] (7) 100 WG WG WG cK KK (aA.aK (pd _))).mono ?_
    rintro e ib ⟨sm,rfl,aDI,lu⟩
    clear f0 f1 f2 f3 f4;obtain⟨fN,aA,vW,aG⟩:=Xk lu aG;replace J:=J.bV fN;replace ag:=ag.bV fN;replace bh:=bh.dm fN;replace jU:=jU.dm fN
    replace af:=J.aL
    obtain⟨f0,f1,f2,f3,f4⟩:=ag.aL
    go_wp2_with fail
    refine (iI 4 p A c cK (N + 124) KK KK _ (aA.aK ao)).mono ?_
    rintro e yo ⟨st,rfl,⟨aDL,_,aeA⟩,ze⟩
    clear f0 f1 f2 f3 f4;obtain⟨ox,aA,aIt,aG⟩:=Xk ze aG;replace J:=J.bV ox;replace ag:=ag.bV ox;replace bh:=bh.dm ox;replace jU:=jU.dm ox
    replace af:=J.aL
    obtain⟨f0,f1,f2,f3,f4⟩:=ag.aL
    replace aeA:=aeA KK
    go_wp2_with fail
    refine (pQ [0,1,3600] (0) 3600 WG WG WG cK KK (aA.aK (pd _))).mono ?_
    rintro e BD ⟨cR,rfl,aDK,Ex⟩
    clear f0 f1 f2 f3 f4;obtain⟨sL,aA,ajF,aG⟩:=Xk Ex aG;replace J:=J.bV sL;replace ag:=ag.bV sL;replace bh:=bh.dm sL;replace jU:=jU.dm sL
    replace af:=J.aL
    obtain⟨f0,f1,f2,f3,f4⟩:=ag.aL
    have EY:∀k,(Value.slice gs ae pg).ownBlock= some k->¬k= oN:=jU.bK ag;have xi:∀k,(Value.slice gs ae pg).ownBlock= some k->¬k= w.heap.size:=jU.bK J;have TD:=I aA;have Lj:=I aG;have Ux:=I J;have aof:=I ag;have aos:=I bh;have oc:=I (bh.apart jU WG);replace jU:=I jU;have FT:=I xi
    have Lv:=I EY;clear aA aG J ag bh xi EY af f0 f1 f2 f3 f4
    go_upto_region 27 with ((at_builtin;refine ke rfl _ _ 39 rfl w 214 Dc _ 3 24 Tryz.underlying39 cc NU NV NW rfl WG aW.cells hI yg _ ae rfl (jU.o.alloc _) ⟨BD,0,none⟩ 1 ⟨sm,st,cR⟩ rfl (ayD _ _ _ _ _) Xz KK (by have:=Lj.o.size;simp;omega) ?_;intro HX pH jQ hP sH;clear sH;obtain⟨wM,xJ,rfl⟩:=sf jQ Wn;have ag:=(aof.o.to (bP _ _)).jE hP (λe=>Lv.o _ e.symm rfl);have f4:=(ag.cell 4).trans (show _= some (bd ae d3) from rfl);have ll:=ag.frozen 4;have lK:=ag.lt))
    have lZ:(ae ++ [(⟨sm,st,cR⟩ :aW)]).length= ae.length + 1:=Wn
    rw [lZ] at jQ
    have aA:=(TD.o.aK (bP _ (.cells #[sm,st,cR] 214))).row hP (λk ax=>by have:=(jU.o.lt k ax).1;omega);have aG:=nR (bx Lj.o (bL (bP _ (.cells #[sm,st,cR] 214)) _)) hP (λk ax=>(jU.o.lt k ax).1);have J:=(Ux.o.to (bP _ (.cells #[sm,st,cR] 214))).jE hP (λe=>FT.o _ e.symm rfl)
    have bh:=(aos.o.aK (bP _ (.cells #[sm,st,cR] 214))).kept hP (λk ax e=>oc.o k ax e);have bf:=jQ;clear f4 hP jQ ll;have af:=J.aL
    obtain⟨f0,f1,f2,f3,f4⟩:=ag.aL
    have dL:=bf.bK ag;have eo:=qo;replace lK:=ag.lt;clear af f0 f1 f2 f3 f4
    refine kL 4 λic fF=>?_
    replace aG:=kW fF aG;replace aA:=kV fF aA;replace J:=fF.dj J;replace ag:=fF.aHR ag;replace bh:=bh.eh fF;replace bf:=bf.eh fF;have af:=J.aL
    obtain⟨f0,f1,f2,f3,f4⟩:=ag.aL
    replace aty:(ae ++ [(⟨sm,st,cR⟩ :aW)]).length<=28:=by rw [lZ];omega
    rw [<- lZ] at ag f4 bf
    clear lZ eo dL
    generalize ae ++ [(⟨sm,st,cR⟩ :aW)]= ae at *
    generalize (some ⟨wM,0,none⟩ :QR)= bd at *
    generalize xJ= d3 at *
    replace aA:=aA.mono (M:=N + 140) KK;clear qo pz
   case' inr.inr.inr.inr=>
    have g0:(q == 0)= false:=Xb.2 KK;have g1:(q == 1)= false:=Xb.2 KK;have g2:(q == 2)= false:=Xb.2 KK;have g3:(q == 3)= false:=Xb.2 KK
    go_upto_region 27 with fail
    replace aA:=aA.mono (M:=N + 140) KK
    generalize fH= ic at *
    clear g0 g1 g2 g3 cj qo pz
   all_goals
    go_wp2_with fail
    refine (uR 24 p A c cs cK (N + 140) KK KK _ (aA.aK ao)).mono ?_
    rintro e yo ⟨dc,rfl,ze⟩
    clear f0 f1 f2 f3 f4;obtain⟨ox,aA,aIt,aG⟩:=Xk ze aG;replace J:=J.bV ox;replace ag:=ag.bV ox;replace bh:=bh.dm ox;replace bf:=bf.dm ox
    replace af:=J.aL
    obtain⟨f0,f1,f2,f3,f4⟩:=ag.aL
    cases dc
    .have eo:=bh.bK J
     have dL:=bf.bK J;have eg:=J.iW;have eE:=J.lt;have mY:=ag.lt
     go_wp2
     clear af f0 f1 f2 f3 f4
     refine hs 0 λcP aE=>?_
     replace aG:=kW aE aG;replace aA:=kV aE aA;replace J:=aE.iK J;replace ag:=aE.dj ag;replace bh:=bh.eh aE;replace bf:=bf.eh aE;have af:=J.aL
     obtain⟨f0,f1,f2,f3,f4⟩:=ag.aL
     exact hV ⟨tu,se,sp,ws,ae,aU,d2,bd,d3,rfl,by omega,by omega,⟨bh,bf,bh.apart bf WG⟩,aA.mono KK,aG⟩ aGF
    .have axx:∀k,(Value.slice bd ae d3).ownBlock= some k->¬k= oN:=bf.bK ag
     clear lK
     go_wp2
     go_loopw [8] (λi wr=>∃(m:Nat) (ws:List Int) (aU:QR) (d2:Nat),i= .int .i64 (m:Int)/\20<=m/\m<=40/\ws.length<=m - 5/\ay wr w 41 #[(0:Int),(0:Int),(0:Int),(),()]/\ay wr oN 41 #[tu,se,sp,aU ws d2,bd ae d3]/\bn w 3 1 cE wr (aU ws d2) ws/\bn w 214 3 aW.cells wr (bd ae d3) ae/\gX wr p A c cs (N + 150 + 2 * (m - 20))/\w.grownBy wr (some p)) (λi _=>40 - (intOf i).toNat)
     case atStart=>exact⟨20,ws,aU,d2,rfl,by omega,by omega,by omega,J,ag,bh,bf,aA.mono KK,aG⟩
     case round=>
      clear aA J ag aG bh bf f0 f1 f2 f3 f4 Rp
      obtain⟨m,ws,aU,d2,rfl,ki,CN,Rp,J,ag,bh,bf,aA,aG⟩:=hrel
      have tn:=I bh.tK;replace af:=J.aL
      obtain⟨f0,f1,f2,f3,f4⟩:=ag.aL
      have lK:=ag.lt
      go_upto_region 29 with fail
      obtain⟨dx,et⟩ :∃X:World->Prop,∀V,X V↔ay V oN 41 #[tu,se,sp,aU ws d2,bd ae d3]:=⟨_,λ_=>Xt⟩
      have cH:=I et;clear et
      refine nZ dx [([0,1,2,3],4)] [5,6,7,8,9,10] PV PV ((cH.o _).2 ag) ?_
      replace bh:=bh.aK (Wt wr wr).drew;replace bf:=bf.aK (Wt wr wr).drew
      haveI:Nonempty (cM dx):=⟨⟨_,(cH.o _).2 ag⟩⟩
      replace aA:=aA.aK (Wt _ _).drew;replace aG:=bx aG (bL (Wt wr wr).drew (some p));clear af;replace J:ay wr.drew w 41 #[(0:Int),(0:Int),(0:Int),(),()]:=J;clear f0 f1 f2 f3 f4;replace ag:ay wr.drew (oN) 41 #[tu,se,sp,aU ws d2,bd ae d3]:=ag
      have tR:wr.drew.heap.size= wr.heap.size:=rfl
      generalize wr.drew= wd at *
      have af:=J.aL
      obtain⟨f0,f1,f2,f3,f4⟩:=ag.aL
      clear tR;have HW:w.heap.size<=wd.heap.size:=aG.size;clear f0 f1 f2 f3 f4
      obtain⟨f0,f1,f2,f3,f4⟩:=ay.kG (λK:cM dx=>(cH.o _).1 K.holds)
      refine gA λff da=>?_
      refine Yo ?_
      repeat go_big_quiet_step (fail)
      refine VF ?_
      refine XV ?_
      go_wp2_with fail
      refine (iI 2 p A c cK (N + 150 + 2 * (m - 20)) KK KK _ (aA.aK ao)).mono ?_
      rintro e BD ⟨q,rfl,⟨vv,_,hO⟩,Ex⟩
      obtain⟨sL,aA,ajF,aG⟩:=Xk Ex aG;replace J:=J.bV sL;replace bh:=bh.dm sL;replace bf:=bf.dm sL
      replace af:=J.aL;replace hO:=hO KK;replace ag:=ag.bV sL
      rcases (show ((ws.length:Int) < 10 + q/\m < 40)\/((ws.length:Int) < 10 + q/\m= 40)\/¬((ws.length:Int) < 10 + q) by omega) with ⟨iS,tE⟩ | ⟨iS,tE⟩ | iS
      case' inl=>
       have Nn:decide ((ws.length:Int) < 10 + q)= true:=Xh iS;have Wz:decide ((m:Int) < 40)= true:=Xh KK
       have asT:(m:Int) < 40:=KK
       go_wp2
       refine gb ((cH.o _).2 ag) (da _ _ ?_)
       refine ky ?_
       refine Yn ?_
       repeat go_big_quiet_step (fail)
       refine VF ?_
       clear f0 f1 f2 f3 f4
       obtain⟨f0,f1,f2,f3,f4⟩:=ag.aL
       clear Nn Wz;have pz:=axx;replace aA:=aA.mono (M:=N + 150 + 2 * (m + 1 - 20)) KK;have np:=aG.size
       go_wp2_with fail
       refine (XM aU d2 ws KK tn.o _ (bh.ej fR)).mono ?_
       rintro e KG ⟨Y,y,rfl,pb,QP⟩
       clear f0 f1 f2 f3 f4;obtain⟨aep,AY,aA,aBv,aG⟩:=YR QP aA aG;replace J:=J.bV AY;replace ag:=ag.bV AY;replace bh:=bh.dm AY
       replace bf:=bf.dm AY;replace af:=J.aL
       obtain⟨f0,f1,f2,f3,f4⟩:=ag.aL
       replace pb:=pb.base (B':=w) np
       have EY:∀k,(Value.slice Y ws y).ownBlock= some k->¬k= oN:=pb.bK ag;have xi:∀k,(Value.slice Y ws y).ownBlock= some k->¬k= w.heap.size:=pb.bK J;have FI:=I aA;have BQ:=I aG;have Ge:=I J;have Li:=I ag;have jD:=I bf;have oc:=I (bf.apart pb WG);have FX:=I pb;have FT:=I xi;have Lv:=I EY;clear aA aG J ag bf pb xi EY bh af f0 f1 f2 f4
       go_upto_region 30 with ((at_builtin;refine ke rfl _ _ 38 rfl w 3 i0 _ 1 8 Tryz.underlying38 bo dP dZ dV rfl WG cE fR qU _ ws rfl (FX.o.alloc _) ⟨KG,0,none⟩ 1 ((m:Int)) rfl (aic _ _ _) Xz KK (by have:=BQ.o.size;simp;omega) ?_;intro HX pH jQ hP sH;clear sH;obtain⟨wM,xJ,rfl⟩:=sf jQ Wn;have ag:=(Li.o.to (bP _ _)).jE hP (λe=>Lv.o _ e.symm rfl);have f3:=(ag.cell 3).trans (show _= some (aU ws d2) from rfl);have gS:=ag.frozen 3;have lK:=ag.lt))
       have lZ:(ws ++ [(m:Int)]).length= ws.length + 1:=Wn
       rw [lZ] at jQ
       have aA:=(FI.o.aK (bP _ (.cells #[.int .i64 ((m:Int))] 3))).row hP (λk ax=>by have:=(FX.o.lt k ax).1;omega);have aG:=nR (bx BQ.o (bL (bP _ (.cells #[.int .i64 ((m:Int))] 3)) _)) hP (λk ax=>(FX.o.lt k ax).1);have J:=(Ge.o.to (bP _ (.cells #[.int .i64 ((m:Int))] 3))).jE hP (λe=>FT.o _ e.symm rfl);have bf:=(jD.o.aK (bP _ (.cells #[.int .i64 ((m:Int))] 3))).kept hP (λk ax e=>oc.o k ax e)
       have bh:=jQ;clear f3 hP jQ gS;have af:=J.aL
       obtain⟨f0,f1,f2,f3,f4⟩:=ag.aL
       have eo:=bh.bK ag;have dL:=pz;replace lK:=ag.lt;clear af f0 f1 f2 f3 f4
       refine kL 3 λic fF=>?_
       replace aG:=kW fF aG;replace aA:=kV fF aA;replace J:=fF.dj J;replace ag:=fF.HK ag;replace bh:=bh.eh fF;replace bf:=bf.eh fF;have af:=J.aL
       obtain⟨f0,f1,f2,f3,f4⟩:=ag.aL
       replace Rp:(ws ++ [(m:Int)]).length<=m + 1 - 5:=by rw [lZ];omega
       rw [<- lZ] at ag f3 bh
       clear lZ eo dL
       generalize ws ++ [(m:Int)]= ws at *
       generalize (some ⟨wM,0,none⟩ :QR)= aU at *
       generalize xJ= d2 at *
       go_wp2
       go_roundw
       case rel=>exact⟨m + 1,ws,aU,d2,by go_num,by omega,by omega,by omega,J,ag,bh,bf,aA,aG⟩
       case measure=>simp [intOf];omega
      case' inr.inl=>
       have Nn:decide ((ws.length:Int) < 10 + q)= true:=Xh iS;have Wz:decide ((m:Int) < 40)= false:=Xe KK
       have asT:¬(m:Int) < 40:=KK
       go_wp2
       refine gb ((cH.o _).2 ag) (da _ _ ?_)
       refine ky ?_
       refine Yn ?_
       repeat go_big_quiet_step (fail)
       refine VF ?_
       clear f0 f1 f2 f3 f4
       obtain⟨f0,f1,f2,f3,f4⟩:=ag.aL
       clear Nn Wz;have eo:=bh.bK J;have dL:=bf.bK J;have eg:=J.iW;have eE:=J.lt;have mY:=ag.lt
       go_wp2
       clear af f0 f1 f2 f3 f4
       refine hs 0 λcP aE=>?_
       replace aG:=kW aE aG;replace aA:=kV aE aA;replace J:=aE.iK J;replace ag:=aE.dj ag;replace bh:=bh.eh aE;replace bf:=bf.eh aE;have af:=J.aL
       obtain⟨f0,f1,f2,f3,f4⟩:=ag.aL
       exact hV ⟨tu,se,sp,ws,ae,aU,d2,bd,d3,rfl,by omega,by omega,⟨bh,bf,bh.apart bf WG⟩,aA.mono KK,aG⟩ aGF
      case' inr.inr=>
       have Nn:decide ((ws.length:Int) < 10 + q)= false:=Xe iS
       go_wp2
       refine gb ((cH.o _).2 ag) (da _ _ ?_)
       refine ky ?_
       refine Yn ?_
       repeat go_big_quiet_step (fail)
       refine VF ?_
       clear f0 f1 f2 f3 f4
       obtain⟨f0,f1,f2,f3,f4⟩:=ag.aL
       clear Nn;have eo:=bh.bK J;have dL:=bf.bK J;have eg:=J.iW;have eE:=J.lt;have mY:=ag.lt
       go_wp2
       clear af f0 f1 f2 f3 f4
       refine hs 0 λcP aE=>?_
       replace aG:=kW aE aG;replace aA:=kV aE aA;replace J:=aE.iK J;replace ag:=aE.dj ag;replace bh:=bh.eh aE;replace bf:=bf.eh aE;have af:=J.aL
       obtain⟨f0,f1,f2,f3,f4⟩:=ag.aL
       exact hV ⟨tu,se,sp,ws,ae,aU,d2,bd,d3,rfl,by omega,by omega,⟨bh,bf,bh.apart bf WG⟩,aA.mono KK,aG⟩ aGF
theorem tM {T:Type} {B:Nat} {e:TypeId} {sz:Nat} {f:T->List Value} {w:World} {c p:Nat} {xs:List T} (h:bn B e sz f w (A n c) xs) (aS:p < B):∀eH,A= some eH->0 < xs.length->eH.block≠p:=by
 intro eH de bq
 obtain⟨g,dq,ez⟩:=sf h bq
 injection ez with e1 e2 e3
 subst e1
 have e4:=Wx de
 subst e4
 have:=(h.lt g (by subst e2;rfl)).1
 show g≠p
 omega
theorem axA (h:hZ rs tu se= true):hL ⟨rs,[],tu,se,0,[],[],[]⟩:=by
 have h1:xf tu se= true/\jR rs= true:=by simpa [hZ] using h
 refine⟨?_,h1.1,by simp,by simp,.inr ⟨rfl,rfl⟩⟩
 show ee rs []= true
 simp [ee,h1.2,iv]
theorem aqm (A:QR) (c:Nat) (rs:List aM) (bq:rs) (Te SP:Int) (h:hZ rs Te SP= true) (w:World) (bB:aX 7 aM.cells w A rs) (bl:A= none->rs= []/\c= 0) (gn:rs.length<=c):
 Rd 78 #[A rs c,Te,SP] w λe ah=>∃(qs:List aZ) (tu se sp:Int) (ws:List Int) (ae:List aW) (os:List Out) (bN:QR) (d0:Nat) (bZ:QR) (d1:Nat) (aU:QR) (d2:Nat) (bd:QR) (d3:Nat) (bI:QR) (d4:Nat),e= .returned (.tuple #[.agg #[bN rs d0,bZ qs d1,tu,se,sp,aU ws d2,bd ae d3,bI os d4],true])/\Hid (hL ⟨rs,qs,tu,se,sp,ws,ae,os⟩)/\fu w ah bN d0 bZ d1 aU d2 bd d3 bI d4 rs qs ws ae os/\Below w w ah:=by
 have H:=aiO A c rs bq Te SP w bB bl gn;have aV:=axA h
 rw [Se h,h] at H
 refine H.mono λe ah ⟨bN,d0,bZ,d1,aU,d2,bd,d3,bI,d4,he,jg,hx,fc,fE,kK,kl⟩=>?_
 exact⟨[],Te,SP,0,[],[],[],bN,d0,bZ,d1,aU,d2,bd,d3,bI,d4,he,I aV,⟨jg,hx,fc,fE,kK⟩,kl.2⟩
theorem Vg (Z:KL) {kind mem val yes no bR:Int} (h:hL KL) {w:World} (R:eF w aq au ak al aF rs qs ws ae os):
 Rd 154 #[.agg KL,.agg #[kind,mem,val,yes,no,bR]] w λe ah=>∃(dQ:List aM) (dY:List aZ) (dX dW dU:Int) (cq:List Int) (cw:List aW) (dR:List Out) (bN:QR) (d0:Nat) (bZ:QR) (d1:Nat) (aU:QR) (d2:Nat) (bd:QR) (d3:Nat) (bI:QR) (d4:Nat) (b:Bool),e= .returned (.tuple #[.agg #[bN dQ d0,bZ dY d1,dX,dW,dU,aU cq d2,bd cw d3,bI dR d4],b])/\Hid (b= true->dQ= rs/\hL ⟨dQ,dY,dX,dW,dU,cq,cw,dR⟩)/\fu w ah bN d0 bZ d1 aU d2 bd d3 bI d4 dQ dY cq cw dR/\Below w w ah:=by
 have H:=aiG aq au ak al aF c0 aw c2 c3 c4 rs qs tu se sp ws ae os Z kind mem val yes no bR h w R
 cases hm:hY ⟨rs,qs,tu,se,sp,ws,ae,os⟩ ⟨kind,mem,val,yes,no,bR⟩ with
 | none=>
  rw [hm] at H
  exact H.mono λe ah ⟨he,aB⟩=>⟨[],[],0,0,0,[],[],[],none,0,none,0,none,0,none,0,none,0,false,he,I (λh=>by cases h),agV,aB⟩
 | some n=>
  rw [hm] at H
  have bu:n.bT= rs:=axs hm;have ax:=Oh h hm
  obtain⟨dQ,dY,dX,dW,dU,cq,cw,dR⟩:=n
  exact H.mono λe ah ⟨bN,d0,bZ,d1,aU,d2,bd,d3,bI,d4,he,aV,aB⟩=>⟨dQ,dY,dX,dW,dU,cq,cw,dR,bN,d0,bZ,d1,aU,d2,bd,d3,bI,d4,true,he,I (λ_=>⟨bu,ax⟩),aV,aB⟩
def yu {T:Type} (e:TypeId) (sz:Nat) (f:T->List Value) (m1 m2:Nat) (xs:List T) (cs:Array Value):mZ (Option Addr×Nat) where
 par:=λn=>if n= m1 then [0] else []
 val:=λn p=>if n= 0 then .slice p.1 0 0 else if n= m1 then .slice p.1 xs.length p.2 else if n= m2 then .slice p.1 1 1 else undef
 post:=λn bA p dy V=>(n= 0->p.1= some ⟨dy.heap.size,0,none⟩/\ay V dy.heap.size e #[])/\
  (n= m1->∃g bS,(bA 0).1= some ⟨g,0,none⟩/\p.1= some ⟨bS,0,none⟩/\bn g e sz f V (.slice p.1 xs.length p.2) xs)/\
  (n= m2->∃g,p.1= some ⟨g,0,none⟩/\dy.heap.size= g/\ay V g e cs)
theorem ayC (w:World) (r m:Int) (s:Bool) (e:TypeId):aX 3 Out.cells (w.alloc (.cells #[r,m,s] e)) (some ⟨w,0,none⟩) [(⟨r,m,s⟩ :Out)]:=by
 have h:=(bn.built (B:=w) (f:=Out.cells) w [(⟨r,m,s⟩ :Out)] e (XZ _) Yk sd).ej (hf:=sd)
 simpa [Out.cells] using h
theorem Yc {w W:World} {p:Nat} {B0 B1 B2 B3 B4 B5:Nat} {t0 t1 t2 t3 t4 t5:TypeId} {v0 v1 v2 v3 v4 v5:Value} {T0 T1 T2 T3 T4 T5:Type} {s0 s1 s2 s3 s4 s5:Nat} {f0:T0->List Value} {f1:T1->List Value} {f2:T2->List Value} {f3:T3->List Value} {f4:T4->List Value} {f5:T5->List Value} {x0:List T0} {x1:List T1} {x2:List T2} {x3:List T3} {x4:List T4} {x5:List T5} (h0:bn B0 t0 s0 f0 w v0 x0) (h1:bn B1 t1 s1 f1 w v1 x1) (h2:bn B2 t2 s2 f2 w v2 x2) (h3:bn B3 t3 s3 f3 w v3 x3) (h4:bn B4 t4 s4 f4 w v4 x4) (h5:bn B5 t5 s5 f5 w v5 x5) (h:w.grownBy W (some p)) (g0:p<B0:=by omega) (g1:p<B1:=by omega) (g2:p<B2:=by omega) (g3:p<B3:=by omega) (g4:p<B4:=by omega) (g5:p<B5:=by omega):bn B0 t0 s0 f0 W v0 x0/\bn B1 t1 s1 f1 W v1 x1/\bn B2 t2 s2 f2 W v2 x2/\bn B3 t3 s3 f3 W v3 x3/\bn B4 t4 s4 f4 W v4 x4/\bn B5 t5 s5 f5 W v5 x5:=⟨h0.dm h g0,h1.dm h g1,h2.dm h g2,h3.dm h g3,h4.dm h g4,h5.dm h g5⟩
theorem amU (h:v:=by
 replace aA:=aA.aK lv;have vW:=fN.size;replace aG:=bx aG fN;replace J:=J.bV fN;replace bU:=bU.bV fN;obtain⟨cn,cm,bh,bf,cx,OR⟩:=Yc cn cm bh bf cx OR fN
 have af:=J.aH
 have v0:=bU.aH
 replace aC:=aC.bV fN;replace ef:=ef.base (B':=w) pE;have kQ:=ef.jg;have kD:=ef.hx;have fq:=ef.fc;have fv:=ef.fE;have kZ:=ef.kK;clear ef pE
 go_wp2
 refine⟨rfl,(cH.o _).2 aC,?_⟩
 refine YI ?_
 repeat go_big_quiet_step (fail)
 refine VF ?_
 refine fj _ _ ?_
 clear fj K
 generalize ib= uY at *
 replace af:=J.aH
 replace cA:=aC.aH
 replace v0:=bU.aH
 have gE:=cn.bK bU;have jf:=cm.bK bU;have eo:=bh.bK bU;have dL:=bf.bK bU;have gL:=cx.bK bU;have RZ:=kQ.bK bU;have Sa:=kD.bK bU;have sV:=fq.bK bU;have sW:=fv.bK bU;have Sb:=kZ.bK bU;have Oj:=OR.bK bU;have Ej:=bU.iX;have eE:=J.lt;have jt:=aC.lt;have BI:=bU.lt
 refine Dt 9 [10] #[true,true,true,true,true,true,true,true,true,true,true] PV ((cH.o _).2 aC) (λK fj=>?_)
 refine XV ?_
 go_wp2
 clear af cA v0
 refine iO 0 λly ea=>?_
 replace aG:=kW ea aG;replace aA:=kV ea aA;replace J:=ea.dj J;replace aC:=ea.dj aC;replace bU:=ea.iV bU;replace cn:=cn.eh ea;replace cm:=cm.eh ea;replace bh:=bh.eh ea;replace bf:=bf.eh ea;replace cx:=cx.eh ea;replace kQ:=kQ.eh ea;replace kD:=kD.eh ea;replace fq:=fq.eh ea;replace fv:=fv.eh ea;replace kZ:=kZ.eh ea;replace OR:=OR.eh ea
 have af:=J.aH
 have cA:=aC.aH
 have v0:=bU.aH
 refine⟨rfl,(cH.o _).2 aC,?_⟩
 refine Xp ?_
 repeat go_big_quiet_step (fail)
 refine VF ?_
 refine fj _ _ ?_
 clear fj K
 refine aGi PV ((cH.o _).2 aC) ?_
 go_wp2_with fail
 go_meet
 exact⟨bK,b,dQ,dY,dX,dW,dU,cq,cw,dR,ck,e0,cf,e1,ct,e2,cu,e3,cl,e4,rfl,rfl,CP,qn,tX,J,aC,bU,⟨cn,cm,bh,bf,cx⟩,⟨kQ,kD,fq,fv,kZ⟩,OR,aA.mono KK,aG⟩):v:=h
theorem axp (p:Nat) (A:QR) (c:Nat) (cs:List UInt8) (cK:cs) (N:Nat) (bU:N<=200000) (w:World) (aA:gX w p A c cs N):
 Rd 88 #[.pointer (some ⟨p,0,none⟩)] w λe ah=>∃(rs:List aM) (qs:List aZ) (tu se sp:Int) (ws:List Int) (ae:List aW) (os:List Out) (bN:QR) (d0:Nat) (bZ:QR) (d1:Nat) (aU:QR) (d2:Nat) (bd:QR) (d3:Nat) (bI:QR) (d4:Nat),e= .returned (.agg #[bN rs d0,bZ qs d1,tu,se,sp,aU ws d2,bd ae d3,bI os d4])/\rs.length<=12/\(∀t ∈ rs,t.name.size<=12)/\qs.length<=7/\ws.length<=60/\ae.length<=99/\os.length<=30/\fu w ah bN d0 bZ d1 aU d2 bd d3 bI d4 rs qs ws ae os/\Stepped w ah p A c cs (N + 2600):=by
 obtain⟨i0,bo,dP,dZ,dV⟩:=Xo NS
 go_in
 have aS:=aA.lt;have aG:=ht w (some p)
 go_upto_region 1 with fail
 refine Xi λbm bD J=>?_
 replace aA:=aA.aK bD;replace aG:=bx aG (bL bD (some p));have nY:=bD.size;have Gf:=J.lt;have af:=J.aH
 go_wp2_with fail
 refine (agy p A c cs cK N KK _ (aA.aK ao)).mono ?_
 rintro e aI ⟨rs,g,y,rfl,tH,sR,OR,jF⟩
 obtain⟨eI,aA,sj,aG⟩:=Xk jF aG;replace J:=J.bV eI;replace af:=J.aH;replace OR:=OR.base (B':=w) KK
 obtain⟨tO,hQ⟩ :∃b,jR rs= b:=⟨_,rfl⟩
 go_wp2_with fail
 refine (zO KK tO hQ (OR.ej ji)).mono ?_
 rintro e bw ⟨rfl,mi⟩
 obtain⟨bG,hH,aA,uV,aG⟩:=YR mi aA aG;replace J:=J.bV hH;replace OR:=OR.dm hH;replace af:=J.aH
 go_upto_if 14 with fail
 clear af
 go_cut [3] (λv W=>∃(rs:List aM) (g y:Nat),v= .slice (some ⟨g,0,none⟩) rs y/\rs.length<=12/\Hid (jR rs= true)/\Hid (∀t ∈ rs,t.name.size<=12)/\bn w 89 7 aM.cells W (.slice (some ⟨g,0,none⟩) rs y) rs/\ay W w 44 #[(),(),(0:Int),(0:Int),(0:Int),(),(),()]/\gX W p A c cs (N + 700)/\w.grownBy W (some p))
 case first=>
  cases tO
  .go_wp2_with fail
   have aIR:=aG.size;have abM:=(bn.built (B:=w) (f:=aM.cells) bw [(⟨1,(⟨#[109,97,105,110]⟩ :VU),0,false,true,false,1,by decide⟩ :aM),⟨2,(⟨#[116,97,98,108,101]⟩ :VU),4,true,false,false,1,by decide⟩] 89 aIR Yk ji)
   rw [show ([(⟨1,(⟨#[109,97,105,110]⟩ :VU),0,false,true,false,1,by decide⟩ :aM),⟨2,(⟨#[116,97,98,108,101]⟩ :VU),4,true,false,false,1,by decide⟩].flatMap aM.cells).toArray= (#[(1:Int),.string (⟨#[109,97,105,110]⟩ :VU),(0:Int),false,true,false,(1:Int),(2:Int),.string (⟨#[116,97,98,108,101]⟩ :VU),(4:Int),true,false,false,(1:Int)]:Array Value) from rfl] at abM
   replace J:=J.to (bP bw (.cells #[(1:Int),.string (⟨#[109,97,105,110]⟩ :VU),(0:Int),false,true,false,(1:Int),(2:Int),.string (⟨#[116,97,98,108,101]⟩ :VU),(4:Int),true,false,false,(1:Int)] 89));replace aG:=bx aG (bL (bP bw (.cells #[(1:Int),.string (⟨#[109,97,105,110]⟩ :VU),(0:Int),false,true,false,(1:Int),(2:Int),.string (⟨#[116,97,98,108,101]⟩ :VU),(4:Int),true,false,false,(1:Int)] 89)) (some p))
   replace aA:=aA.aK (bP bw (.cells #[(1:Int),.string (⟨#[109,97,105,110]⟩ :VU),(0:Int),false,true,false,(1:Int),(2:Int),.string (⟨#[116,97,98,108,101]⟩ :VU),(4:Int),true,false,false,(1:Int)] 89))
   go_meet
   exact⟨[(⟨1,(⟨#[109,97,105,110]⟩ :VU),0,false,true,false,1,by decide⟩ :aM),⟨2,(⟨#[116,97,98,108,101]⟩ :VU),4,true,false,false,1,by decide⟩],_,2,rfl,by decide,I PV,I (by intro t cJ;simp only [Xl,YT,or_false] at cJ;rcases cJ with rfl | rfl <;> decide),abM,J,aA,aG⟩
  .go_wp2_with fail
   go_meet
   exact⟨rs,g,y,rfl,tH,I hQ,I sR,OR,J,aA,aG⟩
 case rest=>
  clear J aA aG OR tH sR hQ
  obtain⟨rs,g,y,rfl,tH,uc,DR,OR,J,aA,aG⟩:=hcut
  generalize wc= pG at *
  have af:=J.aH
  go_wp2_with fail
  refine (iI 3 p A c cK (N + 700) KK KK _ (aA.aK ao)).mono ?_
  rintro e bH ⟨dM,rfl,⟨EC,_,rW⟩,mL⟩
  obtain⟨ed,aA,yj,aG⟩:=Xk mL aG;replace J:=J.bV ed;replace OR:=OR.dm ed;replace af:=J.aH;replace rW:=rW KK
  go_wp2_with fail
  refine (pQ [10,60,3600] (10) 3600 WG WG WG cK KK (aA.aK (pd _))).mono ?_
  rintro e cO ⟨s0,rfl,Ww,jw⟩
  obtain⟨fw,aA,ti,aG⟩:=Xk jw aG;replace J:=J.bV fw;replace OR:=OR.dm fw;replace af:=J.aH
  have qn:hZ rs (1 + dM) s0= true:=by
   have h1:=uc.o
   rw [hZ,h1,Bool.and_true]
   exact Vw ⟨by omega,by omega⟩ ⟨by omega,by omega⟩
  have pE:=aG.size;have aoj:=I (nW OR ji)
  go_wp2_with fail
  refine (aqm (some ⟨g,0,none⟩) y rs KK (1 + dM) s0 qn _ (OR.ej ji) (λh=>by cases h) aoj.o).mono ?_
  rintro e dk ⟨qs,tu,se,sp,ws,ae,os,bN,d0,bZ,d1,aU,d2,bd,d3,bI,d4,rfl,lE,dv,jd⟩
  obtain⟨iH,fx,aA,uW,aG⟩:=YR jd aA aG;replace J:=J.bV fx;replace OR:=OR.dm fx;replace af:=J.aH;replace dv:=dv.base (B':=w) pE
  have cn:=dv.jg;have cm:=dv.hx;have bh:=dv.fc;have bf:=dv.fE;have cx:=dv.kK;clear dv qn EC rW Ww
  go_upto_region 5 with fail
  obtain⟨jK,lg⟩ :∃b,b= dk.heap.size:=⟨_,rfl⟩
  have aEj:w.heap.size < jK:=by have:=J.lt;omega
  refine Xi λrb gv aC=>?_
  replace aA:=aA.aK gv;replace aG:=bx aG (bL gv (some p));replace J:=J.bV (bL gv (some p));replace af:=J.aH;obtain⟨OR,cn,cm,bh,bf,cx⟩:=Yc OR cn cm bh bf cx (bL gv (some p))
  have Dy:=gv.size;have abJ:=aC.lt
  obtain⟨cA,x1,cB,cY,cZ,dG,dH,dA⟩:=aC.aH
  rw [<- lg] at aC cA x1 cB cY cZ dG dH dA
  rw [<- lg]
  clear lg cA x1 cB cY cZ dG dH dA
  obtain⟨cA,x1,cB,cY,cZ,dG,dH,dA⟩:=aC.aH
  go_wp2_with fail
  refine (iI 18 p A c cK (N + 704) KK KK _ (aA.aK ao)).mono ?_
  rintro e du ⟨r2,rfl,⟨QZ,_,xP⟩,mM⟩
  clear cA x1 cB cY cZ dG dH dA;obtain⟨gy,aA,yk,aG⟩:=Xk mM aG;replace J:=J.bV gy;replace aC:=aC.bV gy;obtain⟨OR,cn,cm,bh,bf,cx⟩:=Yc OR cn cm bh bf cx gy
  replace af:=J.aH
  obtain⟨cA,x1,cB,cY,cZ,dG,dH,dA⟩:=aC.aH
  replace xP:=xP KK
  obtain⟨ev,rfl⟩ :∃m:Nat,r2= m:=⟨r2.toNat,by omega⟩
  go_wp2
  go_loopw [6] (λi wr=>∃(m:Nat) (qs:List aZ) (tu se sp:Int) (ws:List Int) (ae:List aW) (os:List Out) (bN:QR) (d0:Nat) (bZ:QR) (d1:Nat) (aU:QR) (d2:Nat) (bd:QR) (d3:Nat) (bI:QR) (d4:Nat),i= .int .i64 (m:Int)/\m<=17/\Hid (hL ⟨rs,qs,tu,se,sp,ws,ae,os⟩)/\ay wr w 44 #[(),(),(0:Int),(0:Int),(0:Int),(),(),()]/\ay wr jK 44 #[bN rs d0,bZ qs d1,tu,se,sp,aU ws d2,bd ae d3,bI os d4]/\fu w wr bN d0 bZ d1 aU d2 bd d3 bI d4 rs qs ws ae os/\bn w 89 7 aM.cells wr (.slice (some ⟨g,0,none⟩) rs y) rs/\gX wr p A c cs (N + 710 + 62 * (17 - m))/\w.grownBy wr (some p)) (λi _=>(intOf i).toNat)
  case atStart=>exact⟨ev,qs,tu,se,sp,ws,ae,os,bN,d0,bZ,d1,aU,d2,bd,d3,bI,d4,rfl,by omega,lE,J,aC,⟨cn,cm,bh,bf,cx⟩,OR,aA.mono KK,aG⟩
  case round=>
   clear aA J aC aG cn cm bh bf cx OR lE cA x1 cB cY cZ dG dH dA af
   obtain⟨m,qs,tu,se,sp,ws,ae,os,bN,d0,bZ,d1,aU,d2,bd,d3,bI,d4,rfl,aEh,lE,J,aC,dv,OR,aA,aG⟩:=hrel
   obtain⟨gC,gp,gK,xX,Dg⟩:=uO lE.o
   simp only at gC gp gK xX Dg
   have yJ:=I (dv.uN KK KK KK KK KK);have cn:=dv.jg;have cm:=dv.hx;have bh:=dv.fc;have bf:=dv.fE;have cx:=dv.kK;clear dv;have af:=J.aH
   obtain⟨cA,x1,cB,cY,cZ,dG,dH,dA⟩:=aC.aH
   by_cases bC:0 < m
   .have zu:(m:Int) - 1= ((m - 1:Nat):Int):=KK
    have ki:(0:Int) < (m:Int):=KK
    have CN:decide ((0:Int) < (m:Int))= true:=Xh ki
    go_upto_region 8 with fail
    clear ki CN
    go_cut [7,8] from 31 to 44 (λhJ KE W=>∃(bK:Nat) (b:Bool) (dQ:List aM) (dY:List aZ) (dX dW dU:Int) (cq:List Int) (cw:List aW) (dR:List Out) (ck:QR) (e0:Nat) (cf:QR) (e1:Nat) (ct:QR) (e2:Nat) (cu:QR) (e3:Nat) (cl:QR) (e4:Nat),hJ= .pointer (some ⟨bK,0,none⟩)/\KE= .bool b/\w.heap.size < bK/\jK < bK/\Hid (b= true->dQ= rs/\hL ⟨dQ,dY,dX,dW,dU,cq,cw,dR⟩)/\ay W w 44 #[(),(),(0:Int),(0:Int),(0:Int),(),(),()]/\ay W jK 44 #[bN rs d0,bZ qs d1,tu,se,sp,aU ws d2,bd ae d3,bI os d4]/\ay W bK 44 #[ck dQ e0,cf dY e1,dX,dW,dU,ct cq e2,cu cw e3,cl dR e4]/\fu w W bN d0 bZ d1 aU d2 bd d3 bI d4 rs qs ws ae os/\fu w W ck e0 cf e1 ct e2 cu e3 cl e4 dQ dY cq cw dR/\bn w 89 7 aM.cells W (.slice (some ⟨g,0,none⟩) rs y) rs/\gX W p A c cs (N + 710 + 62 * (17 - m) + 60)/\w.grownBy W (some p))
    case first=>
     obtain⟨dx,et⟩ :∃X:World->Prop,∀V,X V↔ay V jK 44 #[bN rs d0,bZ qs d1,tu,se,sp,aU ws d2,bd ae d3,bI os d4]:=⟨_,λ_=>Xt⟩
     have cH:=I et;clear et
     refine akj dx [0,1,2] #[true,true,true,false,false,false,false,false,false,false,false] PV PV ((cH.o _).2 aC) (λK fj=>?_)
     replace cn:=cn.aK (Wt wr wr).drew;replace cm:=cm.aK (Wt wr wr).drew;replace bh:=bh.aK (Wt wr wr).drew;replace bf:=bf.aK (Wt wr wr).drew;replace cx:=cx.aK (Wt wr wr).drew;replace OR:=OR.aK (Wt wr wr).drew
     haveI:Nonempty (cM dx):=⟨⟨_,(cH.o _).2 aC⟩⟩
     replace aA:=aA.aK (Wt _ _).drew;replace aG:=bx aG (bL (Wt wr wr).drew (some p));clear af;replace J:ay wr.drew w 44 #[(),(),(0:Int),(0:Int),(0:Int),(),(),()]:=J;clear cA x1 cB cY cZ dG dH dA;replace aC:ay wr.drew (jK) 44 #[bN rs d0,bZ qs d1,tu,se,sp,aU ws d2,bd ae d3,bI os d4]:=aC
     have tR:wr.drew.heap.size= wr.heap.size:=rfl
     generalize wr.drew= wd at *
     have af:=J.aH
     obtain⟨cA,x1,cB,cY,cZ,dG,dH,dA⟩:=aC.aH
     clear tR;have HW:w.heap.size<=wd.heap.size:=aG.size;clear cA x1 cB cY cZ dG dH dA
     obtain⟨cA,x1,cB,cY,cZ,dG,dH,dA⟩:=ay.qF (λK:cM dx=>(cH.o _).1 K.holds)
     refine YI ?_
     repeat go_big_quiet_step (fail)
     refine VF ?_
     refine fj _ _ ?_
     clear fj K
     refine aGj 3 [] #[true,true,true,true,false,false,false,false,false,false,false] 8 [] #[true,true,true,false,false,false,false,false,true,false,false] PV ((cH.o _).2 aC) (λK fj=>?_) (λK fj=>?_)
     .skip
      refine XV ?_
      have Ls:PW p bN bZ rs qs:=⟨tM cn aS,tM cm aS⟩
      go_wp2_with fail
      refine (abZ KK KK cK KK (aA.aK ao) (cn.ej oT) (cm.ej iT) Ls).mono ?_
      rintro e eB ⟨lj,JV,qt,iQ,no,ab,rfl,kg⟩
      obtain⟨en,aA,xt,aG⟩:=Xk kg aG;replace J:=J.bV en;obtain⟨cn,cm,bh,bf,cx,OR⟩:=Yc cn cm bh bf cx OR en
      replace af:=J.aH;replace aC:=aC.bV en;clear Ls
      go_wp2
      refine⟨rfl,(cH.o _).2 aC,?_⟩
      refine Xn ?_
      refine VF ?_
      refine fj _ _ ?_
      clear fj K
      refine aGj 4 [5,6,7] #[true,true,true,true,true,true,true,true,false,false,false] 8 [] #[true,true,true,true,false,false,false,false,true,false,false] PV ((cH.o _).2 aC) (λK fj=>?_) (λK fj=>?_)
      .skip
       refine XV ?_
       have pE:=aG.size
       go_wp2_with fail
       refine (Vg yJ.o lE.o ⟨cn.ej oT,cm.ej iT,bh.ej fR,bf.ej hI,cx.ej sd⟩).mono ?_
       rintro e fH ⟨dQ,dY,dX,dW,dU,cq,cw,dR,ck,e0,cf,e1,ct,e2,cu,e3,cl,e4,b,rfl,tX,ef,jc⟩
       obtain⟨mA,ds,aA,th,aG⟩:=YR jc aA aG;replace J:=J.bV ds;obtain⟨cn,cm,bh,bf,cx,OR⟩:=Yc cn cm bh bf cx OR ds
       replace af:=J.aH;replace aC:=aC.bV ds;replace ef:=ef.base (B':=w) pE;have kQ:=ef.jg;have kD:=ef.hx;have fq:=ef.fc;have fv:=ef.fE;have kZ:=ef.kK;clear ef pE
       go_wp2
       refine⟨rfl,(cH.o _).2 aC,?_⟩
       refine YI ?_
       repeat go_big_quiet_step (fail)
       refine VF ?_
       refine fj _ _ ?_
       clear fj K
       refine Dt 8 [] #[true,true,true,true,true,true,true,true,true,false,false] PV ((cH.o _).2 aC) (λK fj=>?_)
       refine XV ?_
       obtain⟨bK,lh⟩ :∃b,b= fH.heap.size:=⟨_,rfl⟩
       have CP:w.heap.size < bK:=by have:=aC.lt;omega
       have qn:jK < bK:=by have:=aC.lt;omega
       go_wp2
       refine Xi λiB lv bU=>?_
       replace aA:=aA.aK lv;replace aG:=bx aG (bL lv (some p));replace J:=J.bV (bL lv (some p));replace af:=J.aH;obtain⟨cn,cm,bh,bf,cx,OR⟩:=Yc cn cm bh bf cx OR (bL lv (some p));replace kQ:=kQ.dm (bL lv (some p));replace kD:=kD.dm (bL lv (some p))
       replace fq:=fq.dm (bL lv (some p));replace fv:=fv.dm (bL lv (some p));replace kZ:=kZ.dm (bL lv (some p))
       have vW:=lv.size;have UB:=bU.lt
       obtain⟨v0,v1,v2,v3,v4,v5,v6,hJ⟩:=bU.aH
       replace aC:=aC.bV (bL lv (some p))
       rw [<- lh] at bU v0 v1 v2 v3 v4 v5 v6 hJ
       rw [<- lh]
       clear lh v0 v1 v2 v3 v4 v5 v6 hJ
       obtain⟨v0,v1,v2,v3,v4,v5,v6,hJ⟩:=bU.aH
       refine⟨rfl,(cH.o _).2 aC,?_⟩
       refine Xn ?_
       refine VF ?_
       refine fj _ _ ?_
       clear fj K
       generalize iB= uY at *
       clear cA x1 cB cY cZ dG dH dA v0 v1 v2 v3 v4 v5 v6 hJ;replace af:=J.aH
       obtain⟨cA,x1,cB,cY,cZ,dG,dH,dA⟩:=aC.aH
       obtain⟨v0,v1,v2,v3,v4,v5,v6,hJ⟩:=bU.aH
       have gE:=cn.bK bU;have jf:=cm.bK bU;have eo:=bh.bK bU;have dL:=bf.bK bU;have gL:=cx.bK bU;have RZ:=kQ.bK bU;have Sa:=kD.bK bU;have sV:=fq.bK bU;have sW:=fv.bK bU;have Sb:=kZ.bK bU;have Oj:=OR.bK bU;have Ej:=bU.iX;have eE:=J.lt;have jt:=aC.lt;have BI:=bU.lt
       refine Dt 9 [10] #[true,true,true,true,true,true,true,true,true,true,true] PV ((cH.o _).2 aC) (λK fj=>?_)
       refine XV ?_
       go_wp2
       clear af cA x1 cB cY cZ dG dH dA v0 v1 v2 v3 v4 v5 v6 hJ
       refine iO 0 λly ea=>?_
       replace aG:=kW ea aG;replace aA:=kV ea aA;replace J:=ea.dj J;replace aC:=ea.dj aC;replace bU:=ea.iV bU;replace cn:=cn.eh ea;replace cm:=cm.eh ea;replace bh:=bh.eh ea;replace bf:=bf.eh ea;replace cx:=cx.eh ea;replace kQ:=kQ.eh ea;replace kD:=kD.eh ea;replace fq:=fq.eh ea;replace fv:=fv.eh ea;replace kZ:=kZ.eh ea;replace OR:=OR.eh ea
       have af:=J.aH
       obtain⟨cA,x1,cB,cY,cZ,dG,dH,dA⟩:=aC.aH
       obtain⟨v0,v1,v2,v3,v4,v5,v6,hJ⟩:=bU.aH
       refine⟨rfl,(cH.o _).2 aC,?_⟩
       refine Xp ?_
       repeat go_big_quiet_step (fail)
       refine VF ?_
       refine fj _ _ ?_
       clear fj K
       refine aGi PV ((cH.o _).2 aC) ?_
       go_wp2_with fail
       go_meet
       exact⟨bK,b,dQ,dY,dX,dW,dU,cq,cw,dR,ck,e0,cf,e1,ct,e2,cu,e3,cl,e4,rfl,rfl,CP,qn,tX,J,aC,bU,⟨cn,cm,bh,bf,cx⟩,⟨kQ,kD,fq,fv,kZ⟩,OR,aA.mono KK,aG⟩
      .skip
       refine XV ?_
       obtain⟨bK,lh⟩ :∃b,b= eB.heap.size:=⟨_,rfl⟩
       have CP:w.heap.size < bK:=by have:=aC.lt;omega
       have qn:jK < bK:=by have:=aC.lt;omega
       go_wp2
       refine Xi λiB mA bU=>?_
       replace aA:=aA.aK mA;replace aG:=bx aG (bL mA (some p));replace J:=J.bV (bL mA (some p));replace af:=J.aH;obtain⟨cn,cm,bh,bf,cx,OR⟩:=Yc cn cm bh bf cx OR (bL mA (some p));have th:=mA.size;have UB:=bU.lt
       obtain⟨v0,v1,v2,v3,v4,v5,v6,hJ⟩:=bU.aH
       replace aC:=aC.bV (bL mA (some p))
       rw [<- lh] at bU v0 v1 v2 v3 v4 v5 v6 hJ
       rw [<- lh]
       clear lh v0 v1 v2 v3 v4 v5 v6 hJ
       obtain⟨v0,v1,v2,v3,v4,v5,v6,hJ⟩:=bU.aH
       refine⟨rfl,(cH.o _).2 aC,?_⟩
       refine Xn ?_
       refine VF ?_
       refine fj _ _ ?_
       clear fj K
       refine Dt 4 [5,6,7] #[true,true,true,true,true,true,true,true,true,false,false] PV ((cH.o _).2 aC) (λK fj=>?_)
       refine XV ?_
       have pE:=aG.size
       go_wp2_with fail
       refine (Vg yJ.o lE.o ⟨cn.ej oT,cm.ej iT,bh.ej fR,bf.ej hI,cx.ej sd⟩).mono ?_
       rintro e ib ⟨dQ,dY,dX,dW,dU,cq,cw,dR,ck,e0,cf,e1,ct,e2,cu,e3,cl,e4,b,rfl,tX,ef,lu⟩
       clear af;clear v0 v1 v2 v3 v4 v5 v6 hJ;have lv:Below iB iB ib:=ai ao lu;have fN:iB.grownBy ib (some p):=bL lv _
       exact amU
     .skip
      refine XV ?_
      obtain⟨bK,lh⟩ :∃b,b= wd.heap.size:=⟨_,rfl⟩
      have CP:w.heap.size < bK:=by have:=aC.lt;omega
      have qn:jK < bK:=by have:=aC.lt;omega
      go_wp2
      refine Xi λiB eJ bU=>?_
      replace aA:=aA.aK eJ;replace aG:=bx aG (bL eJ (some p));replace J:=J.bV (bL eJ (some p));replace af:=J.aH;obtain⟨cn,cm,bh,bf,cx,OR⟩:=Yc cn cm bh bf cx OR (bL eJ (some p));have xt:=eJ.size;have UB:=bU.lt
      obtain⟨v0,v1,v2,v3,v4,v5,v6,hJ⟩:=bU.aH
      replace aC:=aC.bV (bL eJ (some p))
      rw [<- lh] at bU v0 v1 v2 v3 v4 v5 v6 hJ
      rw [<- lh]
      clear lh v0 v1 v2 v3 v4 v5 v6 hJ
      obtain⟨v0,v1,v2,v3,v4,v5,v6,hJ⟩:=bU.aH
      refine⟨rfl,(cH.o _).2 aC,?_⟩
      refine Xn ?_
      refine VF ?_
      refine fj _ _ ?_
      clear fj K
      refine Dt 3 [] #[true,true,true,true,false,false,false,false,true,false,false] PV ((cH.o _).2 aC) (λK fj=>?_)
      refine XV ?_
      have Ls:PW p bN bZ rs qs:=⟨tM cn aS,tM cm aS⟩
      go_wp2_with fail
      refine (abZ KK KK cK KK (aA.aK ao) (cn.ej oT) (cm.ej iT) Ls).mono ?_
      rintro e fH ⟨lj,JV,qt,iQ,no,ab,rfl,jc⟩
      clear v0 v1 v2 v3 v4 v5 v6 hJ;obtain⟨ds,aA,th,aG⟩:=Xk jc aG;replace J:=J.bV ds;replace bU:=bU.bV ds;obtain⟨cn,cm,bh,bf,cx,OR⟩:=Yc cn cm bh bf cx OR ds
      replace af:=J.aH
      obtain⟨v0,v1,v2,v3,v4,v5,v6,hJ⟩:=bU.aH
      replace aC:=aC.bV ds;clear Ls
      go_wp2
      refine⟨rfl,(cH.o _).2 aC,?_⟩
      refine Xn ?_
      refine VF ?_
      refine fj _ _ ?_
      clear fj K
      refine Dt 4 [5,6,7] #[true,true,true,true,true,true,true,true,true,false,false] PV ((cH.o _).2 aC) (λK fj=>?_)
      refine XV ?_
      have pE:=aG.size
      go_wp2_with fail
      refine (Vg yJ.o lE.o ⟨cn.ej oT,cm.ej iT,bh.ej fR,bf.ej hI,cx.ej sd⟩).mono ?_
      rintro e ib ⟨dQ,dY,dX,dW,dU,cq,cw,dR,ck,e0,cf,e1,ct,e2,cu,e3,cl,e4,b,rfl,tX,ef,lu⟩
      clear af;clear v0 v1 v2 v3 v4 v5 v6 hJ;have lv:Below fH fH ib:=ai ao lu;have fN:fH.grownBy ib (some p):=bL lv _
      exact amU
    case rest=>
     obtain⟨bK,b,dQ,dY,dX,dW,dU,cq,cw,dR,ck,e0,cf,e1,ct,e2,cu,e3,cl,e4,rfl,rfl,CP,qn,tX,J,aC,bU,dv,ef,OR,aA,aG⟩:=hcut
     generalize wc= ly at *
     cases b
     .go_wp2
      go_roundw
      case rel=>
       exact⟨m - 1,qs,tu,se,sp,ws,ae,os,bN,d0,bZ,d1,aU,d2,bd,d3,bI,d4,by rw [<- zu],by omega,lE,J,aC,dv,OR,aA.mono KK,aG⟩
      case measure=>simp [intOf];omega
     .have kQ:=ef.jg;have kD:=ef.hx;have fq:=ef.fc;have fv:=ef.fE;have kZ:=ef.kK;clear ef dv
      have af:=J.aH
      obtain⟨cA,x1,cB,cY,cZ,dG,dH,dA⟩:=aC.aH
      obtain⟨v0,v1,v2,v3,v4,v5,v6,hJ⟩:=bU.aH
      have RZ:=kQ.bK aC;have Sa:=kD.bK aC;have sV:=fq.bK aC;have sW:=fv.bK aC;have Sb:=kZ.bK aC;have Oj:=OR.bK aC
      obtain⟨aDd,arc,ard,arf,arh,ari,arj,ark⟩:=aC.iX
      have eE:=J.lt;have jt:=aC.lt;have BI:=bU.lt
      go_upto_region 7 with fail
      clear af cA x1 cB cY cZ dG dH dA v0 v1 v2 v3 v4 v5 v6 hJ
      refine iO 0 λyq kn=>?_
      replace aG:=kW kn aG;replace aA:=kV kn aA;replace J:=kn.dj J;replace aC:=kn.iV aC;replace bU:=kn.dj bU;replace kQ:=kQ.eh kn;replace kD:=kD.eh kn;replace fq:=fq.eh kn;replace fv:=fv.eh kn;replace kZ:=kZ.eh kn;replace OR:=OR.eh kn;have af:=J.aH
      obtain⟨cA,x1,cB,cY,cZ,dG,dH,dA⟩:=aC.aH
      obtain⟨v0,v1,v2,v3,v4,v5,v6,hJ⟩:=bU.aH
      go_wp2
      go_roundw
      case rel=>
       obtain⟨atU,aeT⟩:=tX.o rfl
       have aFU:=atU.symm
       subst aFU
       exact⟨m - 1,dY,dX,dW,dU,cq,cw,dR,ck,e0,cf,e1,ct,e2,cu,e3,cl,e4,by rw [<- zu],by omega,I aeT,J,aC,⟨kQ,kD,fq,fv,kZ⟩,OR,aA.mono KK,aG⟩
      case measure=>simp [intOf];omega
   .have qM:¬(0:Int) < (m:Int):=KK
    have oO:decide ((0:Int) < (m:Int))= false:=Xe qM;replace aA:=aA.mono (M:=N + 1800) KK
    go_wp2_with fail
    refine (iI 24 p A c cK (N + 1800) KK KK _ (aA.aK ao)).mono ?_
    rintro e eB ⟨q,rfl,⟨vv,_,hO⟩,kg⟩
    clear cA x1 cB cY cZ dG dH dA;obtain⟨en,aA,xt,aG⟩:=Xk kg aG;replace J:=J.bV en;replace aC:=aC.bV en;obtain⟨cn,cm,bh,bf,cx,OR⟩:=Yc cn cm bh bf cx OR en
    replace af:=J.aH
    obtain⟨cA,x1,cB,cY,cZ,dG,dH,dA⟩:=aC.aH
    replace hO:=hO KK;clear qM oO lE yJ
    have aeY:qs.length<=7:=KK
    have xS:ws.length<=60:=KK
    have pv:os.length<=30:=KK
    have Ny:os.length<=12:=KK
    clear gC gp gK Dg
    rcases (show q= 0\/q= 1\/q= 2\/q= 3\/3 < q by omega) with rfl | rfl | rfl | rfl | cj
    case' inl=>
     have pE:=aG.size
     go_wp2_with fail
     refine (axW (some ⟨g,0,none⟩) y rs KK p A c cs cK (N + 1810) KK _ (aA.mono KK) (OR.ej ji) (tM OR aS)).mono ?_
     rintro e fH ⟨ayh,cf,e1,rfl,rZ,kC,jc⟩
     clear cA x1 cB cY cZ dG dH dA;obtain⟨ds,aA,th,aG⟩:=Xk jc aG;replace J:=J.bV ds;replace aC:=aC.bV ds;obtain⟨cn,cm,bh,bf,cx,OR⟩:=Yc cn cm bh bf cx OR ds
     replace af:=J.aH
     obtain⟨cA,x1,cB,cY,cZ,dG,dH,dA⟩:=aC.aH
     replace kC:=kC.base (B':=w) pE;have gE:=cn.bK aC;have jf:=cm.bK aC;have eo:=bh.bK aC;have dL:=bf.bK aC;have gL:=cx.bK aC;have Oj:=OR.bK aC;have aEH:=kC.bK aC;have arc:=aC.frozen 1;have eE:=J.lt;have jt:=aC.lt
     go_upto_region 23 with fail
     clear af cA x1 cB cY cZ dG dH dA
     refine kL 1 λic fF=>?_
     replace aG:=kW fF aG;replace aA:=kV fF aA;replace J:=fF.dj J;replace aC:=fF.OB aC;replace cn:=cn.eh fF;replace cm:=cm.eh fF;replace bh:=bh.eh fF;replace bf:=bf.eh fF;replace cx:=cx.eh fF
     replace OR:=OR.eh fF;replace kC:=kC.eh fF;have af:=J.aH
     obtain⟨cA,x1,cB,cY,cZ,dG,dH,dA⟩:=aC.aH
     clear cm aeY
     generalize ayh= qs at *
     generalize cf= bZ at *
     generalize e1= d1 at *
     have cm:=kC;have aeY:=rZ;clear kC rZ OR Ny;replace aA:=aA.mono (M:=N + 2590) KK
     generalize ic= ic at *
    case' inr.inl=>
     have pE:=aG.size
     go_wp2_with fail
     refine (arx p A c cs cK (N + 1810) KK _ (aA.mono KK)).mono ?_
     rintro e fH ⟨aBE,aAQ,aAY,aCf,aAU,ct,e2,cu,e3,rfl,afw,atY,Ma,jc⟩
     clear cA x1 cB cY cZ dG dH dA;obtain⟨ds,aA,th,aG⟩:=Xk jc aG;replace J:=J.bV ds;replace aC:=aC.bV ds;obtain⟨cn,cm,bh,bf,cx,OR⟩:=Yc cn cm bh bf cx OR ds
     replace af:=J.aH
     obtain⟨cA,x1,cB,cY,cZ,dG,dH,dA⟩:=aC.aH
     replace Ma:=Ma.base (B':=w) pE;have LY:=Ma.fc;have LZ:=Ma.fE;clear Ma;have gE:=cn.bK aC;have jf:=cm.bK aC;have eo:=bh.bK aC;have dL:=bf.bK aC;have gL:=cx.bK aC;have Oj:=OR.bK aC;have aEF:=LY.bK aC;have aEG:=LZ.bK aC;have ard:=aC.frozen 2;have arf:=aC.frozen 3;have arh:=aC.frozen 4;have ari:=aC.frozen 5;have arj:=aC.frozen 6
     have eE:=J.lt;have jt:=aC.lt
     go_upto_region 23 with fail
     clear af cA x1 cB cY cZ dG dH dA
     refine hs 2 λic fF=>?_
     replace aG:=kW fF aG;replace aA:=kV fF aA;replace J:=fF.dj J;replace aC:=fF.Kh aC;replace cn:=cn.eh fF;replace cm:=cm.eh fF;replace bh:=bh.eh fF;replace bf:=bf.eh fF;replace cx:=cx.eh fF
     replace OR:=OR.eh fF;replace LY:=LY.eh fF;replace LZ:=LZ.eh fF;have af:=J.aH
     obtain⟨cA,x1,cB,cY,cZ,dG,dH,dA⟩:=aC.aH
     clear bh bf xS xX
     generalize aBE= tu at *
     generalize aAQ= se at *
     generalize aAY= sp at *
     generalize aCf= ws at *
     generalize aAU= ae at *
     generalize ct= aU at *
     generalize e2= d2 at *
     generalize cu= bd at *
     generalize e3= d3 at *
     have bh:=LY;have bf:=LZ;have xS:=afw;have xX:ae.length<=99:=KK
     clear LY LZ afw atY OR Ny;replace aA:=aA.mono (M:=N + 2590) KK
     generalize ic= ic at *
    case' inr.inr.inl=>
     have np:=aG.size;have FI:=I aA;have BQ:=I aG;have Ge:=I J;have aom:=I aC;have pN:=I cn;have nI:=I cm;have jC:=I bh;have jD:=I bf;have kX:=I cx;have oK:=I OR;have TS:=I cx.tK;have eE:=J.lt;have jt:=aC.lt;clear aA aG J cn cm bh bf cx OR af cA x1 cB cY cZ dG dH
     go_wp2_with ((at_builtin;refine va rfl _ _ 42 rfl eB 163 i0 _ 3 24 Tryz.underlying42 bo dP dZ dV rfl WG Out.cells sd HE eB rfl (ay.new _ _ _) (XZ _) bI d4 os os.length rfl rfl ((kX.o.ej sd).alloc _) TS.o Xz KK ?_;intro gs pg oG fW fM))
     have aQ:Below eB eB oG:=ai (bP _ _) fM;have aA:=FI.o.aK aQ;have aG:=bx BQ.o (bL aQ (some p));have J:=Ge.o.to aQ;replace aC:=aom.o.to aQ;have cn:=pN.o.aK aQ;have cm:=nI.o.aK aQ;have bh:=jC.o.aK aQ;have bf:=jD.o.aK aQ;have OR:=oK.o.aK aQ;have jU:=fW.base (B':=w) np;clear dA fW fM
     have af:=J.aH
     obtain⟨cA,x1,cB,cY,cZ,dG,dH,dA⟩:=aC.aH
     go_wp2_with fail
     refine (Mp KK p A c cK (N + 1810) KK (aA.mono KK) (OR.ej ji) (tM OR aS)).mono ?_
     rintro e fH ⟨oS,rfl,jc⟩
     clear cA x1 cB cY cZ dG dH dA;obtain⟨ds,aA,th,aG⟩:=Xk jc aG;replace J:=J.bV ds;replace aC:=aC.bV ds;obtain⟨cn,cm,bh,bf,OR,jU⟩:=Yc cn cm bh bf OR jU ds
     replace af:=J.aH
     obtain⟨cA,x1,cB,cY,cZ,dG,dH,dA⟩:=aC.aH
     go_wp2_with fail
     refine (RS p A c cs cK (N + 1814) KK _ (aA.aK ao)).mono ?_
     rintro e ib ⟨zW,rfl,asH,lu⟩
     clear cA x1 cB cY cZ dG dH dA;obtain⟨fN,aA,vW,aG⟩:=Xk lu aG;replace J:=J.bV fN;replace aC:=aC.bV fN;obtain⟨cn,cm,bh,bf,OR,jU⟩:=Yc cn cm bh bf OR jU fN
     replace af:=J.aH
     obtain⟨cA,x1,cB,cY,cZ,dG,dH,dA⟩:=aC.aH
     have Sl:∀k,(Value.slice gs os pg).ownBlock= some k->¬k= jK:=jU.bK aC;have xi:∀k,(Value.slice gs os pg).ownBlock= some k->¬k= w.heap.size:=jU.bK J;have rJ:=I (cn.apart jU WG);have FA:=I (cm.apart jU WG);have xy:=I (bh.apart jU WG);have Ie:=I (bf.apart jU WG);have TD:=I aA
     have Lj:=I aG;have Ux:=I J;have TR:=I aC;have IB:=I cn;have DP:=I cm;have As:=I bh;have DQ:=I bf;have TZ:=I jU;have FT:=I xi;have aoo:=I Sl;clear aA aG J aC cn cm bh bf OR jU xi Sl af cA x1 cB cY cZ dG dH dA
     go_upto_region 23 with ((at_builtin;refine ke rfl _ _ 42 rfl w 163 i0 _ 3 24 Tryz.underlying42 bo dP dZ dV rfl WG Out.cells sd HE _ os rfl (TZ.o.alloc _) ⟨ib,0,none⟩ 1 ⟨oS,zW,false⟩ rfl (ayC _ _ _ _ _) Xz KK (by have:=Lj.o.size;simp;omega) ?_;intro HX pH jQ hP sH;clear sH;obtain⟨wM,xJ,rfl⟩:=sf jQ Wn;have aC:=(TR.o.to (bP _ _)).jE hP (λe=>aoo.o _ e.symm rfl);have dA:=(aC.cell 7).trans (show _= some (bI os d4) from rfl);have ayj:=aC.frozen 7;have jm:=aC.lt))
     have lZ:(os ++ [(⟨oS,zW,false⟩ :Out)]).length= os.length + 1:=Wn
     rw [lZ] at jQ
     have aA:=(TD.o.aK (bP _ (.cells #[oS,zW,false] 163))).row hP (λk ax=>by have:=(TZ.o.lt k ax).1;omega);have aG:=nR (bx Lj.o (bL (bP _ (.cells #[oS,zW,false] 163)) _)) hP (λk ax=>(TZ.o.lt k ax).1);have J:=(Ux.o.to (bP _ (.cells #[oS,zW,false] 163))).jE hP (λe=>FT.o _ e.symm rfl)
     have cn:=(IB.o.aK (bP _ (.cells #[oS,zW,false] 163))).kept hP (λk ax e=>rJ.o k ax e);have cm:=(DP.o.aK (bP _ (.cells #[oS,zW,false] 163))).kept hP (λk ax e=>FA.o k ax e);have bh:=(As.o.aK (bP _ (.cells #[oS,zW,false] 163))).kept hP (λk ax e=>xy.o k ax e);have bf:=(DQ.o.aK (bP _ (.cells #[oS,zW,false] 163))).kept hP (λk ax e=>Ie.o k ax e)
     have jU:=jQ;clear dA hP jQ ayj;have af:=J.aH
     obtain⟨cA,x1,cB,cY,cZ,dG,dH,dA⟩:=aC.aH
     have gE:=cn.bK aC;have jf:=cm.bK aC;have eo:=bh.bK aC;have dL:=bf.bK aC;have axy:=jU.bK aC;replace jm:=aC.lt;clear af cA x1 cB cY cZ dG dH dA
     refine kL 7 λic fF=>?_
     replace aG:=kW fF aG;replace aA:=kV fF aA;replace J:=fF.dj J;replace aC:=fF.St aC;replace cn:=cn.eh fF;replace cm:=cm.eh fF;replace bh:=bh.eh fF;replace bf:=bf.eh fF
     replace jU:=jU.eh fF;have af:=J.aH
     obtain⟨cA,x1,cB,cY,cZ,dG,dH,dA⟩:=aC.aH
     replace pv:(os ++ [(⟨oS,zW,false⟩ :Out)]).length<=30:=by rw [lZ];omega
     rw [<- lZ] at aC dA jU
     clear lZ Ny asH jm
     generalize os ++ [(⟨oS,zW,false⟩ :Out)]= os at *
     generalize (some ⟨wM,0,none⟩ :QR)= bI at *
     generalize xJ= d4 at *
     have cx:=jU;clear jU;replace aA:=aA.mono (M:=N + 2590) KK
     generalize ic= ic at *
    case' inr.inr.inr.inl=>
     go_wp2
     go_loopw [9] (λi wr=>∃(k:Nat) (os:List Out) (bI:QR) (d4:Nat),i= .int .i64 (k:Int)/\k<=14/\os.length<=12 + k/\ay wr w 44 #[(),(),(0:Int),(0:Int),(0:Int),(),(),()]/\ay wr jK 44 #[bN rs d0,bZ qs d1,tu,se,sp,aU ws d2,bd ae d3,bI os d4]/\fu w wr bN d0 bZ d1 aU d2 bd d3 bI d4 rs qs ws ae os/\bn w 89 7 aM.cells wr (.slice (some ⟨g,0,none⟩) rs y) rs/\gX wr p A c cs (N + 1810 + 2 * k)/\w.grownBy wr (some p)) (λi _=>14 - (intOf i).toNat)
     case atStart=>exact⟨0,os,bI,d4,rfl,by omega,by omega,J,aC,⟨cn,cm,bh,bf,cx⟩,OR,aA.mono KK,aG⟩
     case round=>
      clear aA J aC aG OR pv Ny cA x1 cB cY cZ dG dH dA
      obtain⟨k,os,bI,d4,rfl,aEd,pv,J,aC,dv,OR,aA,aG⟩:=hrel
      replace cn:=dv.jg;replace cm:=dv.hx;replace bh:=dv.fc;replace bf:=dv.fE;replace cx:=dv.kK;clear dv;have sR:=DR.o;replace af:=J.aH
      obtain⟨cA,x1,cB,cY,cZ,dG,dH,dA⟩:=aC.aH
      go_upto_region 20 with fail
      obtain⟨dx,et⟩ :∃X:World->Prop,∀V,X V↔ay V jK 44 #[bN rs d0,bZ qs d1,tu,se,sp,aU ws d2,bd ae d3,bI os d4]:=⟨_,λ_=>Xt⟩
      have cH:=I et;clear et
      refine nZ dx [([0,1,2,3],4)] [5,6,7,8,9,10,11,12,13,14,15] PV PV ((cH.o _).2 aC) ?_
      replace cn:=cn.aK (Wt wr wr).drew;replace cm:=cm.aK (Wt wr wr).drew;replace bh:=bh.aK (Wt wr wr).drew;replace bf:=bf.aK (Wt wr wr).drew;replace cx:=cx.aK (Wt wr wr).drew;replace OR:=OR.aK (Wt wr wr).drew
      haveI:Nonempty (cM dx):=⟨⟨_,(cH.o _).2 aC⟩⟩
      replace aA:=aA.aK (Wt _ _).drew;replace aG:=bx aG (bL (Wt wr wr).drew (some p));clear af;replace J:ay wr.drew w 44 #[(),(),(0:Int),(0:Int),(0:Int),(),(),()]:=J;clear cA x1 cB cY cZ dG dH dA;replace aC:ay wr.drew (jK) 44 #[bN rs d0,bZ qs d1,tu,se,sp,aU ws d2,bd ae d3,bI os d4]:=aC
      have tR:wr.drew.heap.size= wr.heap.size:=rfl
      generalize wr.drew= wd at *
      have af:=J.aH
      obtain⟨cA,x1,cB,cY,cZ,dG,dH,dA⟩:=aC.aH
      clear tR;have HW:w.heap.size<=wd.heap.size:=aG.size;clear cA x1 cB cY cZ dG dH dA
      obtain⟨cA,x1,cB,cY,cZ,dG,dH,dA⟩:=ay.qF (λK:cM dx=>(cH.o _).1 K.holds)
      refine gA λff da=>?_
      refine Yo ?_
      repeat go_big_quiet_step (fail)
      refine VF ?_
      refine XV ?_
      go_wp2_with fail
      refine (iI 2 p A c cK (N + 1810 + 2 * k) KK KK _ (aA.aK ao)).mono ?_
      rintro e fH ⟨q,rfl,⟨vv,_,hO⟩,jc⟩
      obtain⟨ds,aA,th,aG⟩:=Xk jc aG;replace J:=J.bV ds;obtain⟨cn,cm,bh,bf,cx,OR⟩:=Yc cn cm bh bf cx OR ds
      replace af:=J.aH;replace hO:=hO KK;replace aC:=aC.bV ds
      rcases (show ((os.length:Int) < 12 + q/\k < 14/\0 < rs.length)\/((os.length:Int) < 12 + q/\k < 14/\rs.length= 0)\/((os.length:Int) < 12 + q/\k= 14)\/¬((os.length:Int) < 12 + q) by omega) with ⟨iS,pr,tE⟩ | ⟨iS,pr,tE⟩ | ⟨iS,pr⟩ | iS
      case' inl=>
       have d1:decide ((os.length:Int) < 12 + q)= true:=Xh iS;have d2:decide ((k:Int) < 14)= true:=Xh KK;have d3:decide ((0:Int) < (rs.length:Int))= true:=Xh KK
       go_wp2
       refine gb ((cH.o _).2 aC) (da _ _ ?_)
       refine ky ?_
       change wpQuiet _ _ _ _ (_ ::_ ::_ ::_ ::_ ::_ ::_ ::_ ::_ ::_ ::_ ::[]) _
       repeat go_big_quiet_step (fail)
       refine VF ?_
       clear d1 d2 d3;clear cA x1 cB cY cZ dG dH dA
       obtain⟨cA,x1,cB,cY,cZ,dG,dH,dA⟩:=aC.aH
       go_upto_region 22 with fail
       have aEi:=aC.lt
       obtain⟨⟨CZ,aEI,aEP,aEQ,aCW,aCC,aEE,Rt⟩,lN⟩ :∃x,rs[0]? =some x:=⟨_,Xj tE⟩
       clear cA x1 cB cY cZ dG dH af
       obtain⟨oG,aFv⟩ :∃W,W= fH:=⟨_,rfl⟩
       rw [<- aFv] at aC J cn cm bh bf cx OR aA aG
       rw [<- aFv]
       clear aFv
       obtain⟨xx,tx⟩ :∃X:World->Prop,∀V,X V↔Below oG oG V:=⟨_,λ_=>Xt⟩
       replace tx:=I tx
       haveI:Nonempty (cM xx):=⟨⟨oG,(tx.o _).2 (Wt _ _)⟩⟩
       replace dA:=λK:cM xx=>((aC.ad ((tx.o _).1 K.holds) aC.lt).cell 7).trans (show _= some (bI os d4) from rfl)
       have ho:=λK:cM xx=>me (OR.aK ((tx.o _).1 K.holds)) ji lN (i:=0) (u:= .int .i64 CZ) rfl
       simp only [XW,Xy] at ho
       have Av:=I (cx.ej sd);have TS:=I cx.tK
       have aeX:(0:Int) < (rs.length:Int):=KK
       have att:decide ((0:Int) < (rs.length:Int))= true:=Xh aeX
       refine Ia (yu 163 3 Out.cells 3 9 os #[CZ,(1:Int),true]) xx [([],0),([1,2],3),([4,5,6,7,8],9)] [] [([],[],10,false),([],[11],12,true)] [] [] PV PV ((tx.o _).2 (Wt _ _).drew) (λW fz h k=>(tx.o _).2 (ai ((tx.o _).1 h) k)) ?_
       intro bA
       refine iP (some 93) rfl (.slice (bA 0).1 0 0) rfl λhE eu=>?_
       refine Xn ?_
       refine VF ?_
       refine⟨λhi fQ=>?_,eu _ ?_⟩
       .refine XV ?_
        go_wp2
        first | exact hz ⟨(some ⟨hi.world,0,none⟩,0),rfl,bP _ _,by simp [yu];exact ay.new _ _ _⟩ | exact hz ⟨some ⟨hi.world,0,none⟩,0,rfl,bP _ _,by simp [yu];exact ay.new _ _ _⟩
       simp only [Act.put]
       go_simp
       refine iP (some 96) rfl (.slice (bA 3).1 os.length (bA 3).2) rfl λhE eu=>?_
       refine YB ?_
       repeat go_big_quiet_step (fail)
       refine VF ?_
       refine⟨λhi fQ=>?_,eu _ ?_⟩
       .refine XV ?_
        obtain⟨gZ,uf,pn,Ey,ld⟩:=fQ 0 (by simp [yu])
        obtain⟨lJ,lb⟩:=Ey.1 rfl
        have jG:=lb.to ld;have iN:(bA 0).1= some ⟨gZ,0,none⟩:=lJ;have pa:=I (Av.o.ad ((tx.o _).1 hi.holds));replace jG:=I jG;clear lb lJ pn ld Ey fQ
        rw [iN]
        replace iN:=I iN
        go_wp2_with ((at_builtin;refine va rfl _ _ 42 rfl gZ 163 i0 _ 3 24 Tryz.underlying42 bo dP dZ dV rfl WG Out.cells sd HE gZ rfl jG.o (XZ _) bI d4 os os.length rfl rfl pa.o TS.o Xz KK ?_;intro bS dq ah fW fM))
        first | exact hz ⟨(some ⟨bS,0,none⟩,dq),rfl,fM,by simp [yu],λ_=>⟨gZ,bS,iN.o,rfl,fW⟩,by simp [yu]⟩ | exact hz ⟨some ⟨bS,0,none⟩,dq,rfl,fM,by simp [yu],λ_=>⟨gZ,bS,iN.o,rfl,fW⟩,by simp [yu]⟩
       simp only [Act.put]
       go_simp
       refine iP (some 102) rfl (.slice (bA 9).1 1 1) rfl λhE eu=>?_
       refine Yp ?_
       repeat go_big_quiet_step (fail)
       refine VF ?_
       refine⟨λhi fQ=>?_,eu _ ?_⟩
       .refine XV ?_
        go_wp2
        first | exact hz ⟨(some ⟨hi.world,0,none⟩,0),rfl,bP _ _,by simp [yu],by simp [yu],λ_=>⟨hi.world,rfl,rfl,ay.new _ _ _⟩⟩ | exact hz ⟨some ⟨hi.world,0,none⟩,0,rfl,bP _ _,by simp [yu],by simp [yu],λ_=>⟨hi.world,rfl,rfl,ay.new _ _ _⟩⟩
       simp only [Act.put]
       go_simp
       refine tU ?_
       refine Xn ?_
       refine VF ?_
       intro dy V abV za asr
       obtain⟨g0,g5,e0,e5,sg⟩ :∃g bS,(bA 0).1= some ⟨g,0,none⟩/\(bA 3).1= some ⟨bS,0,none⟩/\bn g 163 3 Out.cells (V 3) (.slice (bA 3).1 os.length (bA 3).2) os:=(za.post 3 Wn).2.1 rfl
       obtain⟨a0,_⟩ :(bA 0).1= some ⟨(dy 0),0,none⟩/\ay (V 0) (dy 0) 163 #[]:=(za.post 0 Wn).1 rfl
       obtain⟨g7,e7,aBG,sX⟩ :∃g,(bA 9).1= some ⟨g,0,none⟩/\(dy 9).heap.size= g/\ay (V 9) g 163 #[CZ,(1:Int),true]:=(za.post 9 Wn).2.2 rfl
       have t0:(dy 0).heap.size= g0:=by rw [a0] at e0;exact Xc Addr.block (Wx e0)
       have hd:=(sg.aK (za.aK 3 Wn)).base (B':=oG) (by rw [<- t0];exact (za.oj 0 Wn).size);have ur:=sX.ad (za.aK 9 Wn) sX.lt;have xa:Below oG oG abV:=(za.whole 3 Wn).rI;clear za sg sX a0 e0 t0 aBG asr Av dA ho lN aeX att iS tE
       generalize bA 3= nD at *
       generalize bA 9= HF at *
       obtain⟨Pl,d5⟩:=nD
       obtain⟨Pm,d7⟩:=HF
       simp only at hd e5 e7
       subst e5
       subst e7
       have tp:Hid (aX 3 Out.cells abV (some ⟨g7,0,none⟩) [(⟨CZ,1,true⟩ :Out)]):=I (λ_=>⟨g7,0,rfl,ur.lt,λi y hy j u hu=>by
        have h0:i= 0:=by have:=(Xg.1 hy).1;simp at this;omega
        subst h0;simp at hy;subst hy
        rw [Xy,YF]
        exact (ur.cell _).trans (by simpa [Out.cells] using hu)⟩)
       have aBA:w.heap.size<=oG.heap.size:=aG.size;replace aA:=aA.aK xa;replace aG:=bx aG (bL xa (some p));replace J:=J.to xa;replace aC:=aC.to xa;replace cn:=cn.aK xa;replace cm:=cm.aK xa;replace bh:=bh.aK xa;replace bf:=bf.aK xa;replace OR:=OR.aK xa;have ajG:=xa.size;have Sl:=I (hd.bK aC);have xi:=I (hd.bK J);have rJ:=I (cn.apart hd WG)
       have FA:=I (cm.apart hd WG);have xy:=I (bh.apart hd WG);have Ie:=I (bf.apart hd WG);have BM:=I (OR.apart hd WG);replace hd:=I hd;replace xa:=I xa;have yC:=I aA;have BP:=I aG;have js:=I J;have aok:=I aC;have IB:=I cn;have DP:=I cm;have As:=I bh;have DQ:=I bf;have aoB:=I OR;clear aA aG J aC cn cm bh bf cx OR ur
       refine jj λff da=>?_
       refine VF ?_
       refine VF ?_
       refine XV ?_
       at_builtin
       refine ke rfl _ _ 42 rfl oG 163 i0 _ 3 24 Tryz.underlying42 bo dP dZ dV rfl WG Out.cells sd HE _ os rfl hd.o ⟨g7,0,none⟩ 1 ⟨CZ,1,true⟩ rfl tp.o Xz KK ajG ?_
       intro KE du jQ hP sH
       clear sH
       obtain⟨wM,xJ,rfl⟩:=sf jQ Wn
       have lZ:(os ++ [(⟨CZ,1,true⟩ :Out)]).length= os.length + 1:=Wn
       rw [lZ] at jQ ⊢
       clear lZ
       go_wp2_with fail
       have aA:=yC.o.row hP (λk ax=>by have:=(hd.o.lt k ax).1;omega);have aG:=nR BP.o hP (λk ax=>by have:=(hd.o.lt k ax).1;omega);have J:=js.o.jE hP (λe=>xi.o _ e.symm rfl);have aC:=aok.o.jE hP (λe=>Sl.o _ e.symm rfl);have cn:=IB.o.kept hP (λk ax e=>rJ.o k ax e);have cm:=DP.o.kept hP (λk ax e=>FA.o k ax e)
       have bh:=As.o.kept hP (λk ax e=>xy.o k ax e);have bf:=DQ.o.kept hP (λk ax e=>Ie.o k ax e);have OR:=aoB.o.kept hP (λk ax e=>BM.o k ax e);have Et:=(tx.o du).2 (xa.o.grown hP ajG (λq bt=>(hd.o.lt q bt).1));have jU:=jQ.base (B':=w) aBA;clear hP jQ
       refine nK Et (da _ _ ?_)
       clear Et;have af:=J.aH
       obtain⟨cA,x1,cB,cY,cZ,dG,dH,dA⟩:=aC.aH
       have gE:=cn.bK aC;have jf:=cm.bK aC;have eo:=bh.bK aC;have dL:=bf.bK aC;have Oj:=OR.bK aC;have axy:=jU.bK aC
       haveI:Nonempty (cM (λ_=>True)):=⟨⟨w,trivial⟩⟩
       refine jj λxE oq=>?_
       refine VF ?_
       refine Xp ?_
       repeat go_big_quiet_step (fail)
       refine VF ?_
       refine XV ?_
       have jm:=aC.lt;have ark:=aC.frozen 7;have eE:=J.lt;have jt:=aC.lt
       go_wp2
       clear af cA x1 cB cY cZ dG dH dA
       refine kL 7 λic fF=>?_
       replace aG:=kW fF aG;replace aA:=kV fF aA;replace J:=fF.dj J;replace aC:=fF.St aC;replace cn:=cn.eh fF;replace cm:=cm.eh fF;replace bh:=bh.eh fF;replace bf:=bf.eh fF
       replace OR:=OR.eh fF;replace jU:=jU.eh fF;have af:=J.aH
       obtain⟨cA,x1,cB,cY,cZ,dG,dH,dA⟩:=aC.aH
       refine rP (oq _ _ ?_)
       refine qu ?_
       refine VF ?_
       refine VF ?_
       have lZ:(os ++ [(⟨CZ,1,true⟩ :Out)]).length= os.length + 1:=Wn
       rw [<- lZ] at aC dA jU
       have atx:(os ++ [(⟨CZ,1,true⟩ :Out)]).length<=12 + (k + 1):=by rw [lZ];omega
       clear lZ
       generalize os ++ [(⟨CZ,1,true⟩ :Out)]= axK at *
       go_wp2
       go_roundw
       case rel=>exact⟨k + 1,axK,(some ⟨wM,0,none⟩),xJ,by go_num,by omega,atx,J,aC,⟨cn,cm,bh,bf,jU⟩,OR,aA.mono KK,aG⟩
       case measure=>simp [intOf];omega
      case' inr.inl=>
       have d1:decide ((os.length:Int) < 12 + q)= true:=Xh iS;have d2:decide ((k:Int) < 14)= true:=Xh KK;have d3:decide ((0:Int) < (rs.length:Int))= false:=Xe KK
       go_wp2
       refine gb ((cH.o _).2 aC) (da _ _ ?_)
       refine ky ?_
       change wpQuiet _ _ _ _ (_ ::_ ::_ ::_ ::_ ::_ ::_ ::_ ::_ ::_ ::_ ::[]) _
       repeat go_big_quiet_step (fail)
       refine VF ?_
       clear d1 d2 d3;clear cA x1 cB cY cZ dG dH dA
       obtain⟨cA,x1,cB,cY,cZ,dG,dH,dA⟩:=aC.aH
       clear iS pr tE;clear OR;have gE:=cn.bK J;have jf:=cm.bK J;have eo:=bh.bK J;have dL:=bf.bK J;have gL:=cx.bK J;have eg:=J.iX;have eE:=J.lt;have jt:=aC.lt
       go_wp2
       clear af cA x1 cB cY cZ dG dH dA
       refine iO 0 λcP aE=>?_
       replace aG:=kW aE aG;replace aA:=kV aE aA;replace J:=aE.iV J;replace aC:=aE.dj aC;replace cn:=cn.eh aE;replace cm:=cm.eh aE;replace bh:=bh.eh aE;replace bf:=bf.eh aE;replace cx:=cx.eh aE;have af:=J.aH
       obtain⟨cA,x1,cB,cY,cZ,dG,dH,dA⟩:=aC.aH
       exact hV ⟨rs,qs,tu,se,sp,ws,ae,os,bN,d0,bZ,d1,aU,d2,bd,d3,bI,d4,rfl,tH,sR,by omega,by omega,by omega,by omega,⟨cn,cm,bh,bf,cx⟩,aA.mono KK,aG⟩ Zt
      case' inr.inr.inl=>
       have d1:decide ((os.length:Int) < 12 + q)= true:=Xh iS;have d2:decide ((k:Int) < 14)= false:=Xe KK
       go_wp2
       refine gb ((cH.o _).2 aC) (da _ _ ?_)
       refine ky ?_
       change wpQuiet _ _ _ _ (_ ::_ ::_ ::_ ::_ ::_ ::_ ::_ ::_ ::_ ::_ ::[]) _
       repeat go_big_quiet_step (fail)
       refine VF ?_
       clear d1 d2;clear cA x1 cB cY cZ dG dH dA
       obtain⟨cA,x1,cB,cY,cZ,dG,dH,dA⟩:=aC.aH
       clear iS pr;clear OR;have gE:=cn.bK J;have jf:=cm.bK J;have eo:=bh.bK J;have dL:=bf.bK J;have gL:=cx.bK J;have eg:=J.iX;have eE:=J.lt;have jt:=aC.lt
       go_wp2
       clear af cA x1 cB cY cZ dG dH dA
       refine iO 0 λcP aE=>?_
       replace aG:=kW aE aG;replace aA:=kV aE aA;replace J:=aE.iV J;replace aC:=aE.dj aC;replace cn:=cn.eh aE;replace cm:=cm.eh aE;replace bh:=bh.eh aE;replace bf:=bf.eh aE;replace cx:=cx.eh aE;have af:=J.aH
       obtain⟨cA,x1,cB,cY,cZ,dG,dH,dA⟩:=aC.aH
       exact hV ⟨rs,qs,tu,se,sp,ws,ae,os,bN,d0,bZ,d1,aU,d2,bd,d3,bI,d4,rfl,tH,sR,by omega,by omega,by omega,by omega,⟨cn,cm,bh,bf,cx⟩,aA.mono KK,aG⟩ Zt
      case' inr.inr.inr=>
       have d1:decide ((os.length:Int) < 12 + q)= false:=Xe iS
       go_wp2
       refine gb ((cH.o _).2 aC) (da _ _ ?_)
       refine ky ?_
       change wpQuiet _ _ _ _ (_ ::_ ::_ ::_ ::_ ::_ ::_ ::_ ::_ ::_ ::_ ::[]) _
       repeat go_big_quiet_step (fail)
       refine VF ?_
       clear d1;clear cA x1 cB cY cZ dG dH dA
       obtain⟨cA,x1,cB,cY,cZ,dG,dH,dA⟩:=aC.aH
       clear iS;clear OR;have gE:=cn.bK J;have jf:=cm.bK J;have eo:=bh.bK J;have dL:=bf.bK J;have gL:=cx.bK J;have eg:=J.iX;have eE:=J.lt;have jt:=aC.lt
       go_wp2
       clear af cA x1 cB cY cZ dG dH dA
       refine iO 0 λcP aE=>?_
       replace aG:=kW aE aG;replace aA:=kV aE aA;replace J:=aE.iV J;replace aC:=aE.dj aC;replace cn:=cn.eh aE;replace cm:=cm.eh aE;replace bh:=bh.eh aE;replace bf:=bf.eh aE;replace cx:=cx.eh aE;have af:=J.aH
       obtain⟨cA,x1,cB,cY,cZ,dG,dH,dA⟩:=aC.aH
       exact hV ⟨rs,qs,tu,se,sp,ws,ae,os,bN,d0,bZ,d1,aU,d2,bd,d3,bI,d4,rfl,tH,sR,by omega,by omega,by omega,by omega,⟨cn,cm,bh,bf,cx⟩,aA.mono KK,aG⟩ Zt
    case' inr.inr.inr.inr=>
     have g0:(q == 0)= false:=Xb.2 KK;have g1:(q == 1)= false:=Xb.2 KK;have g2:(q == 2)= false:=Xb.2 KK;have g3:(q == 3)= false:=Xb.2 KK
     go_upto_region 23 with fail
     clear g0 g1 g2 g3 cj OR Ny;replace aA:=aA.mono (M:=N + 2590) KK
     generalize eB= ic at *
    all_goals
     clear cA x1 cB cY cZ dG dH dA;replace af:=J.aH
     obtain⟨cA,x1,cB,cY,cZ,dG,dH,dA⟩:=aC.aH
     have sR:=DR.o;have gE:=cn.bK J;have jf:=cm.bK J;have eo:=bh.bK J;have dL:=bf.bK J;have gL:=cx.bK J;have eg:=J.iX;have eE:=J.lt;have jt:=aC.lt
     go_wp2
     clear af cA x1 cB cY cZ dG dH dA
     refine iO 0 λcP aE=>?_
     replace aG:=kW aE aG;replace aA:=kV aE aA;replace J:=aE.iV J;replace aC:=aE.dj aC;replace cn:=cn.eh aE;replace cm:=cm.eh aE;replace bh:=bh.eh aE;replace bf:=bf.eh aE;replace cx:=cx.eh aE;have af:=J.aH
     obtain⟨cA,x1,cB,cY,cZ,dG,dH,dA⟩:=aC.aH
     exact hV ⟨rs,qs,tu,se,sp,ws,ae,os,bN,d0,bZ,d1,aU,d2,bd,d3,bI,d4,rfl,tH,sR,by omega,by omega,by omega,by omega,⟨cn,cm,bh,bf,cx⟩,aA.mono KK,aG⟩ Zt
section
variable {B:Nat} {w ah:World} {bN bZ aU bd bI:Option Addr} {d0 d1 d2 d3 d4:Nat} {rs:List aM} {qs:List aZ} {ws:List Int} {ae:List aW} {os:List Out}
theorem fu.cur {p:Nat} (h:fu B w bN d0 bZ d1 aU d2 bd d3 bI d4 rs qs ws ae os) (aS:p < B) (cy:w.grownBy ah (some p)):fu B ah bN d0 bZ d1 aU d2 bd d3 bI d4 rs qs ws ae os:=
 ⟨h.jg.kept cy (λk ax e=>by have:=(h.jg.lt k ax).1;have:=Wx e;omega),h.hx.kept cy (λk ax e=>by have:=(h.hx.lt k ax).1;have:=Wx e;omega),h.fc.kept cy (λk ax e=>by have:=(h.fc.lt k ax).1;have:=Wx e;omega),h.fE.kept cy (λk ax e=>by have:=(h.fE.lt k ax).1;have:=Wx e;omega),h.kK.kept cy (λk ax e=>by have:=(h.kK.lt k ax).1;have:=Wx e;omega)⟩
theorem fu.map (h:fu B w bN d0 bZ d1 aU d2 bd d3 bI d4 rs qs ws ae os) (aS:w= ah):fu B ah bN d0 bZ d1 aU d2 bd d3 bI d4 rs qs ws ae os:=aS ▸ h
end
theorem zR {w:World} {t:TypeId} {cs:Array Value} {Q:World->Prop} (h:∀W,Below w w W->ay W w t cs->Q W):Q (w.alloc (.cells cs t)):=h _ (bP _ _) (ay.new _ _ _)
theorem pD {a b:VU} {m:Nat} (de:a.size<=m) (aB:b.size<=n):(a ++ b).size<=m + n:=by rw [YU];omega
theorem axk (h:ee rs qs= true) {s:VU} (aP:s ∈ (gD rs qs).map (mm rs)):s.size<=12:=by
 obtain⟨i,_,rfl⟩:=YP.1 aP
 unfold mm
 cases hf:jb rs i with
 | none=>decide
 | some r=>
  obtain⟨k,ax⟩:=YY.1 (List.mem_of_find?_eq_some hf)
  have hw:=(yd (ye (mS h).1 ax)).2.2.2.2.2.2
  unfold vZ at hw
  simp only [Xa,qT] at hw
  show r.name.size<=12
  omega
theorem ale (h:v:=by
 rcases h with rfl | rfl
 all_goals
  go_wp2
  go_ret
  exact⟨_,rfl,Xr (pD (m:=20) WG JG) WG,aA.mono KK,aG⟩):v:=h
theorem aHy (h:v:=by
 subst h
 go_wp2
 go_ret
 exact⟨_,rfl,Xr (pD (m:=20) WG JG) WG,aA.mono KK,aG⟩):v:=h
theorem Mn {cV cW:VU} {cU:Int} (h0:rs.length<=1000) (h1:qs.length<=1000) {p:Nat} {c:Nat} {cs:List UInt8} (cK:cs) {N:Nat} (bU:N<=600000) {w:World} (aA:gX w p A c cs N) (bk:aX 7 aM.cells w aq rs) (bg:aX 3 aZ.cells w au qs) (Q:PW p aq au rs qs):
 Rd 52 #[.pointer (some ⟨p,0,none⟩),.agg #[aq rs c0,au qs aw,tu,se,sp,ak ws c2,al ae c3,aF os c4,cV,cW,cU]] w λe ah=>∃y:ByteArray,e= .returned y/\y.size<=200/\Stepped w ah p A c cs (N + 20):=by
 have gu:=I bk;have mI:=I bg;have eS:=I Q;have gi:=I (Of rs qs);clear bk bg Q
 go_in
 have aS:=aA.lt;have aG:=ht w (some p)
 go_upto_region 1 with fail
 refine Xi λbm bD aR=>?_
 replace aA:=aA.aK bD;replace aG:=bx aG (bL bD (some p));have nY:=bD.size;have aCx:=aR.lt;have bE:=aR.ca
 go_upto_region 2 with fail
 clear bE;clear aR;refine Xi λrb aQ aC=>?_
 replace aA:=aA.aK aQ;replace aG:=bx aG (bL aQ (some p));have sj:=aQ.size;have abJ:=aC.lt;have dI:=aC.aH
 go_wp2_with fail
 refine (iI 5 p A c cK (N + 0) KK KK _ (aA.aK ao)).mono ?_
 rintro e bw ⟨dM,rfl,⟨EC,_,rW⟩,mi⟩
 obtain⟨hH,aA,uV,aG⟩:=Xk mi aG;replace aC:=aC.bV hH;replace dI:=aC.aH;replace rW:=rW KK
 go_wp2_with fail
 refine (py (1 + dM) KK KK _).mono ?_
 rintro e bH ⟨rfl,mL⟩
 obtain⟨db,ed,aA,yj,aG⟩:=YR mL aA aG;replace aC:=aC.bV ed;replace dI:=aC.aH;have JG:=mQ (1 + dM) KK
 generalize eW (1 + dM)= aEX at *
 clear EC rW
 go_wp2_with fail
 refine (iI 16 p A c cK (N + 2) KK KK _ (aA.aK ao)).mono ?_
 rintro e cO ⟨r2,rfl,⟨QZ,_,xP⟩,jw⟩
 obtain⟨fw,aA,ti,aG⟩:=Xk jw aG;replace aC:=aC.bV fw;replace dI:=aC.aH;replace xP:=xP KK
 have zs:(r2= 0\/r2= 1\/r2= 2)\/(r2= 3\/r2= 4)\/(r2= 5\/r2= 6)\/r2= 7\/r2= 8\/(r2= 9\/r2= 10)\/r2= 11\/r2= 12\/r2= 13\/(r2= 14\/r2= 15):=KK
 clear QZ xP
 rcases zs with h | h | h | h | h | h | h | h | h | h
 .rcases h with rfl | rfl | rfl
  all_goals
   go_wp2_with fail
   refine (akd p A c cs cK (N + 4) KK _ (aA.aK ao)).mono ?_
   rintro e dk ⟨nm,rfl,qn,jd⟩
   obtain⟨fx,aA,uW,aG⟩:=Xk jd aG;replace aC:=aC.bV fx;replace dI:=aC.aH
   obtain⟨g,cy⟩ :∃b,ee rs qs= b:=⟨_,rfl⟩
   replace cy:=I cy
   go_wp2_with fail
   refine (nz aq c0 rs KK au aw qs KK _ cy.o _ (mE gu.o aG eS.o.a0) (mE mI.o aG eS.o.a1)).mono ?_
   rintro e fS ⟨rfl,pk⟩
   obtain⟨gv,kt,aA,Dy,aG⟩:=YR pk aA aG;replace aC:=aC.bV kt;replace dI:=aC.aH
   cases g
   .go_wp2
    go_ret
    exact⟨_,rfl,Xr (pD (pD (n:=1) (pD (m:=20) WG (show nm.size<=12 by omega)) WG) JG) WG,aA.mono KK,aG⟩
   .have ajI:=aG.size
    go_wp2_with fail
    refine (aiH aq c0 au aw ak c2 al c3 aF c4 rs qs tu se sp ws ae os h0 KK cy.o _ (mE gu.o aG eS.o.a0) (mE mI.o aG eS.o.a1)).mono ?_
    rintro e du ⟨Y,y,rfl,aV,mM⟩
    obtain⟨pU,gy,aA,yk,aG⟩:=YR mM aA aG;replace aC:=aC.bV gy;replace dI:=aC.aH;have BU:=I (λs (aP:s ∈ (gD rs qs).map (mm rs))=>axk cy.o aP)
    have jm:((gD rs qs).map (mm rs)).length<=1000:=by rw [YZ];exact Xr gi.o KK
    replace aV:=aV.base (B':=w) KK
    generalize (gD rs qs).map (mm rs)= nC at *
    by_cases aT:0 < nC.length
    .have iS:(0:Int) < (nC.length:Int):=KK
     have pr:decide ((0:Int) < (nC.length:Int))= true:=Xh iS
     go_wp2_with fail
     refine (uR 6 p A c cs cK (N + 6) KK KK _ (aA.aK ao)).mono ?_
     rintro e eB ⟨dc,rfl,kg⟩
     obtain⟨en,aA,xt,aG⟩:=Xk kg aG;replace aC:=aC.bV en;replace aV:=aV.dm en;replace dI:=aC.aH
     cases dc
     .have Rq:(nC.length:Int)<=1000000000:=KK
      go_wp2_with fail
      refine (iI (nC.length:Int) p A c cK (N + 8) KK Rq _ (aA.aK ao)).mono ?_
      rintro e fH ⟨r,rfl,⟨pX,gR,nk⟩,jc⟩
      obtain⟨ds,aA,th,aG⟩:=Xk jc aG;replace aC:=aC.bV ds;replace aV:=aV.dm ds;replace dI:=aC.aH
      have bu:r < nC.length:=by
       by_cases h1:(1:Int) < nC.length
       .exact nk h1
       .rw [gR KK];omega
      obtain⟨k,rfl⟩ :∃k:Nat,r= k:=⟨r.toNat,by omega⟩
      have ax:k < nC.length:=KK
      obtain⟨b,off,qt,rfl,eN,zK,bO⟩:=(aV.ej jP).at_ (Wt _ _) ax
      have f0:=bO 0 _ rfl (aD.self _)
      simp only [XW,aD.self,Xw] at f0
      have CV:=BU.o qt (YE zK);clear zK bO gR nk aV
      go_wp2
      go_ret
      exact⟨_,rfl,Xr (pD (pD (n:=1) (pD (m:=20) WG (show qt.size<=12 by omega)) WG) JG) WG,aA.mono KK,aG⟩
     .go_wp2
      go_ret
      exact⟨_,rfl,Xr (pD (pD (n:=1) (pD (m:=20) WG (show nm.size<=12 by omega)) WG) JG) WG,aA.mono KK,aG⟩
    .have iS:¬(0:Int) < (nC.length:Int):=KK
     have pr:decide ((0:Int) < (nC.length:Int))= false:=Xe iS;clear aV
     go_wp2
     go_ret
     exact⟨_,rfl,Xr (pD (pD (n:=1) (pD (m:=20) WG (show nm.size<=12 by omega)) WG) JG) WG,aA.mono KK,aG⟩
 .exact ale
 .exact ale
 .subst h
  all_goals
   go_wp2
   go_ret
   exact⟨_,rfl,WG,aA.mono KK,aG⟩
 .subst h
  go_wp2_with fail
  refine (pQ [1,10,60,3600] (1) 3600 WG WG WG cK KK (aA.aK (pd _))).mono ?_
  rintro e dk ⟨v1,rfl,aeu,jd⟩
  obtain⟨fx,aA,uW,aG⟩:=Xk jd aG;replace aC:=aC.bV fx;replace dI:=aC.aH
  go_wp2_with fail
  refine (py v1 KK KK _).mono ?_
  rintro e fS ⟨rfl,pk⟩
  obtain⟨gv,kt,aA,Dy,aG⟩:=YR pk aA aG;replace aC:=aC.bV kt;replace dI:=aC.aH;have az:=mQ v1 KK
  go_wp2
  go_ret
  exact⟨_,rfl,Xr (pD (m:=20) WG az) WG,aA.mono KK,aG⟩
 .rcases h with rfl | rfl
  all_goals
   go_wp2_with fail
   refine (iI 9 p A c cK (N + 4) KK KK _ (aA.aK ao)).mono ?_
   rintro e dk ⟨v1,rfl,⟨aeu,_,aeB⟩,jd⟩
   obtain⟨fx,aA,uW,aG⟩:=Xk jd aG;replace aC:=aC.bV fx;replace dI:=aC.aH;replace aeB:=aeB KK
   go_wp2_with fail
   refine (py v1 KK KK _).mono ?_
   rintro e fS ⟨rfl,pk⟩
   obtain⟨gv,kt,aA,Dy,aG⟩:=YR pk aA aG;replace aC:=aC.bV kt;replace dI:=aC.aH;have vF:=mQ v1 KK
   generalize eW v1= n1 at *
   go_wp2_with fail
   refine (iI 6 p A c cK (N + 6) KK KK _ (aA.aK ao)).mono ?_
   rintro e du ⟨v2,rfl,⟨aDN,_,aeC⟩,mM⟩
   obtain⟨gy,aA,yk,aG⟩:=Xk mM aG;replace aC:=aC.bV gy;replace dI:=aC.aH;replace aeC:=aeC KK
   go_wp2_with fail
   refine (py v2 KK KK _).mono ?_
   rintro e eB ⟨rfl,kg⟩
   obtain⟨eJ,en,aA,xt,aG⟩:=YR kg aA aG;replace aC:=aC.bV en;replace dI:=aC.aH;have rC:=mQ v2 KK
   generalize eW v2= n2 at *
   go_wp2_with fail
   refine (iI 3 p A c cK (N + 8) KK KK _ (aA.aK ao)).mono ?_
   rintro e fH ⟨v3,rfl,⟨aDO,_,aeD⟩,jc⟩
   obtain⟨ds,aA,th,aG⟩:=Xk jc aG;replace aC:=aC.bV ds;replace dI:=aC.aH;replace aeD:=aeD KK
   go_wp2_with fail
   refine (py v3 KK KK _).mono ?_
   rintro e ib ⟨rfl,lu⟩
   obtain⟨lv,fN,aA,vW,aG⟩:=YR lu aA aG;replace aC:=aC.bV fN;replace dI:=aC.aH;have Ry:=mQ v3 KK
   generalize eW v3= n3 at *
   go_wp2
   go_ret
   exact⟨_,rfl,Xr (pD (pD (n:=1) (pD (pD (n:=1) (pD (m:=20) WG vF) WG) rC) WG) Ry) WG,aA.mono KK,aG⟩
 .exact aHy
 .exact aHy
 .exact aHy
 .rcases h with rfl | rfl
  all_goals
   go_wp2_with fail
   refine (aHH [(⟨#[121,105,101,108,100]⟩ :VU),(⟨#[100,114,111,112]⟩ :VU),(⟨#[112,101,110,100,105,110,103]⟩ :VU),(⟨#[109,97,121]⟩ :VU),(⟨#[111,114,100,101,114]⟩ :VU),(⟨#[97,100,111,112,116,101,100]⟩ :VU),(⟨#[]⟩ :VU),(⟨#[119,104,97,116]⟩ :VU),(⟨#[110,101,120,116,32,49]⟩ :VU),(⟨#[118,111,116,101,32,49,32,50]⟩ :VU),(⟨#[109,111,118,101,32,109,97,105,110]⟩ :VU),(⟨#[115,101,99,111,110,100]⟩ :VU),(⟨#[115,101,99,111,110,100,32,120]⟩ :VU),(⟨#[97,64,98]⟩ :VU),(⟨#[97,115,107,32,48]⟩ :VU)] 20 WG WG WG cK KK (aA.aK (pd _))).mono ?_
   rintro e dk ⟨v1,rfl,aeu,jd⟩
   obtain⟨fx,aA,uW,aG⟩:=Xk jd aG;replace aC:=aC.bV fx;replace dI:=aC.aH
   go_wp2
   go_ret
   exact⟨_,rfl,by omega,aA.mono KK,aG⟩
end Go.Proofs.YtlaaemmmbodaaaaGreatDoor
