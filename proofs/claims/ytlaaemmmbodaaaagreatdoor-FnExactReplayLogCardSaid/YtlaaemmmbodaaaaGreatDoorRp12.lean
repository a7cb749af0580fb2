/- Parts. -/
import Derived.Test.YtlaaemmmbodaaaaGreatDoorRp11
import Derived.Test.YtlaaemmmbodaaaaGreatDoorRows
import Derived.Deep.RegionHeld3
import Derived.Deep.DeepHandedRow
import Derived.Lib.LaidTab
import Derived.OpenVars
import Derived.Test.YtlaaemmmbodaaaaGreatDoorCards
import Derived.Test.YtlaaemmmbodaaaaGreatDoorTie
import Derived.ChangeMaps5
import Derived.Deep.DeepWitnessRowRef
import Derived.Lay
import Derived.Shelf.Vars
import Derived.Stop.LaidErr
set_option maxHeartbeats 16000000
set_option maxRecDepth 100000
set_option linter.unnecessarySimpa false
set_option linter.unusedSimpArgs false
set_option linter.unusedVariables false
namespace Go.Proofs.YtlaaemmmbodaaaaGreatDoor
open Go.RowKit Go.G9
def sD (m:cw):Nat→cw×ByteArray
 | 0=>qQ m ⟨4,0,0,0,0,0⟩
 | 1=>nc m ⟨6,0,0,0,0,0⟩ (⟨#[111,107]⟩ :ByteArray)
 | 2=>nc m ⟨9,0,0,0,0,0⟩ (⟨#[111,107]⟩ :ByteArray)
 | 3=>(m,kx (m.cP.map (kA m.cx)))
 | 4=>(m,kx ((hv m.cx m.cP).map (kQ m.cx)))
 | 5=>(m,nT (kf m.fV))
 | 6=>(m,nT (jN m.cl m.cl.length))
 | _=>(m,(⟨#[63]⟩ :ByteArray))
theorem XU (m:cw) (i:Nat) (h0:i≠0) (h1:i≠1) (h2:i≠2) (h3:i≠3) (h4:i≠4) (h5:i≠5) (h6:i≠6):sD m i= (m,(⟨#[63]⟩ :ByteArray)):=by
 unfold sD
 split <;> first | rfl | (exfalso;omega)
theorem acT {m n:cw} (h:gC m ⟨4,0,0,0,0,0⟩ =some n):qQ m ⟨4,0,0,0,0,0⟩ =(n,eN n.fk):=by
 rw [qQ,h]
 show (n,oI n 4)= _
 rw [oI,if_pos rfl]
theorem YS {p:Prop} (h:p:=by
 rintro e aJ ⟨⟨df,dr,dE,dD,dw,bP,bS,de,cy,e0,cv,e1,cU,e2,cV,e3,cA,e4,y,rfl,cW,ht⟩,aL⟩
 have jE:=J ht;clear ht;have gJ:=aj wJ aL;have cE:=ee.out.ae aL ee.out.lt;have dh:=J cE;have ak:=cE.bX;have ep:=cE.gX;have hp:=cE.lt;clear cE
 go_wp2
 clear ak ep hp
 refine hk 0 fun cD aE=>?_
 have bK:=aE.hP dh.out;have fA:=(jE.out).gO dh.out aE.fC;have et:=aE.aH gJ;clear aE
 have z0:=bK.bX
 refine bodyPost_ret (v:= .tuple #[.agg #[.slice cy df e0,.slice cv dr e1,dE,dD,dw,.slice cU bP e2,.slice cV bS e3,.slice cA de e4,cg,cj,cf],y]) (by simp [results,Tryz.results110,go_sem,z0]) rfl ?_
 exact⟨⟨df,dr,dE,dD,dw,bP,bS,de,cy,e0,cv,e1,cU,e2,cV,e3,cA,e4,_,rfl,J (cW.out),fA⟩,et⟩):p:=h
theorem ajm (B:Nat) (aq ar an ao aA:Option Addr) (c0 av c2 c3 c4:Nat) (rs:List aK) (qs:List aQ) (ag af sp:Int) (ws:List Int) (ad:List aO) (os:List Out) (cg cj:ByteArray) (cf:Int) (h:gR ⟨rs,qs,ag,af,sp,ws,ad,os⟩) (s:ByteArray) (w:World) (mS:B≤w.heap.size) (bM:fP B w aq c0 ar av an c2 ao c3 aA c4 rs qs ws ad os):
 Calls Tryz.prog 110 #[.agg #[.slice aq rs c0,.slice ar qs av,ag,af,sp,.slice an ws c2,.slice ao ad c3,.slice aA os c4,cg,cj,cf],s] w fun e ah=>Ax B cg cj cf (sD ⟨rs,qs,ag,af,sp,ws,ad,os⟩ (ev s)) e ah∧Below w w ah:=by
 have cC:=AH s
 generalize ev s= i at *
 obtain⟨f0,f1,f2,f3,f4,f5,f6,-,-,-,-,-,-,-,-⟩:=cC
 have Z:=EK bM h;have aT:=sl h
 simp only at aT
 obtain⟨LY,uC,Eh,yU,Ei⟩:=aT
 have JC:=J (fun W (h1:aS 7 aK.cells W aq rs) (h2:aS 3 aQ.cells W ar qs)=>amP aq c0 rs Z.h0 ar av qs Z.h1 h.ho W h1 h2);have acd:=J (fun W (h1:aS 7 aK.cells W aq rs) (h2:aS 3 aQ.cells W ar qs)=>amw aq c0 ar av an c2 ao c3 aA c4 rs qs ag af sp ws ad os (by omega) Z.h1 h.ho W h1 h2);have pw:=J (fun W (h1:aS 1 bV W an ws) (h2:aS 3 aO.cells W ao ad)=>amT ag af sp an c2 ws ao c3 ad Z.h2 Z.h3 Z.n2 Z.n3 Z.cp h.fV W h1 h2)
 have lg:=BA.2 h;have xX:=J (fun W (dj:dI W aq ar an ao aA rs qs ws ad os)=>alT ⟨rs,qs,ag,af,sp,ws,ad,os⟩ aq ar an ao aA c0 av c2 c3 c4 Z.h0 Z.h1 Z.h2 Z.h3 Z.h4 W dj.fx dj.dL dj.r2 dj.hG dj.nV Z.dZ Z.eI Z.cp Z.ef Z.hY)
 rw [lg,show nM ⟨rs,qs,ag,af,sp,ws,ad,os⟩ =jN os os.length by rw [nM,if_pos lg]] at xX
 have sd:(qs.map (kA rs)).length≤1000:=by rw [List.length_map];omega
 have JH:=J (show∀x ∈ qs.map (kA rs),x.size≤1000 from fun x aw=>by obtain⟨q,_,rfl⟩:=List.mem_map.1 aw;have:=Ia (mj h.ho).1 q.fR;unfold kA;simp only at this;omega);have jo:=Nf (rs:=rs) (qs:=qs)
 have agr:((hv rs qs).map (kQ rs)).length≤1000:=by rw [List.length_map];omega
 have acA:=J (show∀x ∈ (hv rs qs).map (kQ rs),x.size≤1000 from fun x aw=>by obtain⟨q,_,rfl⟩:=List.mem_map.1 aw;have:=Ia (mj h.ho).1 q;simp only at this;omega);have FW:=J (Xo h);have xx:=BR (cw.fV ⟨rs,qs,ag,af,sp,ws,ad,os⟩);have PQ:=J (Qw h);have Lv:=yw os os.length;have acD:Hid (sD ⟨rs,qs,ag,af,sp,ws,ad,os⟩ 3= (⟨rs,qs,ag,af,sp,ws,ad,os⟩,kx (qs.map (kA rs)))):=J rfl
 have JN:Hid (sD ⟨rs,qs,ag,af,sp,ws,ad,os⟩ 4= (⟨rs,qs,ag,af,sp,ws,ad,os⟩,kx ((hv rs qs).map (kQ rs)))):=J rfl;have acE:Hid (sD ⟨rs,qs,ag,af,sp,ws,ad,os⟩ 5= (⟨rs,qs,ag,af,sp,ws,ad,os⟩,nT (kf ⟨ag,af,sp,ws,ad⟩))):=J rfl;have FZ:Hid (sD ⟨rs,qs,ag,af,sp,ws,ad,os⟩ 6= (⟨rs,qs,ag,af,sp,ws,ad,os⟩,nT (jN os os.length))):=J rfl
 simp only [cw.fV] at FW xx
 simp only at PQ xX
 generalize qs.map (kA rs)= IQ at *
 generalize (hv rs qs).map (kQ rs)= IS at *
 generalize kf ⟨ag,af,sp,ws,ad⟩ =OE at *
 generalize jN os os.length= OF at *
 have ags:OE.length≤100:=by omega
 have Tl:OF.length≤100:=by omega
 have ir:=J h;have dm:=J bM;clear h bM Z lg jo xx Lv LY uC Eh yU Ei
 go_in
 go_upto_region 1 with fail
 refine fe fun aG au aR U=>?_
 have I:=au;have bF:=aR.bX;obtain⟨z0,bW,z2,z3,z4,z5,eO,gG,gW,z9,hc⟩:=U.bX;have JS:=J U;have JO:=J aR;have pc:=aR.lt
 have rq:=U.lt;have PM:=J (dm.out.bm I);clear z0 bW z2 z3 z4 z5 eO gG gW z9 hc U aR dm
 go_upto_region 2 with fail
 obtain⟨ru,lg⟩ :∃b,b= aG.heap.size:=⟨_,rfl⟩
 have aU:=aB.new aG 44 #[.slice aq rs c0,.slice ar qs av,ag,af,sp,.slice an ws c2,.slice ao ad c3,.slice aA os c4];have br:Below aG aG (aG.alloc (.cells #[.slice aq rs c0,.slice ar qs av,ag,af,sp,.slice an ws c2,.slice ao ad c3,.slice aA os c4] 44)):=bT _ _
 rw [← lg] at aU
 generalize aG.alloc (.cells #[.slice aq rs c0,.slice ar qs av,ag,af,sp,.slice an ws c2,.slice ao ad c3,.slice aA os c4] 44)= bh at *
 rw [← lg]
 have rj:ru≠w.heap.size + 1:=by omega
 clear lg bF pc rq;have wJ:=aj I br;have fw:=J (JO.out.ae br JO.out.lt);have ee:=J (JS.out.ae br JS.out.lt);have iM:=J (PM.out.bm br);have qL:=J aU
 have uv:B≤bh.heap.size:=by have:=wJ.size;omega
 have pc:=fw.out.lt;have jo:=qL.out.lt;have bF:=fw.out.bX;have hO:=qL.out.aI;clear JO JS PM aU br
 by_cases h0:i= 0
 ·subst h0
  simp only [Nat.reduceBEq] at f0 f1 f2 f3 f4 f5 f6
  clear hO jo
  go_wp2_with fail
  refine (vZ B aq ar an ao aA c0 av c2 c3 c4 rs qs ag af sp ws ad os cg cj cf ir.out 4 0 0 0 0 0 (⟨#[111,107]⟩ :ByteArray) _ uv iM.out).mono ?_
  rintro e dB ⟨⟨df,dr,dE,dD,dw,bP,bS,de,cy,e0,cv,e1,cU,e2,cV,e3,cA,e4,lq,rfl,cW,ht⟩,kj⟩
  have jE:=J ht;clear ht;have la:=aj wJ kj;clear bF pc
  go_upto_region 5 with fail
  obtain⟨cu,lO⟩ :∃b,b= dB.heap.size:=⟨_,rfl⟩
  have eH:=aB.new dB 46 #[.slice cy df e0,.slice cv dr e1,dE,dD,dw,.slice cU bP e2,.slice cV bS e3,.slice cA de e4,cg,cj,cf];have rX:=kj.alloc kj.size (.cells #[.slice cy df e0,.slice cv dr e1,dE,dD,dw,.slice cU bP e2,.slice cV bS e3,.slice cA de e4,cg,cj,cf] 46)
  have AQ:=la.alloc la.size (.cells #[.slice cy df e0,.slice cv dr e1,dE,dD,dw,.slice cU bP e2,.slice cV bS e3,.slice cA de e4,cg,cj,cf] 46);have sN:=jE.out.bm (bT dB (.cells #[.slice cy df e0,.slice cv dr e1,dE,dD,dw,.slice cU bP e2,.slice cV bS e3,.slice cA de e4,cg,cj,cf] 46))
  rw [← lO] at eH
  generalize dB.alloc (.cells #[.slice cy df e0,.slice cv dr e1,dE,dD,dw,.slice cU bP e2,.slice cV bS e3,.slice cA de e4,cg,cj,cf] 46)= ju at *
  rw [← lO]
  clear lO;have nB:=eH.bX;have nQ:=eH.lt;have Ah:=J sN;have wN:=J eH;clear jE eH sN
  cases hm:gC ⟨rs,qs,ag,af,sp,ws,ad,os⟩ ⟨4,0,0,0,0,0⟩ with
  | none=>
   have e:=cW.out
   rw [nc,hm] at e
   have PW:Hid (sD ⟨rs,qs,ag,af,sp,ws,ad,os⟩ 0= (⟨df,dr,dE,dD,dw,bP,bS,de⟩,(⟨#[63]⟩ :ByteArray))):=J ((Qr hm).trans (by injection e with e1 e2;rw [e1]))
   obtain rfl:(⟨#[63]⟩ :ByteArray)= lq:=(Prod.mk.inj e).2
   clear e hm
   have bj:((⟨#[63]⟩ :ByteArray).toList == [111,107])= false:=by decide +kernel
   have cE:=ee.out.ae rX ee.out.lt;have dh:=J cE;have ak:=cE.bX;have ep:=cE.gX;have hp:=cE.lt;clear cE
   go_wp2
   clear ak ep hp nB nQ bj
   refine hk 0 fun cD aE=>?_
   have bK:=aE.hP dh.out;have fA:=(Ah.out).gO dh.out aE.fC;have et:=aE.aH AQ;clear aE
   have z0:=bK.bX
   refine bodyPost_ret (v:= .tuple #[.agg #[.slice cy df e0,.slice cv dr e1,dE,dD,dw,.slice cU bP e2,.slice cV bS e3,.slice cA de e4,cg,cj,cf],.string (⟨#[63]⟩ :ByteArray)]) (by simp [results,Tryz.results110,go_sem,z0]) rfl ?_
   exact Zl
  | some k=>
   have e:=cW.out
   rw [nc,hm] at e
   obtain rfl:(⟨#[111,107]⟩ :ByteArray)= lq:=(Prod.mk.inj e).2
   have aD:=(Prod.mk.inj e).1
   rw [aD] at hm
   have mZ:-999999≤dw∧dw≤999999:=Vb ir.out hm;have abB:Hid (sD ⟨rs,qs,ag,af,sp,ws,ad,os⟩ 0= (⟨df,dr,dE,dD,dw,bP,bS,de⟩,eN dw)):=J (acT hm)
   have bj:((⟨#[111,107]⟩ :ByteArray).toList == [111,107])= true:=by decide +kernel
   clear e hm aD
   go_wp2_with fail
   refine (pT dw (by omega) (by omega) _).mono ?_
   rintro e wD ⟨rfl,tg⟩
   have Lp:=aj rX tg;have yF:=aj AQ tg;clear nB nQ;have nB:=(wN.out.ae tg wN.out.lt).bX;have nQ:=(wN.out.ae tg wN.out.lt).lt;have cE:=ee.out.ae Lp ee.out.lt;have dh:=J cE;have ak:=cE.bX;have ep:=cE.gX;have hp:=cE.lt;clear cE
   go_wp2
   clear ak ep hp nB nQ bj
   refine hk 0 fun cD aE=>?_
   have bK:=aE.hP dh.out;have fA:=(Ah.out.bm tg).gO dh.out aE.fC;have et:=aE.aH yF;clear aE
   have z0:=bK.bX
   refine bodyPost_ret (v:= .tuple #[.agg #[.slice cy df e0,.slice cv dr e1,dE,dD,dw,.slice cU bP e2,.slice cV bS e3,.slice cA de e4,cg,cj,cf],.string (eN dw)]) (by simp [results,Tryz.results110,go_sem,z0]) rfl ?_
   exact⟨⟨df,dr,dE,dD,dw,bP,bS,de,cy,e0,cv,e1,cU,e2,cV,e3,cA,e4,_,rfl,J (abB.out),fA⟩,et⟩
 by_cases h1:i= 1
 ·subst h1
  simp only [Nat.reduceBEq] at f0 f1 f2 f3 f4 f5 f6
  clear hO jo
  go_wp2_with fail
  refine (vZ B aq ar an ao aA c0 av c2 c3 c4 rs qs ag af sp ws ad os cg cj cf ir.out 6 0 0 0 0 0 (⟨#[111,107]⟩ :ByteArray) _ uv iM.out).mono ?_
  exact YS
 by_cases h2:i= 2
 ·subst h2
  simp only [Nat.reduceBEq] at f0 f1 f2 f3 f4 f5 f6
  clear hO jo
  go_wp2_with fail
  refine (vZ B aq ar an ao aA c0 av c2 c3 c4 rs qs ag af sp ws ad os cg cj cf ir.out 9 0 0 0 0 0 (⟨#[111,107]⟩ :ByteArray) _ uv iM.out).mono ?_
  exact YS
 by_cases h3:i= 3
 ·subst h3
  simp only [Nat.reduceBEq] at f0 f1 f2 f3 f4 f5 f6
  go_wp2_with fail
  refine (JC.out _ iM.out.rd.fx iM.out.rd.dL).mono ?_
  rintro e aJ ⟨D,d,rfl,gb,aL⟩
  have gJ:=aj wJ aL;have hs:=J (iM.out.bm aL);have iL:=J gb;clear gb hO jo
  go_upto_region 14 with fail
  have iv:=fw.out.ae aL fw.out.lt
  obtain⟨en,gj⟩ :∃X:World→Prop,∀V,X V↔aB V (w.heap.size) 46 #[.slice aq rs c0,.slice ar qs av,ag,af,sp,.slice an ws c2,.slice ao ad c3,.slice aA os c4,cg,cj,cf]:=⟨_,fun _=>Iff.rfl⟩
  have cO:=J gj;clear gj
  haveI:Nonempty (cH en):=⟨⟨aJ,(cO.out _).2 iv⟩⟩
  refine nh en [([0,1],2),([],3)] [4] (by kernel_rfl) (by kernel_rfl) ((cO.out _).2 iv) ?_
  clear bF;have bF:=aB.qf (fun K:cH en=>(cO.out _).1 K.holds);have gH:Below w w aJ.drew:=aj gJ (Below.refl _ _).drew;have mU:aB aJ.drew (w.heap.size) 46 #[.slice aq rs c0,.slice ar qs av,ag,af,sp,.slice an ws c2,.slice ao ad c3,.slice aA os c4,cg,cj,cf]:=iv;have ot:=ee.out.ae aL ee.out.lt
  have lv:Hid (aB aJ.drew (w.heap.size + 1) 46 #[.slice none 0 0,.slice none 0 0,(0:Int),(0:Int),(0:Int),.slice none 0 0,.slice none 0 0,.slice none 0 0,.string ⟨#[]⟩,.string ⟨#[]⟩,(0:Int)]):=J ot;have nr:=J (hs.out.bm (Below.refl _ _).drew);clear iv ot;have Cj:=J (iL.out.bm (Below.refl _ _).drew)
  generalize aJ.drew= wd at *
  refine gr fun fT dv=>?_
  change wpQuiet _ _ _ _ (_ ::_ ::[]) _
  repeat (go_big_quiet_step (fail))
  refine wpQuiet_nil ?_
  change wpList _ _ _ (_ ::[]) _ _
  go_wp2_with fail
  refine (MW D d IQ sd JH.out _ (Cj.out.hj (hf:=jZ))).mono ?_
  rintro e bB ⟨rfl,bx⟩
  have hW:=aj gH bx;have gl:=mU.to bx
  go_wp2
  refine gw ((cO.out _).2 gl) (dv _ _ ?_)
  refine gr fun fT dv=>?_
  change wpQuiet _ _ _ _ ([]) _
  refine wpQuiet_nil ?_
  change wpList _ _ _ (_ ::[]) _ _
  have dh:=J (lv.out.ae bx lv.out.lt);have ak:=dh.out.bX;have ep:=dh.out.gX;have hp:=dh.out.lt
  go_wp2
  clear ak ep hp
  refine hk 0 fun cD aE=>?_
  have dR:=aE.dV (gl);have bK:=aE.hP dh.out;have fA:=(nr.out.bm bx).gO dh.out aE.fC;have et:=aE.aH hW;clear aE
  refine gw ((cO.out _).2 dR) (dv _ _ ?_)
  refine kD ?_
  change wpQuiet _ _ _ _ (_ ::[]) _
  repeat (go_big_quiet_step (fail))
  refine wpQuiet_nil ?_
  clear bF
  go_wp2
  have z0:=bK.bX
  refine bodyPost_ret (v:= .tuple #[.agg #[.slice aq rs c0,.slice ar qs av,ag,af,sp,.slice an ws c2,.slice ao ad c3,.slice aA os c4,cg,cj,cf],.string (kx IQ)]) (by simp [results,Tryz.results110,go_sem,z0]) rfl ?_
  exact⟨⟨rs,qs,ag,af,sp,ws,ad,os,aq,c0,ar,av,an,c2,ao,c3,aA,c4,_,rfl,J (acD.out),fA⟩,et⟩
 by_cases h4:i= 4
 ·subst h4
  simp only [Nat.reduceBEq] at f0 f1 f2 f3 f4 f5 f6
  clear hO jo
  go_upto_region 16 with fail
  have iv:=And.intro qL.out fw.out
  obtain⟨en,gj⟩ :∃X:World→Prop,∀V,X V↔aB V ru 44 #[.slice aq rs c0,.slice ar qs av,ag,af,sp,.slice an ws c2,.slice ao ad c3,.slice aA os c4]∧aB V (w.heap.size) 46 #[.slice aq rs c0,.slice ar qs av,ag,af,sp,.slice an ws c2,.slice ao ad c3,.slice aA os c4,cg,cj,cf]:=⟨_,fun _=>Iff.rfl⟩
  have cO:=J gj;clear gj
  haveI:Nonempty (cH en):=⟨⟨bh,(cO.out _).2 iv⟩⟩
  refine nh en [([0,1],2),([],3),([],4)] [5] (by kernel_rfl) (by kernel_rfl) ((cO.out _).2 iv) ?_
  clear bF;have bF:=aB.qf (fun K:cH en=>((cO.out _).1 K.holds).2)
  obtain⟨m0,m1,m2,m3,m4,m5,m6,m7⟩:=aB.oS (fun K:cH en=>((cO.out _).1 K.holds).1)
  have gH:Below w w bh.drew:=aj wJ (Below.refl _ _).drew;have aff:aB bh.drew ru 44 #[.slice aq rs c0,.slice ar qs av,ag,af,sp,.slice an ws c2,.slice ao ad c3,.slice aA os c4]:=iv.1;have mU:aB bh.drew (w.heap.size) 46 #[.slice aq rs c0,.slice ar qs av,ag,af,sp,.slice an ws c2,.slice ao ad c3,.slice aA os c4,cg,cj,cf]:=iv.2
  have ot:=ee.out;have lv:Hid (aB bh.drew (w.heap.size + 1) 46 #[.slice none 0 0,.slice none 0 0,(0:Int),(0:Int),(0:Int),.slice none 0 0,.slice none 0 0,.slice none 0 0,.string ⟨#[]⟩,.string ⟨#[]⟩,(0:Int)]):=J ot;have nr:=J (iM.out.bm (Below.refl _ _).drew);clear iv ot pc
  generalize bh.drew= wd at *
  refine gr fun fT dv=>?_
  change wpQuiet _ _ _ _ (_ ::_ ::[]) _
  repeat (go_big_quiet_step (fail))
  refine wpQuiet_nil ?_
  change wpList _ _ _ (_ ::[]) _ _
  go_wp2_with fail
  refine (acd.out _ nr.out.rd.fx nr.out.rd.dL).mono ?_
  rintro e aJ ⟨D,d,rfl,gb,aL⟩
  have gJ:=aj gH aL;have jP:=mU.to aL;have RY:=aff.to aL;have iL:=J gb;clear gb
  go_wp2
  refine gw ((cO.out _).2 ⟨RY,jP⟩) (dv _ _ ?_)
  refine gr fun fT dv=>?_
  change wpQuiet _ _ _ _ ([]) _
  refine wpQuiet_nil ?_
  change wpList _ _ _ (_ ::[]) _ _
  go_wp2_with fail
  refine (MW D d IS agr acA.out _ (iL.out.hj (hf:=jZ))).mono ?_
  rintro e bB ⟨rfl,bx⟩
  have hW:=aj gJ bx;have gl:=jP.to bx;have RZ:=RY.to bx;have St:=aj aL bx
  go_wp2
  refine gw ((cO.out _).2 ⟨RZ,gl⟩) (dv _ _ ?_)
  refine gr fun fT dv=>?_
  change wpQuiet _ _ _ _ ([]) _
  refine wpQuiet_nil ?_
  change wpList _ _ _ (_ ::[]) _ _
  have dh:=J (lv.out.ae St lv.out.lt);have ak:=dh.out.bX;have ep:=dh.out.gX;have hp:=dh.out.lt
  go_wp2
  clear ak ep hp
  refine hk 0 fun cD aE=>?_
  have AS:=aE.dV RZ rj;have dR:=aE.dV (gl);have bK:=aE.hP dh.out;have fA:=(nr.out.bm St).gO dh.out aE.fC;have et:=aE.aH hW;clear aE
  refine gw ((cO.out _).2 ⟨AS,dR⟩) (dv _ _ ?_)
  refine kD ?_
  change wpQuiet _ _ _ _ (_ ::[]) _
  repeat (go_big_quiet_step (fail))
  refine wpQuiet_nil ?_
  clear bF m0 m1 m2 m3 m4 m5 m6 m7
  go_wp2
  have z0:=bK.bX
  refine bodyPost_ret (v:= .tuple #[.agg #[.slice aq rs c0,.slice ar qs av,ag,af,sp,.slice an ws c2,.slice ao ad c3,.slice aA os c4,cg,cj,cf],.string (kx IS)]) (by simp [results,Tryz.results110,go_sem,z0]) rfl ?_
  exact⟨⟨rs,qs,ag,af,sp,ws,ad,os,aq,c0,ar,av,an,c2,ao,c3,aA,c4,_,rfl,J (JN.out),fA⟩,et⟩
 by_cases h5:i= 5
 ·subst h5
  simp only [Nat.reduceBEq] at f0 f1 f2 f3 f4 f5 f6
  go_wp2_with fail
  refine (pw.out _ iM.out.rd.r2 iM.out.rd.hG).mono ?_
  rintro e aJ ⟨D,d,rfl,gb,aL⟩
  have gJ:=aj wJ aL;have hs:=J (iM.out.bm aL);have iL:=J gb;clear gb hO jo
  go_upto_region 19 with fail
  have iv:=fw.out.ae aL fw.out.lt
  obtain⟨en,gj⟩ :∃X:World→Prop,∀V,X V↔aB V (w.heap.size) 46 #[.slice aq rs c0,.slice ar qs av,ag,af,sp,.slice an ws c2,.slice ao ad c3,.slice aA os c4,cg,cj,cf]:=⟨_,fun _=>Iff.rfl⟩
  have cO:=J gj;clear gj
  haveI:Nonempty (cH en):=⟨⟨aJ,(cO.out _).2 iv⟩⟩
  refine nh en [([0,1],2),([],3)] [4] (by kernel_rfl) (by kernel_rfl) ((cO.out _).2 iv) ?_
  clear bF;have bF:=aB.qf (fun K:cH en=>(cO.out _).1 K.holds);have gH:Below w w aJ.drew:=aj gJ (Below.refl _ _).drew;have mU:aB aJ.drew (w.heap.size) 46 #[.slice aq rs c0,.slice ar qs av,ag,af,sp,.slice an ws c2,.slice ao ad c3,.slice aA os c4,cg,cj,cf]:=iv;have ot:=ee.out.ae aL ee.out.lt
  have lv:Hid (aB aJ.drew (w.heap.size + 1) 46 #[.slice none 0 0,.slice none 0 0,(0:Int),(0:Int),(0:Int),.slice none 0 0,.slice none 0 0,.slice none 0 0,.string ⟨#[]⟩,.string ⟨#[]⟩,(0:Int)]):=J ot;have nr:=J (hs.out.bm (Below.refl _ _).drew);clear iv ot;have Cj:=J (iL.out.bm (Below.refl _ _).drew)
  generalize aJ.drew= wd at *
  refine gr fun fT dv=>?_
  change wpQuiet _ _ _ _ (_ ::_ ::[]) _
  repeat (go_big_quiet_step (fail))
  refine wpQuiet_nil ?_
  change wpList _ _ _ (_ ::[]) _ _
  go_wp2_with fail
  refine (Uv D d OE ags FW.out _ (Cj.out.hj (hf:=fW))).mono ?_
  rintro e bB ⟨rfl,bx⟩
  have hW:=aj gH bx;have gl:=mU.to bx
  go_wp2
  refine gw ((cO.out _).2 gl) (dv _ _ ?_)
  refine gr fun fT dv=>?_
  change wpQuiet _ _ _ _ ([]) _
  refine wpQuiet_nil ?_
  change wpList _ _ _ (_ ::[]) _ _
  have dh:=J (lv.out.ae bx lv.out.lt);have ak:=dh.out.bX;have ep:=dh.out.gX;have hp:=dh.out.lt
  go_wp2
  clear ak ep hp
  refine hk 0 fun cD aE=>?_
  have dR:=aE.dV (gl);have bK:=aE.hP dh.out;have fA:=(nr.out.bm bx).gO dh.out aE.fC;have et:=aE.aH hW;clear aE
  refine gw ((cO.out _).2 dR) (dv _ _ ?_)
  refine kD ?_
  change wpQuiet _ _ _ _ (_ ::[]) _
  repeat (go_big_quiet_step (fail))
  refine wpQuiet_nil ?_
  clear bF
  go_wp2
  have z0:=bK.bX
  refine bodyPost_ret (v:= .tuple #[.agg #[.slice aq rs c0,.slice ar qs av,ag,af,sp,.slice an ws c2,.slice ao ad c3,.slice aA os c4,cg,cj,cf],.string (nT OE)]) (by simp [results,Tryz.results110,go_sem,z0]) rfl ?_
  exact⟨⟨rs,qs,ag,af,sp,ws,ad,os,aq,c0,ar,av,an,c2,ao,c3,aA,c4,_,rfl,J (acE.out),fA⟩,et⟩
 by_cases h6:i= 6
 ·subst h6
  simp only [Nat.reduceBEq] at f0 f1 f2 f3 f4 f5 f6
  go_wp2_with fail
  refine (xX.out _ iM.out.rd).mono ?_
  rintro e aJ ⟨D,d,rfl,gb,aL⟩
  have gJ:=aj wJ aL;have hs:=J (iM.out.bm aL);have iL:=J gb;clear gb hO jo
  go_upto_region 22 with fail
  have iv:=fw.out.ae aL fw.out.lt
  obtain⟨en,gj⟩ :∃X:World→Prop,∀V,X V↔aB V (w.heap.size) 46 #[.slice aq rs c0,.slice ar qs av,ag,af,sp,.slice an ws c2,.slice ao ad c3,.slice aA os c4,cg,cj,cf]:=⟨_,fun _=>Iff.rfl⟩
  have cO:=J gj;clear gj
  haveI:Nonempty (cH en):=⟨⟨aJ,(cO.out _).2 iv⟩⟩
  refine nh en [([0,1],2),([],3)] [4] (by kernel_rfl) (by kernel_rfl) ((cO.out _).2 iv) ?_
  clear bF;have bF:=aB.qf (fun K:cH en=>(cO.out _).1 K.holds);have gH:Below w w aJ.drew:=aj gJ (Below.refl _ _).drew;have mU:aB aJ.drew (w.heap.size) 46 #[.slice aq rs c0,.slice ar qs av,ag,af,sp,.slice an ws c2,.slice ao ad c3,.slice aA os c4,cg,cj,cf]:=iv;have ot:=ee.out.ae aL ee.out.lt
  have lv:Hid (aB aJ.drew (w.heap.size + 1) 46 #[.slice none 0 0,.slice none 0 0,(0:Int),(0:Int),(0:Int),.slice none 0 0,.slice none 0 0,.slice none 0 0,.string ⟨#[]⟩,.string ⟨#[]⟩,(0:Int)]):=J ot;have nr:=J (hs.out.bm (Below.refl _ _).drew);clear iv ot;have Cj:=J (iL.out.bm (Below.refl _ _).drew)
  generalize aJ.drew= wd at *
  refine gr fun fT dv=>?_
  change wpQuiet _ _ _ _ (_ ::_ ::[]) _
  repeat (go_big_quiet_step (fail))
  refine wpQuiet_nil ?_
  change wpList _ _ _ (_ ::[]) _ _
  go_wp2_with fail
  refine (Uv D d OF Tl PQ.out _ (Cj.out.hj (hf:=fW))).mono ?_
  rintro e bB ⟨rfl,bx⟩
  have hW:=aj gH bx;have gl:=mU.to bx
  go_wp2
  refine gw ((cO.out _).2 gl) (dv _ _ ?_)
  refine gr fun fT dv=>?_
  change wpQuiet _ _ _ _ ([]) _
  refine wpQuiet_nil ?_
  change wpList _ _ _ (_ ::[]) _ _
  have dh:=J (lv.out.ae bx lv.out.lt);have ak:=dh.out.bX;have ep:=dh.out.gX;have hp:=dh.out.lt
  go_wp2
  clear ak ep hp
  refine hk 0 fun cD aE=>?_
  have dR:=aE.dV (gl);have bK:=aE.hP dh.out;have fA:=(nr.out.bm bx).gO dh.out aE.fC;have et:=aE.aH hW;clear aE
  refine gw ((cO.out _).2 dR) (dv _ _ ?_)
  refine kD ?_
  change wpQuiet _ _ _ _ (_ ::[]) _
  repeat (go_big_quiet_step (fail))
  refine wpQuiet_nil ?_
  clear bF
  go_wp2
  have z0:=bK.bX
  refine bodyPost_ret (v:= .tuple #[.agg #[.slice aq rs c0,.slice ar qs av,ag,af,sp,.slice an ws c2,.slice ao ad c3,.slice aA os c4,cg,cj,cf],.string (nT OF)]) (by simp [results,Tryz.results110,go_sem,z0]) rfl ?_
  exact⟨⟨rs,qs,ag,af,sp,ws,ad,os,aq,c0,ar,av,an,c2,ao,c3,aA,c4,_,rfl,J (FZ.out),fA⟩,et⟩
 have PV:=J (XU ⟨rs,qs,ag,af,sp,ws,ad,os⟩ i h0 h1 h2 h3 h4 h5 h6);have f0:=f0.trans (beq_eq_false_iff_ne.2 h0);have f1:=f1.trans (beq_eq_false_iff_ne.2 h1);have f2:=f2.trans (beq_eq_false_iff_ne.2 h2);have f3:=f3.trans (beq_eq_false_iff_ne.2 h3);have f4:=f4.trans (beq_eq_false_iff_ne.2 h4);have f5:=f5.trans (beq_eq_false_iff_ne.2 h5);have f6:=f6.trans (beq_eq_false_iff_ne.2 h6)
 clear hO jo;have cE:=ee.out.ae (Below.refl _ _) ee.out.lt;have dh:=J cE;have ak:=cE.bX;have ep:=cE.gX;have hp:=cE.lt;clear cE
 go_wp2
 clear ak ep hp
 refine hk 0 fun cD aE=>?_
 have bK:=aE.hP dh.out;have fA:=(iM.out).gO dh.out aE.fC;have et:=aE.aH wJ;clear aE
 have z0:=bK.bX
 refine bodyPost_ret (v:= .tuple #[.agg #[.slice aq rs c0,.slice ar qs av,ag,af,sp,.slice an ws c2,.slice ao ad c3,.slice aA os c4,cg,cj,cf],.string (⟨#[63]⟩ :ByteArray)]) (by simp [results,Tryz.results110,go_sem,z0]) rfl ?_
 exact Zp
end Go.Proofs.YtlaaemmmbodaaaaGreatDoor
namespace Go.G9
theorem Xu (c:UInt8):∀{l u:List UInt8},ko c l= [u]→u= l
 | [],u,h=>by simp [ko] at h;exact h
 | x ::l,u,h=>by
  unfold ko at h
  split at h
  ·have h2:=(List.cons.inj h).2
   exact absurd h2 (Of c l)
  ·split at h
   ·rename_i h0;exact absurd h0 (Of c l)
   ·rename_i w ws h0
    obtain⟨h1,h2⟩:=List.cons.inj h
    subst h2
    rw [← h1,Xu c h0]
end Go.G9
namespace Go.Proofs.YtlaaemmmbodaaaaGreatDoor
open Go.RowKit Go.G9
theorem ans {c:UInt8} {s a:ByteArray} (h:iZ c s= [a]):a= s:=by
 unfold iZ at h
 obtain⟨u,hu⟩ :∃u,ko c s.data.toList= [u]:=by
  match aV:ko c s.data.toList,h with
  | [u],_=>exact⟨u,rfl⟩
 rw [hu] at h
 have h1:=(List.cons.inj h).1
 rw [← h1,Xu c hu,Gv]
theorem Gm {m:cw} {a:nk} (h4:a.kind≠4) (h7:a.kind≠7):qQ m a= nc m a (⟨#[111,107]⟩ :ByteArray):=by
 unfold qQ nc
 cases gC m a with
 | none=>rfl
 | some n=>simp only [oI,if_neg h4,if_neg h7]
theorem GH {m:cw} {w:ByteArray} {r:List ByteArray} (h:∀p,lD (ev w)= some p→r.length≠p.size):jk m (w ::r)= (m,(⟨#[63]⟩ :ByteArray)):=by
 cases aN:lD (ev w) with
 | none=>exact aek aN
 | some p=>exact aei aN (h p aN)
theorem Ig {i:Nat} {p:ByteArray} (h:lD i= some p):(i≤6∧p.size= 0)∨(7≤i∧i≤12∧p.size= 1)∨(i= 13∧p.size= 2)∨(i= 14∧p.size= 3):=by
 unfold lD at h
 split at h <;> first | (cases h;done) | (injection h with h;subst h;first | exact Or.inl ⟨by decide,rfl⟩ | exact Or.inr (Or.inl ⟨by decide,by decide,rfl⟩) | exact Or.inr (Or.inr (Or.inl ⟨rfl,rfl⟩)) | exact Or.inr (Or.inr (Or.inr ⟨rfl,rfl⟩)))
theorem IX {p:Prop} (h:p:=by
 rw [Rn (p:=⟨#[]⟩) (l:=[]) (by rw [h];rfl) (Im _) (by rw [h];rfl) rfl,h];rfl):p:=h
theorem aed (m:cw) (w:ByteArray):jk m [w]= sD m (ev w):=by
 have hw:=Da w
 have no:7≤ev w→jk m [w]= sD m (ev w):=fun h7=>by
  rw [GH (fun p aN e=>by rcases Ig aN with h | h | h | h <;> simp at e <;> omega),XU] <;> omega
 rcases HT hw with h | h | h | h | h | h | h | h | h | h | h | h | h | h | h | h
 ·rw [AJ (p:=⟨#[]⟩) (l:=[]) (a:=⟨4,0,0,0,0,0⟩) (by rw [h];rfl) (Im _) (by rw [h];rfl),h];rfl
 ·rw [AJ (p:=⟨#[]⟩) (l:=[]) (a:=⟨6,0,0,0,0,0⟩) (by rw [h];rfl) (Im _) (by rw [h];rfl),h];exact Gm (by decide) (by decide)
 ·rw [AJ (p:=⟨#[]⟩) (l:=[]) (a:=⟨9,0,0,0,0,0⟩) (by rw [h];rfl) (Im _) (by rw [h];rfl),h];exact Gm (by decide) (by decide)
 ·exact IX
 ·exact IX
 ·exact IX
 ·exact IX
 all_goals exact no (by omega)
theorem aee (m:cw) (w x:ByteArray):jk m [w,x]= if eV x then rz m (ev w) (hh x.data.toList) else (m,(⟨#[63]⟩ :ByteArray)):=by
 have hw:=Da w
 have no:¬(7≤ev w∧ev w≤12)→jk m [w,x]= if eV x then rz m (ev w) (hh x.data.toList) else (m,(⟨#[63]⟩ :ByteArray)):=fun h7=>by
  rw [GH (fun p aN e=>by rcases Ig aN with h | h | h | h <;> simp at e <;> omega),Vq]
  ·simp
  all_goals omega
 have one:=akK m.cx x
 have bad:lD (ev w)= some (⟨#[110]⟩ :ByteArray)→eV x= false→jk m [w,x]= if eV x then rz m (ev w) (hh x.data.toList) else (m,(⟨#[63]⟩ :ByteArray)):=fun aN aw=>by
  rw [aw] at one ⊢
  exact GI aN one
 have act:∀a:Int→nk,lD (ev w)= some (⟨#[110]⟩ :ByteArray)→(∀n,qP (ev w) [n]= some (a n))→(∀n,(a n).kind≠4)→(∀n,(a n).kind≠7)→(∀n,rz m (ev w) n= nc m (a n) (⟨#[111,107]⟩ :ByteArray))→jk m [w,x]= if eV x then rz m (ev w) (hh x.data.toList) else (m,(⟨#[63]⟩ :ByteArray)):=fun a aN cS h4 h7 aY=>by
  cases aw:eV x
  ·have:=bad aN aw;rwa [aw] at this
  ·rw [aw] at one
   rw [if_pos rfl,AJ aN one (cS _),aY]
   exact Gm (h4 _) (h7 _)
 have ask:lD (ev w)= some (⟨#[110]⟩ :ByteArray)→(∀n,qP (ev w) [n]= none)→(∀n,rz m (ev w) n= (m,(jG m (ev w) [n]).getD (⟨#[63]⟩ :ByteArray)))→jk m [w,x]= if eV x then rz m (ev w) (hh x.data.toList) else (m,(⟨#[63]⟩ :ByteArray)):=fun aN cS aY=>by
  cases aw:eV x
  ·have:=bad aN aw;rwa [aw] at this
  ·rw [aw] at one
   rw [if_pos rfl,Rn aN one (cS _) rfl,aY]
 rcases HT hw with h | h | h | h | h | h | h | h | h | h | h | h | h | h | h | h
 all_goals first
  | exact no (by omega)
  | exact act (fun n=>⟨2,n,0,0,0,0⟩) (by rw [h];rfl) (fun n=>by rw [h];rfl) (fun _=>(by decide:(2:Int)≠4)) (fun _=>(by decide:(2:Int)≠7)) (fun n=>by rw [h];rfl)
  | exact act (fun n=>⟨3,n,0,0,0,0⟩) (by rw [h];rfl) (fun n=>by rw [h];rfl) (fun _=>(by decide:(3:Int)≠4)) (fun _=>(by decide:(3:Int)≠7)) (fun n=>by rw [h];rfl)
  | exact act (fun n=>⟨5,0,n,0,0,0⟩) (by rw [h];rfl) (fun n=>by rw [h];rfl) (fun _=>(by decide:(5:Int)≠4)) (fun _=>(by decide:(5:Int)≠7)) (fun n=>by rw [h];rfl)
  | exact act (fun n=>⟨8,n,0,0,0,0⟩) (by rw [h];rfl) (fun n=>by rw [h];rfl) (fun _=>(by decide:(8:Int)≠4)) (fun _=>(by decide:(8:Int)≠7)) (fun n=>by rw [h];rfl)
  | exact ask (by rw [h];rfl) (fun n=>by rw [h];rfl) (fun n=>by rw [h];rfl)
theorem ZA {p:Prop} (h:p:=by
 rw [if_neg h]
 exact GH (fun p aN e=>by rcases Ig aN with h | h | h | h <;> simp at e <;> omega)):p:=h
theorem aef (m:cw) (w x y:ByteArray):jk m [w,x,y]= if ev w= 13 then BC m x y else (m,(⟨#[63]⟩ :ByteArray)):=by
 by_cases h:ev w= 13
 ·rw [if_pos h]
  have two:=akM m.cx x y
  unfold BC
  cases hf:sX m.cx x with
  | none=>rw [hf] at two;rw [GI (p:=(⟨#[114,110]⟩ :ByteArray)) (by rw [h];rfl) two];rfl
  | some r=>
   rw [hf] at two
   cases hy:eV y
   ·rw [hy] at two;rw [GI (p:=(⟨#[114,110]⟩ :ByteArray)) (by rw [h];rfl) two];rfl
   ·rw [hy] at two
    rw [Vg,AJ (p:=(⟨#[114,110]⟩ :ByteArray)) (l:=[r.id,hh y.data.toList]) (by rw [h];rfl) two (by rw [h];rfl)]
    exact Gm (show (1:Int)≠4 by decide) (show (1:Int)≠7 by decide)
 ·exact ZA
theorem aeg (m:cw) (w x y z:ByteArray):jk m [w,x,y,z]= if ev w= 14 then zX m x y z else (m,(⟨#[63]⟩ :ByteArray)):=by
 by_cases h:ev w= 14
 ·rw [if_pos h]
  have three:=akL m.cx x y z
  unfold zX
  cases ax:(eV x && (eV y && eV z))
  ·rw [ax] at three;rw [GI (p:=(⟨#[110,110,110]⟩ :ByteArray)) (by rw [h];rfl) three];rfl
  ·rw [ax] at three
   exact AJ (p:=(⟨#[110,110,110]⟩ :ByteArray)) (l:=[hh x.data.toList,hh y.data.toList,hh z.data.toList]) (by rw [h];rfl) three (by rw [h];rfl)
 ·exact ZA
theorem aeh (m:cw) (w:ByteArray) (r:List ByteArray) (h:4≤r.length):jk m (w ::r)= (m,(⟨#[63]⟩ :ByteArray)):=GH (fun p aN e=>by rcases Ig aN with h | h | h | h <;> omega)
theorem aeE {ws:List ByteArray} (h:ws≠[]):(∃a,ws= [a])∨(∃a b,ws= [a,b])∨(∃a b c,ws= [a,b,c])∨(∃a b c d,ws= [a,b,c,d])∨(∃a r,ws= a ::r∧4≤r.length):=
 match ws,h with
 | [a],_=>Or.inl ⟨a,rfl⟩
 | [a,b],_=>Or.inr (Or.inl ⟨a,b,rfl⟩)
 | [a,b,c],_=>Or.inr (Or.inr (Or.inl ⟨a,b,c,rfl⟩))
 | [a,b,c,d],_=>Or.inr (Or.inr (Or.inr (Or.inl ⟨a,b,c,d,rfl⟩)))
 | a ::b ::c ::d ::e ::r,_=>Or.inr (Or.inr (Or.inr (Or.inr ⟨a,b ::c ::d ::e ::r,rfl,by simp⟩)))
open Go.RowKit Go.G9
theorem aao {p:Prop} (h:p:=by
 have z0:=bK.bX
 refine bodyPost_ret (v:= .tuple #[.agg #[.slice cy df e0,.slice cv dr e1,dE,dD,dw,.slice cU bP e2,.slice cV bS e3,.slice cA de e4,cg,cj,cf],lq]) (by simp [results,Tryz.results61,go_sem,z0]) rfl ?_
 exact⟨⟨df,dr,dE,dD,dw,bP,bS,de,cy,e0,cv,e1,cU,e2,cV,e3,cA,e4,_,rfl,J (mI.out.trans cW.out),fA⟩,et⟩):p:=h
theorem aan {p:Prop} (h:p:=by
 clear aE
 have z0:=bK.bX
 refine bodyPost_ret (v:= .tuple #[.agg #[.slice aq rs c0,.slice ar qs av,ag,af,sp,.slice an ws c2,.slice ao ad c3,.slice aA os c4,cg,cj,cf],.string (⟨#[63]⟩ :ByteArray)]) (by simp [results,Tryz.results61,go_sem,z0]) rfl ?_
 exact⟨⟨rs,qs,ag,af,sp,ws,ad,os,aq,c0,ar,av,an,c2,ao,c3,aA,c4,_,rfl,J (mI.out),fA⟩,et⟩):p:=h
theorem aaS {p:Prop} (h:p:=by
 rintro e dB ⟨⟨df,dr,dE,dD,dw,bP,bS,de,cy,e0,cv,e1,cU,e2,cV,e3,cA,e4,lq,rfl,cW,ht⟩,eD⟩
 have jE:=J ht;clear ht;have la:=aj gH eD;have kj:=mU.to eD;have pd:=(eD.cell (p:=⟨kJ,_,none⟩) Ev).trans dZ
 go_wp2
 refine gw ((cO.out _).2 ⟨pd,kj⟩) (dv _ _ ?_)
 refine gr fun fT dv=>?_
 change wpQuiet _ _ _ _ (_ ::_ ::[]) _
 repeat (go_big_quiet_step (fail))
 refine wpQuiet_nil ?_
 change wpList _ _ _ (_ ::[]) _ _
 have dh:=J (lv.out.ae eD lv.out.lt);have ak:=dh.out.bX;have ep:=dh.out.gX;have hp:=dh.out.lt
 go_wp2
 clear ak ep hp
 refine hk 0 fun cD aE=>?_
 have dR:=aE.dV kj;have bK:=aE.hP dh.out;have fA:=jE.out.gO dh.out aE.fC;have et:=aE.aH la;have Br:=aE.fC.cell pd (by simpa using wN.out)
 clear aE
 refine gw ((cO.out _).2 ⟨Br,dR⟩) (dv _ _ ?_)
 refine kD ?_
 change wpQuiet _ _ _ _ (_ ::[]) _
 repeat (go_big_quiet_step (fail))
 refine wpQuiet_nil ?_
 clear dd dT dN eg eh fE fF fG fH fI fD u0
 go_wp2
 have z0:=bK.bX
 refine bodyPost_ret (v:= .tuple #[.agg #[.slice cy df e0,.slice cv dr e1,dE,dD,dw,.slice cU bP e2,.slice cV bS e3,.slice cA de e4,cg,cj,cf],lq]) (by simp [results,Tryz.results61,go_sem,z0]) rfl ?_
 exact⟨⟨df,dr,dE,dD,dw,bP,bS,de,cy,e0,cv,e1,cU,e2,cV,e3,cA,e4,_,rfl,J (mI.out.trans cW.out),fA⟩,et⟩):p:=h
theorem ZZ {p:Prop} (h:p:=by
 have cE:=ee.out.ae jP ee.out.lt;have dh:=J cE;have ak:=cE.bX;have ep:=cE.gX;have hp:=cE.lt;clear cE
 go_wp2
 clear ak ep hp bF g0
 refine hk 0 fun cD aE=>?_
 have bK:=aE.hP dh.out;have fA:=(hs.out).gO dh.out aE.fC;have et:=aE.aH gJ;clear aE
 have z0:=bK.bX
 refine bodyPost_ret (v:= .tuple #[.agg #[.slice aq rs c0,.slice ar qs av,ag,af,sp,.slice an ws c2,.slice ao ad c3,.slice aA os c4,cg,cj,cf],.string (⟨#[63]⟩ :ByteArray)]) (by simp [results,Tryz.results61,go_sem,z0]) rfl ?_
 exact⟨⟨rs,qs,ag,af,sp,ws,ad,os,aq,c0,ar,av,an,c2,ao,c3,aA,c4,_,rfl,J (mI.out),fA⟩,et⟩):p:=h
theorem ajk (B:Nat) (aq ar an ao aA:Option Addr) (c0 av c2 c3 c4:Nat) (rs:List aK) (qs:List aQ) (ag af sp:Int) (ws:List Int) (ad:List aO) (os:List Out) (cg cj:ByteArray) (cf:Int) (h:gR ⟨rs,qs,ag,af,sp,ws,ad,os⟩) (l:ByteArray) (aT:l.size≤1000) (w:World) (mS:B≤w.heap.size) (bM:fP B w aq c0 ar av an c2 ao c3 aA c4 rs qs ws ad os):
 Calls Tryz.prog 61 #[.agg #[.slice aq rs c0,.slice ar qs av,ag,af,sp,.slice an ws c2,.slice ao ad c3,.slice aA os c4,cg,cj,cf],l] w fun e ah=>Ax B cg cj cf (jk ⟨rs,qs,ag,af,sp,ws,ad,os⟩ (iZ 32 l)) e ah∧Below w w ah:=by
 have wQ:=J (fun W=>ajd l 32 (by omega) W);have sL:=J (show∀x ∈ iZ 32 l,x.size≤1048576 from fun x aw=>by have:=Xr aw;omega);have nH:=J (Xt 32 l);have Ak:=J (show∀a,iZ 32 l= [a]→a= l from fun a h=>ans h);have aqn:=Xq 32 l
 generalize iZ 32 l= fS at *
 have ir:=J h;have dm:=J bM;clear h bM
 go_in
 go_upto_region 1 with fail
 refine fe fun aG au aR U=>?_
 have I:=au
 obtain⟨dd,dT,dN,eg,eh,fE,fF,fG,fH,fI,fD⟩:=aR.bX
 obtain⟨z0,bW,z2,z3,z4,z5,eO,gG,gW,z9,hc⟩:=U.bX;have ee:=J U;have fw:=J aR;have pc:=aR.lt
 have rq:=U.lt;have iM:=J (dm.out.bm I);clear z0 bW z2 z3 z4 z5 eO gG gW z9 hc U aR dm dd dT dN eg eh fE fF fG fH fI fD pc
 go_wp2_with fail
 refine (wQ.out _).mono ?_
 rintro e aJ ⟨A,n,rfl,Av,jP⟩
 have gJ:=aj I jP
 have uv:B≤aJ.heap.size:=by have:=gJ.size;omega
 have hs:=J (iM.out.bm jP);have ug:=J (fw.out.ae jP fw.out.lt);have Gb:=J (ee.out.ae jP ee.out.lt);have bF:=ug.out.bX;have tE:=ug.out.lt;have uD:0 < fS.length:=List.length_pos_iff.2 nH.out;have rf:=ph Av jZ
 obtain⟨kJ,uJ,a,rfl,nR,cS,Sw⟩:=(Av.hj (hf:=jZ)).at_ (Below.refl _ _) (k:=0) uD
 have g0:=Sw 0 _ rfl (ay.self _)
 simp only [Nat.zero_mul,Nat.add_zero,ay.self] at g0
 have wN:=J (show kJ≠w.heap.size + 1 by have:=(Av.lt kJ (Vz Av uD)).1;omega);have gx:=J (Av.hj (hf:=jZ));have cC:=AH a
 obtain⟨-,-,-,-,-,-,-,-,-,-,-,-,-,f13,f14⟩:=cC
 clear Sw Av rq
 go_upto_region 2 with fail
 rcases aeE nH.out with ⟨a',e⟩ | ⟨a',b,e⟩ | ⟨a',b,c,e⟩ | ⟨a',b,c,d,e⟩ | ⟨a',r,e,bp⟩
 ·skip
  obtain rfl:a= a':=by rw [e] at cS;exact (Option.some.inj cS).symm
  have mI:=J (show jk ⟨rs,qs,ag,af,sp,ws,ad,os⟩ fS= sD ⟨rs,qs,ag,af,sp,ws,ad,os⟩ (ev a) by rw [e];exact aed _ _)
  have hlen:fS.length= 1:=by rw [e];rfl
  obtain rfl:a= l:=Ak.out a e
  clear nH Ak sL wQ e cS uD
  rw [hlen]
  rw [hlen] at rf
  clear f13 f14 rf
  go_wp2_with fail
  refine (ajm B aq ar an ao aA c0 av c2 c3 c4 rs qs ag af sp ws ad os cg cj cf ir.out a _ uv hs.out).mono ?_
  rintro e dB ⟨⟨df,dr,dE,dD,dw,bP,bS,de,cy,e0,cv,e1,cU,e2,cV,e3,cA,e4,lq,rfl,cW,ht⟩,eD⟩
  have jE:=J ht;clear ht;have kj:=aj jP eD;have la:=aj gJ eD;have cE:=ee.out.ae kj ee.out.lt;have dh:=J cE;have ak:=cE.bX;have ep:=cE.gX;have hp:=cE.lt;clear cE
  go_wp2
  clear ak ep hp bF g0
  refine hk 0 fun cD aE=>?_
  have bK:=aE.hP dh.out;have fA:=(jE.out).gO dh.out aE.fC;have et:=aE.aH la;clear aE
  exact aao
 ·skip
  obtain rfl:a= a':=by rw [e] at cS;exact (Option.some.inj cS).symm
  have mI:=J (show jk ⟨rs,qs,ag,af,sp,ws,ad,os⟩ fS= if eV b then rz ⟨rs,qs,ag,af,sp,ws,ad,os⟩ (ev a) (hh b.data.toList) else (⟨rs,qs,ag,af,sp,ws,ad,os⟩,(⟨#[63]⟩ :ByteArray)) by rw [e];exact aee _ _ _)
  have hlen:fS.length= 2:=by rw [e];rfl
  have DY:=sL.out b (by rw [e];simp)
  obtain⟨dF,iz,a1,e1,-,yK,gL⟩:=gx.out.at_ (Below.refl _ _) (k:=1) (by rw [hlen];decide)
  cases e1
  obtain rfl:b= a1:=by rw [e] at yK;exact Option.some.inj yK
  have g1:=gL 0 _ rfl (ay.self _)
  simp only [Nat.mul_one,Nat.add_zero,ay.self] at g1
  clear gL yK;clear nH Ak sL wQ e cS uD
  rw [hlen]
  rw [hlen] at rf
  obtain⟨v,iT,sg,xu,zg⟩:=Fb b
  have Cv:=J (fun W=>Fj b DY v iT xu W)
  rw [sg] at mI
  generalize (ev a == 13)= zK at *
  go_upto_region 4 with fail
  go_cut [20] (fun v W=>v= .bool false∧aJ= W)
  case first=>
   cases zK
   all_goals
    go_wp2
    go_meet
    exact⟨rfl,rfl⟩
  case' rest=>
   obtain⟨rfl,tD⟩:=hcut
   subst tD
  generalize (ev a == 14)= rB at *
  go_upto_region 6 with fail
  go_cut [40] (fun v W=>v= .bool false∧aJ= W)
  case first=>
   cases rB
   all_goals
    go_wp2
    go_meet
    exact⟨rfl,rfl⟩
  case' rest=>
   obtain⟨rfl,tD⟩:=hcut
   subst tD
  go_wp2_with fail
  refine (Cv.out _).mono ?_
  rintro e bB ⟨rfl,bx⟩
  have hW:=aj gJ bx;have gl:=aj jP bx;have ji:=J (hs.out.bm bx);have CC:=J (ug.out.ae bx ug.out.lt);have acI:=J (Gb.out.ae bx Gb.out.lt);have h0:=(bx.cell (p:=⟨kJ,_,none⟩) nR).trans g0;clear g0 g1 bF tE;have bF:=CC.out.bX;have tE:=CC.out.lt;have g0:=h0;replace nR:kJ < bB.heap.size:=Nat.lt_of_lt_of_le nR bx.size;clear h0
  cases iT
  ·skip
   have cE:=ee.out.ae gl ee.out.lt;have dh:=J cE;have ak:=cE.bX;have ep:=cE.gX;have hp:=cE.lt;clear cE
   go_wp2
   clear ak ep hp bF g0
   refine hk 0 fun cD aE=>?_
   have bK:=aE.hP dh.out;have fA:=(ji.out).gO dh.out aE.fC;have et:=aE.aH hW
   exact aan
  ·obtain rfl:=zg rfl
   go_upto_region 13 with fail
   obtain⟨en,gj⟩ :∃X:World→Prop,∀V,X V↔V.cell? ⟨kJ,uJ,none⟩ =some (.string a)∧aB V (w.heap.size) 46 #[.slice aq rs c0,.slice ar qs av,ag,af,sp,.slice an ws c2,.slice ao ad c3,.slice aA os c4,cg,cj,cf]:=⟨_,fun _=>Iff.rfl⟩
   have cO:=J gj;clear gj;have iv:=(cO.out bB).2 ⟨g0,CC.out⟩
   haveI:Nonempty (cH en):=⟨⟨bB,iv⟩⟩
   refine nh en [([0,1,2,3,4],5),([6,7],8)] [9] (by kernel_rfl) (by kernel_rfl) ((cO.out _).2 ⟨g0,CC.out⟩) ?_
   clear bF tE
   obtain⟨dd,dT,dN,eg,eh,fE,fF,fG,fH,fI,fD⟩:=aB.qf (fun K:cH en=>((cO.out _).1 K.holds).2)
   have u0:=fun K:cH en=>((cO.out _).1 K.holds).1
   have gH:Below w w bB.drew:=aj hW (Below.refl _ _).drew;have Jn:=(Below.refl bB.heap.size bB).drew;have dZ:bB.drew.cell? ⟨kJ,uJ,none⟩ =some (.string a):=g0;clear g0;have xj:=CC.out;have mU:aB bB.drew (w.heap.size) 46 #[.slice aq rs c0,.slice ar qs av,ag,af,sp,.slice an ws c2,.slice ao ad c3,.slice aA os c4,cg,cj,cf]:=xj
   have xk:=acI.out;have lv:Hid (aB bB.drew (w.heap.size + 1) 46 #[.slice none 0 0,.slice none 0 0,(0:Int),(0:Int),(0:Int),.slice none 0 0,.slice none 0 0,.slice none 0 0,.string ⟨#[]⟩,.string ⟨#[]⟩,(0:Int)]):=J xk;have nr:=J (ji.out.bm (Below.refl _ _).drew);have Ev:kJ < bB.drew.heap.size:=nR;clear xj xk nR iv
   generalize bB.drew= wd at *
   refine gr fun fT dv=>?_
   change wpQuiet _ _ _ _ (_ ::_ ::_ ::_ ::_ ::[]) _
   repeat (go_big_quiet_step (fail))
   refine wpQuiet_nil ?_
   change wpList _ _ _ (_ ::[]) _ _
   go_wp2_with fail
   refine (ajj B aq ar an ao aA c0 av c2 c3 c4 rs qs ag af sp ws ad os cg cj cf ir.out a _ _ (by have:=gH.size;omega) nr.out).mono ?_
   exact aaS
 ·skip
  obtain rfl:a= a':=by rw [e] at cS;exact (Option.some.inj cS).symm
  have mI:=J (show jk ⟨rs,qs,ag,af,sp,ws,ad,os⟩ fS= if (ev a == 13) then BC ⟨rs,qs,ag,af,sp,ws,ad,os⟩ b c else (⟨rs,qs,ag,af,sp,ws,ad,os⟩,(⟨#[63]⟩ :ByteArray)) by rw [e,aef];simp only [beq_iff_eq])
  have hlen:fS.length= 3:=by rw [e];rfl
  have DY:=sL.out b (by rw [e];simp);have oW:=sL.out c (by rw [e];simp)
  obtain⟨dF,iz,a1,e1,-,yK,gL⟩:=gx.out.at_ (Below.refl _ _) (k:=1) (by rw [hlen];decide)
  cases e1
  obtain rfl:b= a1:=by rw [e] at yK;exact Option.some.inj yK
  have g1:=gL 0 _ rfl (ay.self _)
  simp only [Nat.mul_one,Nat.add_zero,ay.self] at g1
  clear gL yK
  obtain⟨dJ,fi,a2,e2,-,Lu,jn⟩:=gx.out.at_ (Below.refl _ _) (k:=2) (by rw [hlen];decide)
  cases e2
  obtain rfl:c= a2:=by rw [e] at Lu;exact Option.some.inj Lu
  have g2:=jn 0 _ rfl (ay.self _)
  simp only [Nat.mul_one,Nat.add_zero,ay.self] at g2
  clear jn Lu;clear nH Ak sL wQ e cS uD
  rw [hlen]
  rw [hlen] at rf
  generalize (ev a == 13)= zK at *
  go_upto_region 4 with fail
  cases zK
  ·skip
   generalize (ev a == 14)= rB at *
   go_upto_region 6 with fail
   go_cut [40] (fun v W=>v= .bool false∧aJ= W)
   case first=>
    cases rB
    all_goals
     go_wp2
     go_meet
     exact⟨rfl,rfl⟩
   case' rest=>
    obtain⟨rfl,tD⟩:=hcut
    subst tD
   have cE:=ee.out.ae jP ee.out.lt;have dh:=J cE;have ak:=cE.bX;have ep:=cE.gX;have hp:=cE.lt;clear cE
   go_wp2
   clear ak ep hp bF g0 g1 g2
   refine hk 0 fun cD aE=>?_
   have bK:=aE.hP dh.out;have fA:=(hs.out).gO dh.out aE.fC;have et:=aE.aH gJ
   exact aan
  ·go_upto_region 5 with fail
   clear g0
   obtain⟨en,gj⟩ :∃X:World→Prop,∀V,X V↔V.cell? ⟨kJ,uJ + 1,none⟩ =some (.string b)∧V.cell? ⟨kJ,uJ + 2,none⟩ =some (.string c)∧aB V (w.heap.size) 46 #[.slice aq rs c0,.slice ar qs av,ag,af,sp,.slice an ws c2,.slice ao ad c3,.slice aA os c4,cg,cj,cf]:=⟨_,fun _=>Iff.rfl⟩
   have cO:=J gj;clear gj;have iv:=(cO.out aJ).2 ⟨g1,g2,ug.out⟩
   haveI:Nonempty (cH en):=⟨⟨aJ,iv⟩⟩
   refine nh en [([0,1,2,3,4,5,6],7),([8,9],10)] [11] (by kernel_rfl) (by kernel_rfl) ((cO.out _).2 ⟨g1,g2,ug.out⟩) ?_
   clear bF tE
   obtain⟨dd,dT,dN,eg,eh,fE,fF,fG,fH,fI,fD⟩:=aB.qf (fun K:cH en=>((cO.out _).1 K.holds).2.2)
   have u0:=fun K:cH en=>((cO.out _).1 K.holds).1
   have u1:=fun K:cH en=>((cO.out _).1 K.holds).2.1
   have gH:Below w w aJ.drew:=aj gJ (Below.refl _ _).drew;have Jn:=(Below.refl aJ.heap.size aJ).drew;have dZ:aJ.drew.cell? ⟨kJ,uJ + 1,none⟩ =some (.string b):=g1;have eI:aJ.drew.cell? ⟨kJ,uJ + 2,none⟩ =some (.string c):=g2;clear g1 g2;have xj:=ug.out;have mU:aB aJ.drew (w.heap.size) 46 #[.slice aq rs c0,.slice ar qs av,ag,af,sp,.slice an ws c2,.slice ao ad c3,.slice aA os c4,cg,cj,cf]:=xj
   have xk:=Gb.out;have lv:Hid (aB aJ.drew (w.heap.size + 1) 46 #[.slice none 0 0,.slice none 0 0,(0:Int),(0:Int),(0:Int),.slice none 0 0,.slice none 0 0,.slice none 0 0,.string ⟨#[]⟩,.string ⟨#[]⟩,(0:Int)]):=J xk;have nr:=J (hs.out.bm (Below.refl _ _).drew);have Ev:kJ < aJ.drew.heap.size:=nR;clear xj xk nR iv
   generalize aJ.drew= wd at *
   refine gr fun fT dv=>?_
   change wpQuiet _ _ _ _ (_ ::_ ::_ ::_ ::_ ::_ ::_ ::[]) _
   repeat (go_big_quiet_step (fail))
   refine wpQuiet_nil ?_
   change wpList _ _ _ (_ ::[]) _ _
   go_wp2_with fail
   refine (aji B aq ar an ao aA c0 av c2 c3 c4 rs qs ag af sp ws ad os cg cj cf ir.out b c oW _ (by have:=gH.size;omega) nr.out).mono ?_
   rintro e dB ⟨⟨df,dr,dE,dD,dw,bP,bS,de,cy,e0,cv,e1,cU,e2,cV,e3,cA,e4,lq,rfl,cW,ht⟩,eD⟩
   have jE:=J ht;clear ht;have la:=aj gH eD;have kj:=mU.to eD;have pd:=(eD.cell (p:=⟨kJ,_,none⟩) Ev).trans dZ;have nA:=(eD.cell (p:=⟨kJ,_,none⟩) Ev).trans eI
   go_wp2
   refine gw ((cO.out _).2 ⟨pd,nA,kj⟩) (dv _ _ ?_)
   refine gr fun fT dv=>?_
   change wpQuiet _ _ _ _ (_ ::_ ::[]) _
   repeat (go_big_quiet_step (fail))
   refine wpQuiet_nil ?_
   change wpList _ _ _ (_ ::[]) _ _
   have dh:=J (lv.out.ae eD lv.out.lt);have ak:=dh.out.bX;have ep:=dh.out.gX;have hp:=dh.out.lt
   go_wp2
   clear ak ep hp
   refine hk 0 fun cD aE=>?_
   have dR:=aE.dV kj;have bK:=aE.hP dh.out;have fA:=jE.out.gO dh.out aE.fC;have et:=aE.aH la;have Br:=aE.fC.cell pd (by simpa using wN.out)
   have aiS:=aE.fC.cell nA (by simpa using wN.out);clear aE
   refine gw ((cO.out _).2 ⟨Br,aiS,dR⟩) (dv _ _ ?_)
   refine kD ?_
   change wpQuiet _ _ _ _ (_ ::[]) _
   repeat (go_big_quiet_step (fail))
   refine wpQuiet_nil ?_
   clear dd dT dN eg eh fE fF fG fH fI fD u0 u1
   go_wp2
   exact aao
 ·skip
  obtain rfl:a= a':=by rw [e] at cS;exact (Option.some.inj cS).symm
  have mI:=J (show jk ⟨rs,qs,ag,af,sp,ws,ad,os⟩ fS= if (ev a == 14) then zX ⟨rs,qs,ag,af,sp,ws,ad,os⟩ b c d else (⟨rs,qs,ag,af,sp,ws,ad,os⟩,(⟨#[63]⟩ :ByteArray)) by rw [e,aeg];simp only [beq_iff_eq])
  have hlen:fS.length= 4:=by rw [e];rfl
  have DY:=sL.out b (by rw [e];simp);have oW:=sL.out c (by rw [e];simp);have rh:=sL.out d (by rw [e];simp);have Ka:=gx.out
  rw [e] at Ka
  have acM:=J (Fe Ka 1);clear Ka;clear nH Ak sL wQ e cS uD
  rw [hlen]
  rw [hlen] at rf
  generalize (ev a == 14)= rB at *
  generalize (ev a == 13)= zK at *
  go_upto_region 4 with fail
  go_cut [20] (fun v W=>v= .bool false∧aJ= W)
  case first=>
   cases zK
   all_goals
    go_wp2
    go_meet
    exact⟨rfl,rfl⟩
  case' rest=>
   obtain⟨rfl,tD⟩:=hcut
   subst tD
  go_upto_region 6 with fail
  cases rB
  ·skip
   exact ZZ
  ·go_upto_region 7 with fail
   obtain⟨en,gj⟩ :∃X:World→Prop,∀V,X V↔V.cell? ⟨kJ,uJ,none⟩ =some (.string a)∧aB V (w.heap.size) 46 #[.slice aq rs c0,.slice ar qs av,ag,af,sp,.slice an ws c2,.slice ao ad c3,.slice aA os c4,cg,cj,cf]:=⟨_,fun _=>Iff.rfl⟩
   have cO:=J gj;clear gj;have iv:=(cO.out aJ).2 ⟨g0,ug.out⟩
   haveI:Nonempty (cH en):=⟨⟨aJ,iv⟩⟩
   refine nh en [([0,1,2],3),([4,5],6)] [7] (by kernel_rfl) (by kernel_rfl) ((cO.out _).2 ⟨g0,ug.out⟩) ?_
   clear bF tE
   obtain⟨dd,dT,dN,eg,eh,fE,fF,fG,fH,fI,fD⟩:=aB.qf (fun K:cH en=>((cO.out _).1 K.holds).2)
   have u0:=fun K:cH en=>((cO.out _).1 K.holds).1
   have gH:Below w w aJ.drew:=aj gJ (Below.refl _ _).drew;have Jn:=(Below.refl aJ.heap.size aJ).drew;have dZ:aJ.drew.cell? ⟨kJ,uJ,none⟩ =some (.string a):=g0;clear g0;have xj:=ug.out;have mU:aB aJ.drew (w.heap.size) 46 #[.slice aq rs c0,.slice ar qs av,ag,af,sp,.slice an ws c2,.slice ao ad c3,.slice aA os c4,cg,cj,cf]:=xj
   have xk:=Gb.out;have lv:Hid (aB aJ.drew (w.heap.size + 1) 46 #[.slice none 0 0,.slice none 0 0,(0:Int),(0:Int),(0:Int),.slice none 0 0,.slice none 0 0,.slice none 0 0,.string ⟨#[]⟩,.string ⟨#[]⟩,(0:Int)]):=J xk;have nr:=J (hs.out.bm (Below.refl _ _).drew);have Ev:kJ < aJ.drew.heap.size:=nR;clear xj xk nR iv
   generalize aJ.drew= wd at *
   refine gr fun fT dv=>?_
   change wpQuiet _ _ _ _ (_ ::_ ::_ ::[]) _
   repeat (go_big_quiet_step (fail))
   refine wpQuiet_nil ?_
   change wpList _ _ _ (_ ::[]) _ _
   go_wp2_with fail
   refine (ajl B aq ar an ao aA c0 av c2 c3 c4 rs qs ag af sp ws ad os cg cj cf ir.out (some ⟨kJ,uJ + 1,none⟩) _ b c d DY oW rh _ (by have:=gH.size;omega) nr.out (acM.out.ae (show Below aJ aJ wd from Jn))).mono ?_
   exact aaS
 ·skip
  obtain rfl:a= a':=by rw [e] at cS;exact (Option.some.inj cS).symm
  have mI:=J (show jk ⟨rs,qs,ag,af,sp,ws,ad,os⟩ fS= (⟨rs,qs,ag,af,sp,ws,ad,os⟩,(⟨#[63]⟩ :ByteArray)) by rw [e];exact aeh _ _ _ bp)
  have hlen:fS.length= r.length + 1:=by rw [e];rfl
  clear nH Ak sL wQ e cS uD
  obtain⟨Ib,agw⟩ :∃k,fS.length= k:=⟨_,rfl⟩
  rw [agw]
  have h1:((Ib:Int) == 1)= false:=by rw [beq_eq_false_iff_ne];omega
  have h2:((Ib:Int) == 3)= false:=by rw [beq_eq_false_iff_ne];omega
  have h3:((Ib:Int) == 4)= false:=by rw [beq_eq_false_iff_ne];omega
  have h4:((Ib:Int) != 2)= true:=by rw [bne_iff_ne];omega
  generalize (ev a == 13)= zK at *
  go_upto_region 4 with fail
  go_cut [20] (fun v W=>v= .bool false∧aJ= W)
  case first=>
   cases zK
   all_goals
    go_wp2
    go_meet
    exact⟨rfl,rfl⟩
  case' rest=>
   obtain⟨rfl,tD⟩:=hcut
   subst tD
  generalize (ev a == 14)= rB at *
  go_upto_region 6 with fail
  go_cut [40] (fun v W=>v= .bool false∧aJ= W)
  case first=>
   cases rB
   all_goals
    go_wp2
    go_meet
    exact⟨rfl,rfl⟩
  case' rest=>
   obtain⟨rfl,tD⟩:=hcut
   subst tD
  exact ZZ
open Go.RowKit Go.G9
theorem ame (aq ar an ao aA:Option Addr) (c0 av c2 c3 c4:Nat) (rs:List aK) (qs:List aQ) (ag af sp:Int) (ws:List Int) (ad:List aO) (os:List Out) (cg cj:ByteArray) (cf:Int) (Z:ei aq ar an ao aA c0 av c2 c3 c4 rs qs ws ad os) (ck:cg.size + cj.size≤1048576) (l:ByteArray) (aT:l.size≤1048576) (w:World) (R:dI w aq ar an ao aA rs qs ws ad os):
 Calls Tryz.prog 19 #[.agg #[.slice aq rs c0,.slice ar qs av,ag,af,sp,.slice an ws c2,.slice ao ad c3,.slice aA os c4,cg,cj,cf],l] w fun e ah=>∃(df:List aK) (dr:List aQ) (dE dD dw:Int) (bP:List Int) (bS:List aO) (de:List Out) (pF pW:ByteArray) (pB:Int) (cy:Option Addr) (e0:Nat) (cv:Option Addr) (e1:Nat) (cU:Option Addr) (e2:Nat) (cV:Option Addr) (e3:Nat) (cA:Option Addr) (e4:Nat) (y:ByteArray),e= .returned (.tuple #[.agg #[.slice cy df e0,.slice cv dr e1,dE,dD,dw,.slice cU bP e2,.slice cV bS e3,.slice cA de e4,pF,pW,pB],y])∧Hid ((oR (⟨rs,qs,ag,af,sp,ws,ad,os,cg,cj,cf⟩ :eY) l,qT (⟨rs,qs,ag,af,sp,ws,ad,os,cg,cj,cf⟩ :eY) l)= ((⟨df,dr,dE,dD,dw,bP,bS,de,pF,pW,pB⟩ :eY),y))∧fP w ah cy e0 cv e1 cU e2 cV e3 cA e4 df dr bP bS de∧Below w w ah:=by
 have dx:=J Z;clear Z
 cases aH:jd (⟨rs,qs,ag,af,sp,ws,ad,os,cg,cj,cf⟩ :eY)
 ·have bo:=J aH
  have cC:=J (QQ (l:=l) aH);clear aH
  go_in
  go_upto_region 1 with fail
  refine fe fun aG au aR U=>?_
  replace R:=R.ae au;have I:=au
  obtain⟨dd,dT,dN,eg,eh,fE,fF,fG,fH,fI,fD⟩:=aR.bX
  obtain⟨z0,bW,z2,z3,z4,z5,eO,gG,gW,z9,hc⟩:=U.bX;have hd:=J aR;have ee:=J U;have eL:=J R
  have pS:=I.size;clear z0 bW z2 z3 z4 z5 eO gG gW z9 hc aR U R
  go_wp2_with fail
  refine (ES aq ar an ao aA c0 av c2 c3 c4 rs qs ag af sp ws ad os cg cj cf dx.out aG eL.out).mono ?_
  rintro e aJ ⟨bQ,d0,cn,d1,aZ,d2,bk,d3,bR,d4,rfl,gb,jP⟩
  have iL:=J (gb.base (B':=w.heap.size) pS);clear gb dd dT dN eg eh fE fF fG fH fI fD
  go_upto_region 2 with fail
  obtain⟨so,km⟩ :∃b,b= aJ.heap.size:=⟨_,rfl⟩
  have pI:=aB.new aJ 46 #[.slice bQ rs d0,.slice cn qs d1,ag,af,sp,.slice aZ ws d2,.slice bk ad d3,.slice bR os d4,cg,cj,cf];have pL:Below aJ aJ (aJ.alloc (.cells #[.slice bQ rs d0,.slice cn qs d1,ag,af,sp,.slice aZ ws d2,.slice bk ad d3,.slice bR os d4,cg,cj,cf] 46)):=bT _ _
  rw [← km] at pI
  generalize aJ.alloc (.cells #[.slice bQ rs d0,.slice cn qs d1,ag,af,sp,.slice aZ ws d2,.slice bk ad d3,.slice bR os d4,cg,cj,cf] 46)= bB at *
  rw [← km]
  clear km;have gl:=aj jP pL;have yI:=aj I gl;have ji:=J (iL.out.bm pL);have qM:=J pI;have cQ:=J (eL.out.ae gl);have bF:=(hd.out.ae gl hd.out.lt).bX;clear pI pL jP
  go_wp2_with fail
  refine (HG (⟨rs,qs,ag,af,sp,ws,ad,os,cg,cj,cf⟩ :eY) aq ar an ao aA c0 av c2 c3 c4 dx.out.h0 dx.out.h1 dx.out.h2 dx.out.h3 dx.out.h4 ck _ bo.out bB cQ.out.fx cQ.out.dL cQ.out.r2 cQ.out.hG cQ.out.nV dx.out.dZ dx.out.eI dx.out.cp dx.out.ef dx.out.hY).mono ?_
  rintro e bU ⟨rfl,cY⟩
  have jl:=aj gl cY;have ux:=aj yI cY;have kp:=J (ji.out.bm cY);have ud:=J (qM.out.ae cY qM.out.lt);clear bF;have lQ:=ud.out.bX;have bK:=ee.out.ae jl ee.out.lt;have ak:=bK.bX;have ep:=bK.gX;have ja:=J bK;clear bK
  go_wp2
  clear ak ep lQ
  refine hk 0 fun cD aE=>?_
  have bK:=aE.hP ja.out;have fA:=kp.out.gO ja.out aE.fC;have et:=aE.aH ux;clear aE
  have z0:=bK.bX
  refine bodyPost_ret (v:= .tuple #[.agg #[.slice bQ rs d0,.slice cn qs d1,ag,af,sp,.slice aZ ws d2,.slice bk ad d3,.slice bR os d4,cg,cj,cf],.string (⟨#[110,111]⟩ :ByteArray)]) (by simp [results,Tryz.results19,go_sem,z0]) rfl ?_
  exact Ca
 ·have bo:=J aH
  obtain⟨rC,gB⟩ :∃b,kR l ⟨#[]⟩ =b:=⟨_,rfl⟩
  have yq:=J gB
  cases rC
  ·have cC:=J (QN aH gB)
   clear aH gB
   go_in
   go_upto_region 1 with fail
   refine fe fun aG au aR U=>?_
   replace R:=R.ae au;have I:=au
   obtain⟨dd,dT,dN,eg,eh,fE,fF,fG,fH,fI,fD⟩:=aR.bX
   obtain⟨z0,bW,z2,z3,z4,z5,eO,gG,gW,z9,hc⟩:=U.bX;have hd:=J aR;have ee:=J U;have eL:=J R
   have pS:=I.size;clear z0 bW z2 z3 z4 z5 eO gG gW z9 hc aR U R
   go_wp2_with fail
   refine (ES aq ar an ao aA c0 av c2 c3 c4 rs qs ag af sp ws ad os cg cj cf dx.out aG eL.out).mono ?_
   rintro e aJ ⟨bQ,d0,cn,d1,aZ,d2,bk,d3,bR,d4,rfl,gb,jP⟩
   have iL:=J (gb.base (B':=w.heap.size) pS);clear gb dd dT dN eg eh fE fF fG fH fI fD
   go_upto_region 2 with fail
   obtain⟨so,km⟩ :∃b,b= aJ.heap.size:=⟨_,rfl⟩
   have pI:=aB.new aJ 46 #[.slice bQ rs d0,.slice cn qs d1,ag,af,sp,.slice aZ ws d2,.slice bk ad d3,.slice bR os d4,cg,cj,cf];have pL:Below aJ aJ (aJ.alloc (.cells #[.slice bQ rs d0,.slice cn qs d1,ag,af,sp,.slice aZ ws d2,.slice bk ad d3,.slice bR os d4,cg,cj,cf] 46)):=bT _ _
   rw [← km] at pI
   generalize aJ.alloc (.cells #[.slice bQ rs d0,.slice cn qs d1,ag,af,sp,.slice aZ ws d2,.slice bk ad d3,.slice bR os d4,cg,cj,cf] 46)= bB at *
   rw [← km]
   clear km;have gl:=aj jP pL;have yI:=aj I gl;have ji:=J (iL.out.bm pL);have qM:=J pI;have cQ:=J (eL.out.ae gl);have bF:=(hd.out.ae gl hd.out.lt).bX;clear pI pL jP
   go_wp2_with fail
   refine (HG (⟨rs,qs,ag,af,sp,ws,ad,os,cg,cj,cf⟩ :eY) aq ar an ao aA c0 av c2 c3 c4 dx.out.h0 dx.out.h1 dx.out.h2 dx.out.h3 dx.out.h4 ck _ bo.out bB cQ.out.fx cQ.out.dL cQ.out.r2 cQ.out.hG cQ.out.nV dx.out.dZ dx.out.eI dx.out.cp dx.out.ef dx.out.hY).mono ?_
   rintro e bU ⟨rfl,cY⟩
   have jl:=aj gl cY;have ux:=aj yI cY;have kp:=J (ji.out.bm cY);have ud:=J (qM.out.ae cY qM.out.lt);clear bF
   go_wp2_with fail
   refine (zt l ⟨#[]⟩ aT (Nat.zero_le _) _ yq.out bU).mono ?_
   rintro e dB ⟨rfl,eD⟩
   have kj:=aj jl eD;have AV:=aj ux eD;have lY:=J (kp.out.bm eD);have yo:=J (ud.out.ae eD ud.out.lt);have lQ:=yo.out.bX;have bK:=ee.out.ae kj ee.out.lt;have ak:=bK.bX;have ep:=bK.gX;have ja:=J bK;clear bK
   go_wp2
   clear ak ep lQ
   refine hk 0 fun cD aE=>?_
   have bK:=aE.hP ja.out;have fA:=lY.out.gO ja.out aE.fC;have et:=aE.aH AV;clear aE
   have z0:=bK.bX
   refine bodyPost_ret (v:= .tuple #[.agg #[.slice bQ rs d0,.slice cn qs d1,ag,af,sp,.slice aZ ws d2,.slice bk ad d3,.slice bR os d4,cg,cj,cf],.string (⟨#[98,97,100]⟩ :ByteArray)]) (by simp [results,Tryz.results19,go_sem,z0]) rfl ?_
   exact Ca
  ·obtain⟨KA,vN⟩ :∃b,(cf == 60)= b:=⟨_,rfl⟩
   cases KA
   rotate_left
   ·have cC:=J (QO aH gB vN)
    clear aH gB
    go_in
    go_upto_region 1 with fail
    refine fe fun aG au aR U=>?_
    replace R:=R.ae au;have I:=au
    obtain⟨dd,dT,dN,eg,eh,fE,fF,fG,fH,fI,fD⟩:=aR.bX
    obtain⟨z0,bW,z2,z3,z4,z5,eO,gG,gW,z9,hc⟩:=U.bX;have hd:=J aR;have ee:=J U;have eL:=J R
    have pS:=I.size;clear z0 bW z2 z3 z4 z5 eO gG gW z9 hc aR U R
    go_wp2_with fail
    refine (ES aq ar an ao aA c0 av c2 c3 c4 rs qs ag af sp ws ad os cg cj cf dx.out aG eL.out).mono ?_
    rintro e aJ ⟨bQ,d0,cn,d1,aZ,d2,bk,d3,bR,d4,rfl,gb,jP⟩
    have iL:=J (gb.base (B':=w.heap.size) pS);clear gb dd dT dN eg eh fE fF fG fH fI fD
    go_upto_region 2 with fail
    obtain⟨so,km⟩ :∃b,b= aJ.heap.size:=⟨_,rfl⟩
    have pI:=aB.new aJ 46 #[.slice bQ rs d0,.slice cn qs d1,ag,af,sp,.slice aZ ws d2,.slice bk ad d3,.slice bR os d4,cg,cj,cf];have pL:Below aJ aJ (aJ.alloc (.cells #[.slice bQ rs d0,.slice cn qs d1,ag,af,sp,.slice aZ ws d2,.slice bk ad d3,.slice bR os d4,cg,cj,cf] 46)):=bT _ _
    rw [← km] at pI
    generalize aJ.alloc (.cells #[.slice bQ rs d0,.slice cn qs d1,ag,af,sp,.slice aZ ws d2,.slice bk ad d3,.slice bR os d4,cg,cj,cf] 46)= bB at *
    rw [← km]
    clear km;have gl:=aj jP pL;have yI:=aj I gl;have ji:=J (iL.out.bm pL);have qM:=J pI;have cQ:=J (eL.out.ae gl);have bF:=(hd.out.ae gl hd.out.lt).bX;clear pI pL jP
    go_wp2_with fail
    refine (HG (⟨rs,qs,ag,af,sp,ws,ad,os,cg,cj,cf⟩ :eY) aq ar an ao aA c0 av c2 c3 c4 dx.out.h0 dx.out.h1 dx.out.h2 dx.out.h3 dx.out.h4 ck _ bo.out bB cQ.out.fx cQ.out.dL cQ.out.r2 cQ.out.hG cQ.out.nV dx.out.dZ dx.out.eI dx.out.cp dx.out.ef dx.out.hY).mono ?_
    rintro e bU ⟨rfl,cY⟩
    have jl:=aj gl cY;have ux:=aj yI cY;have kp:=J (ji.out.bm cY);have ud:=J (qM.out.ae cY qM.out.lt);clear bF
    go_wp2_with fail
    refine (zt l ⟨#[]⟩ aT (Nat.zero_le _) _ yq.out bU).mono ?_
    rintro e dB ⟨rfl,eD⟩
    have kj:=aj jl eD;have AV:=aj ux eD;have lY:=J (kp.out.bm eD);have yo:=J (ud.out.ae eD ud.out.lt);have bF:=(hd.out.ae kj hd.out.lt).bX;have lQ:=yo.out.bX;have bK:=ee.out.ae kj ee.out.lt;have ak:=bK.bX;have ep:=bK.gX;have ja:=J bK;clear bK
    go_wp2
    clear ak ep lQ bF
    refine hk 0 fun cD aE=>?_
    have bK:=aE.hP ja.out;have fA:=lY.out.gO ja.out aE.fC;have et:=aE.aH AV;clear aE
    have z0:=bK.bX
    refine bodyPost_ret (v:= .tuple #[.agg #[.slice bQ rs d0,.slice cn qs d1,ag,af,sp,.slice aZ ws d2,.slice bk ad d3,.slice bR os d4,cg,cj,cf],.string (⟨#[102,117,108,108]⟩ :ByteArray)]) (by simp [results,Tryz.results19,go_sem,z0]) rfl ?_
    exact Ca
   ·have cC:=J (QR aH gB vN)
    have Ta:=(Wm gB).2;have ir:Hid (gR ⟨rs,qs,ag,af,sp,ws,ad,os⟩):=J (Db aH);have Jt:=J (show (⟨cg,cj,cf⟩ :fU).eP.size + (⟨cg,cj,cf⟩ :fU).eR.size≤1048576 from ck);clear aH gB
    go_in
    go_upto_region 1 with fail
    refine fe fun aG au aR U=>?_
    replace R:=R.ae au;have I:=au
    obtain⟨dd,dT,dN,eg,eh,fE,fF,fG,fH,fI,fD⟩:=aR.bX
    obtain⟨z0,bW,z2,z3,z4,z5,eO,gG,gW,z9,hc⟩:=U.bX;have hd:=J aR;have ee:=J U;have eL:=J R
    have pS:=I.size;clear z0 bW z2 z3 z4 z5 eO gG gW z9 hc aR U R
    go_wp2_with fail
    refine (ES aq ar an ao aA c0 av c2 c3 c4 rs qs ag af sp ws ad os cg cj cf dx.out aG eL.out).mono ?_
    rintro e aJ ⟨bQ,d0,cn,d1,aZ,d2,bk,d3,bR,d4,rfl,gb,jP⟩
    have iL:=J (gb.base (B':=w.heap.size) pS);clear gb dd dT dN eg eh fE fF fG fH fI fD;have xw:=jP.size
    go_upto_region 2 with fail
    obtain⟨so,km⟩ :∃b,b= aJ.heap.size:=⟨_,rfl⟩
    have pI:=aB.new aJ 46 #[.slice bQ rs d0,.slice cn qs d1,ag,af,sp,.slice aZ ws d2,.slice bk ad d3,.slice bR os d4,cg,cj,cf];have pL:Below aJ aJ (aJ.alloc (.cells #[.slice bQ rs d0,.slice cn qs d1,ag,af,sp,.slice aZ ws d2,.slice bk ad d3,.slice bR os d4,cg,cj,cf] 46)):=bT _ _
    rw [← km] at pI
    generalize aJ.alloc (.cells #[.slice bQ rs d0,.slice cn qs d1,ag,af,sp,.slice aZ ws d2,.slice bk ad d3,.slice bR os d4,cg,cj,cf] 46)= bB at *
    rw [← km]
    have aqd:aG.heap.size≤so:=by omega
    clear km xw;have gl:=aj jP pL;have yI:=aj I gl;have ji:=J (iL.out.bm pL);have qM:=J pI;have cQ:=J (eL.out.ae gl);have bF:=(hd.out.ae gl hd.out.lt).bX;clear pI pL jP
    go_wp2_with fail
    refine (HG (⟨rs,qs,ag,af,sp,ws,ad,os,cg,cj,cf⟩ :eY) aq ar an ao aA c0 av c2 c3 c4 dx.out.h0 dx.out.h1 dx.out.h2 dx.out.h3 dx.out.h4 ck _ bo.out bB cQ.out.fx cQ.out.dL cQ.out.r2 cQ.out.hG cQ.out.nV dx.out.dZ dx.out.eI dx.out.cp dx.out.ef dx.out.hY).mono ?_
    rintro e bU ⟨rfl,cY⟩
    have jl:=aj gl cY;have ux:=aj yI cY;have kp:=J (ji.out.bm cY);have ud:=J (qM.out.ae cY qM.out.lt);clear bF
    go_wp2_with fail
    refine (zt l ⟨#[]⟩ aT (Nat.zero_le _) _ yq.out bU).mono ?_
    rintro e dB ⟨rfl,eD⟩
    have kj:=aj jl eD;have AV:=aj ux eD;have lY:=J (kp.out.bm eD);have yo:=J (ud.out.ae eD ud.out.lt);have bF:=(hd.out.ae kj hd.out.lt).bX
    go_upto_region 8 with fail
    clear bF;have lQ:=yo.out.bX;have agK:=AV.size
    go_wp2_with fail
    refine (ajk w.heap.size bQ cn aZ bk bR d0 d1 d2 d3 d4 rs qs ag af sp ws ad os cg cj cf ir.out l (by omega) dB agK lY.out).mono ?_
    rintro e ju ⟨⟨df,dr,dE,dD,dw,bP,bS,de,cy,e0,cv,e1,cU,e2,cV,e3,cA,e4,y,rfl,mI,ht⟩,ou⟩
    have jE:=J ht;clear ht lQ;have rX:=aj kj ou;have DC:=aj AV ou;have PI:=J (yo.out.ae ou yo.out.lt);have abZ:Hid (gR ⟨df,dr,dE,dD,dw,bP,bS,de⟩):=J (by have:=Ro (ws:=iZ 32 l) ir.out;rw [mI.out] at this;exact this);have FM:Hid (pe ⟨rs,qs,ag,af,sp,ws,ad,os⟩ l= (⟨df,dr,dE,dD,dw,bP,bS,de⟩,y)):=J mI.out
    clear mI
    go_upto_region 9 with fail
    obtain⟨cu,lO⟩ :∃b,b= ju.heap.size:=⟨_,rfl⟩
    have Lb:=aB.new ju 46 #[.slice cy df e0,.slice cv dr e1,dE,dD,dw,.slice cU bP e2,.slice cV bS e3,.slice cA de e4,cg,cj,cf];have DV:Below ju ju (ju.alloc (.cells #[.slice cy df e0,.slice cv dr e1,dE,dD,dw,.slice cU bP e2,.slice cV bS e3,.slice cA de e4,cg,cj,cf] 46)):=bT _ _
    rw [← lO] at Lb
    generalize ju.alloc (.cells #[.slice cy df e0,.slice cv dr e1,dE,dD,dw,.slice cU bP e2,.slice cV bS e3,.slice cA de e4,cg,cj,cf] 46)= wD at *
    rw [← lO]
    clear lO;have Lp:=aj rX DV;have Sj:=aj DC DV;have PK:=J (jE.out.bm DV);have PJ:=J (PI.out.ae DV PI.out.lt);have nB:=Lb.bX;have agL:=Sj.size
    go_wp2_with fail
    refine (ES cy cv cU cV cA e0 e1 e2 e3 e4 df dr dE dD dw bP bS de cg cj cf (EK PK.out abZ.out) wD PK.out.rd).mono ?_
    rintro e nE ⟨vi,f0,vj,f1,vk,f2,vl,f3,vm,f4,rfl,oQ,DP⟩
    have rL:=J (oQ.base (B':=w.heap.size) agL);clear oQ nB;have te:=aj Lp DP;have GZ:=aj Sj DP;have FR:=J (PJ.out.ae DP PJ.out.lt);have lQ:=FR.out.bX;have Dj:=FR.out.gX
    go_upto_region 10 with fail
    clear lQ Dj Lb DV
    refine hk 0 fun vv hH=>?_
    have tc:=hH.hP FR.out;have dR:=hH.aH te;have Ln:=hH.aH GZ;have acm:=J (rL.out.gO FR.out hH.fC);have yn:=J tc;clear tc hH
    go_upto_if 38 with fail
    go_cut [8] (fun XN W=>∃jB,XN= .string jB∧Hid (nW y= jB)∧vv= W)
    case first=>
     exact YA
    case rest=>
     obtain⟨jB,rfl,Am,hw⟩:=hcut
     subst hw
     have sh:jB.size≤1048576:=by
      rw [← Am.out]
      unfold nW
      split
      ·decide
      ·omega
     have oe:=fun W=>alU ⟨cg,cj,cf⟩ Jt.out ⟨l,jB⟩ aT sh W
     obtain⟨g,cT⟩ :∃g,iD ⟨cg,cj,cf⟩ ⟨l,jB⟩ =g:=⟨_,rfl⟩
     rw [cT] at oe
     have kF:=J cT;clear cT
     obtain⟨pF,pW,pB⟩:=g
     have rI:=J oe;clear oe
     simp only at rI
     have bF:=(hd.out.ae dR hd.out.lt).bX
     go_wp2_with fail
     refine (rI.out vv).mono ?_
     rintro e xQ ⟨rfl,Hc⟩
     have GU:=yn.out.ae Hc yn.out.lt;have PN:=J GU;have lQ:=GU.bX;have Dj:=GU.gX;clear bF GU
     go_upto_region 13 with fail
     clear lQ Dj
     refine su 8 fun Ay hS=>?_
     have mA:=hS.VR PN.out;have bD:=(acm.out.bm Hc).gO PN.out hS.fC;have afq:=hS.aH (aj dR Hc);have afp:=hS.aH (aj Ln Hc);have bK:=ee.out.ae afq ee.out.lt
     have ja:=J bK;have Jz:=J bD;have lQ:=mA.bX;have ak:=bK.bX;have ep:=bK.gX;clear bK bD hS mA
     go_wp2
     clear lQ ak ep
     refine hk 0 fun WF wB=>?_
     have Ls:=wB.hP ja.out;have oQ:=Jz.out.gO ja.out wB.fC;have Jl:=wB.aH afp;clear wB
     have z0:=Ls.bX
     refine bodyPost_ret (v:= .tuple #[.agg #[.slice vi df f0,.slice vj dr f1,dE,dD,dw,.slice vk bP f2,.slice vl bS f3,.slice vm de f4,pF,pW,pB],.string jB]) (by simp [results,Tryz.results19,go_sem,z0]) rfl ?_
     exact⟨df,dr,dE,dD,dw,bP,bS,de,pF,pW,pB,vi,f0,vj,f1,vk,f2,vl,f3,vm,f4,jB,rfl,J (by
      rw [cC.out.1,cC.out.2]
      unfold yz
      rw [show pe (eY.lC (⟨rs,qs,ag,af,sp,ws,ad,os,cg,cj,cf⟩ :eY)) l= (⟨df,dr,dE,dD,dw,bP,bS,de⟩,y) from FM.out]
      simp only
      rw [Am.out,show iD (eY.log (⟨rs,qs,ag,af,sp,ws,ad,os,cg,cj,cf⟩ :eY)) ⟨l,jB⟩ =⟨pF,pW,pB⟩ from kF.out]
      rfl),oQ,Jl⟩
open Go.RowKit Go.G9
def wT (w W:World) (bQ:Option Addr) (d0:Nat) (cn:Option Addr) (d1:Nat) (aZ:Option Addr) (d2:Nat) (bk:Option Addr) (d3:Nat) (bR:Option Addr) (d4:Nat) (rs:List aK) (qs:List aQ) (ws:List Int) (ad:List aO) (os:List Out):Prop:=dI w bQ cn aZ bk bR rs qs ws ad os∨fP w.heap.size W bQ d0 cn d1 aZ d2 bk d3 bR d4 rs qs ws ad os
section
variable {w W V:World} {bQ cn aZ bk bR:Option Addr} {d0 d1 d2 d3 d4:Nat} {rs:List aK} {qs:List aQ} {ws:List Int} {ad:List aO} {os:List Out}
theorem wT.rd (h:wT w W bQ d0 cn d1 aZ d2 bk d3 bR d4 rs qs ws ad os) (aF:Below w w W):dI W bQ cn aZ bk bR rs qs ws ad os:=h.elim (fun h=>h.ae aF) (fun h=>h.rd)
theorem wT.bm (h:wT w W bQ d0 cn d1 aZ d2 bk d3 bR d4 rs qs ws ad os) (aF:Below W W V):wT w V bQ d0 cn d1 aZ d2 bk d3 bR d4 rs qs ws ad os:=h.imp id (fun h=>h.bm aF)
theorem wT.gO {g:Nat} {cs:Array Value} (h:wT w W bQ d0 cn d1 aZ d2 bk d3 bR d4 rs qs ws ad os) (aF:aB W g 46 cs) (cT:W.grownBy V (some g)):wT w V bQ d0 cn d1 aZ d2 bk d3 bR d4 rs qs ws ad os:=h.imp id (fun h=>h.gO aF cT)
end
theorem abg {p:Prop} (h:p:=by
 rintro e ah ⟨df,dr,dE,dD,dw,bP,bS,de,pF,pW,pB,bQ,d0,cn,d1,aZ,d2,bk,d3,bR,d4,y,rfl,hw,O,aF⟩
 exact⟨⟨df,dr,dE,dD,dw,bP,bS,de,pF,pW,pB⟩,y,bQ,d0,cn,d1,aZ,d2,bk,d3,bR,d4,rfl,J ⟨congrArg Prod.fst hw.out,congrArg Prod.snd hw.out⟩,O,aF⟩):p:=h
theorem ahv (x:eY) (aq ar an ao aA:Option Addr) (c0 av c2 c3 c4:Nat) (Z:ei aq ar an ao aA c0 av c2 c3 c4 x.cx x.cP x.ds x.du x.cl) (ck:x.eP.size + x.eR.size≤1048576) (l:ByteArray) (aT:l.size≤1048576) (w:World) (R:dI w aq ar an ao aA x.cx x.cP x.ds x.du x.cl) (bO:nF w):
 Calls Tryz.prog 18 #[.agg #[.slice aq x.cx c0,.slice ar x.cP av,x.ek,x.dS,x.fk,.slice an x.ds c2,.slice ao x.du c3,.slice aA x.cl c4,x.eP,x.eR,x.dW],l] w fun e ah=>∃(y:eY) (z:ByteArray) (bQ:Option Addr) (d0:Nat) (cn:Option Addr) (d1:Nat) (aZ:Option Addr) (d2:Nat) (bk:Option Addr) (d3:Nat) (bR:Option Addr) (d4:Nat),e= .returned (.tuple #[.agg #[.slice bQ y.cx d0,.slice cn y.cP d1,y.ek,y.dS,y.fk,.slice aZ y.ds d2,.slice bk y.du d3,.slice bR y.cl d4,y.eP,y.eR,y.dW],z])∧Hid (oR x l= y∧qT x l= z)∧fP w ah bQ d0 cn d1 aZ d2 bk d3 bR d4 y.cx y.cP y.ds y.du y.cl∧Below w w ah:=by
 refine (ahw aq ar an ao aA c0 av c2 c3 c4 x.cx x.cP x.ek x.dS x.fk x.ds x.du x.cl x.eP x.eR x.dW Z ck l aT w R bO).mono ?_
 exact abg
theorem amd (x:eY) (aq ar an ao aA:Option Addr) (c0 av c2 c3 c4:Nat) (Z:ei aq ar an ao aA c0 av c2 c3 c4 x.cx x.cP x.ds x.du x.cl) (ck:x.eP.size + x.eR.size≤1048576) (l:ByteArray) (aT:l.size≤1048576) (w:World) (R:dI w aq ar an ao aA x.cx x.cP x.ds x.du x.cl):
 Calls Tryz.prog 19 #[.agg #[.slice aq x.cx c0,.slice ar x.cP av,x.ek,x.dS,x.fk,.slice an x.ds c2,.slice ao x.du c3,.slice aA x.cl c4,x.eP,x.eR,x.dW],l] w fun e ah=>∃(y:eY) (z:ByteArray) (bQ:Option Addr) (d0:Nat) (cn:Option Addr) (d1:Nat) (aZ:Option Addr) (d2:Nat) (bk:Option Addr) (d3:Nat) (bR:Option Addr) (d4:Nat),e= .returned (.tuple #[.agg #[.slice bQ y.cx d0,.slice cn y.cP d1,y.ek,y.dS,y.fk,.slice aZ y.ds d2,.slice bk y.du d3,.slice bR y.cl d4,y.eP,y.eR,y.dW],z])∧Hid (oR x l= y∧qT x l= z)∧fP w ah bQ d0 cn d1 aZ d2 bk d3 bR d4 y.cx y.cP y.ds y.du y.cl∧Below w w ah:=by
 refine (ame aq ar an ao aA c0 av c2 c3 c4 x.cx x.cP x.ek x.dS x.fk x.ds x.du x.cl x.eP x.eR x.dW Z ck l aT w R).mono ?_
 exact abg
open Go.RowKit Go.G9
structure aox (c x:eY):Prop where
 ok:jd x= true
 st:tO c (jr x.log) (jr x.log).length= x
 aoD:∀k,k < (jr x.log).length→qC c (jr x.log) k= true
theorem ajJ {x:fU} (h:x.ok= true):x.dW= ((jr x).length:Int):=by
 have h1:=(UI (show jT x.d x.p x.dW= true from h)).2.2.2
 unfold jr mD
 rw [if_pos (show jT x.d x.p x.dW= true from h),h1]
theorem UH:(⟨⟨#[]⟩,⟨#[]⟩,0⟩ :fU).ok= true∧jr ⟨⟨#[]⟩,⟨#[]⟩,0⟩ =[]:=by
 have h:(⟨⟨#[]⟩,⟨#[]⟩,0⟩ :fU).ok= true:=by
  have:=ajI [] (by simp)
  have e:hn []= 0:=by have:=(Dh []).2;simpa using this
  rw [e] at this
  have e2:gn []= []:=by unfold gn gT;rw [VY];rfl
  rw [e2] at this
  exact this
 refine⟨h,List.length_eq_zero_iff.1 ?_⟩
 have:=ajJ h
 simp only at this
 omega
open Go.RowKit Go.G9
theorem Wb:∀(f k:Nat) (l:ca) (a:Nat),∀x ∈ hQ f k l a,jV x.1 x.2.1= true
 | 0,_,_,_=>by simp [hQ]
 | f + 1,k,l,a=>by
  rw [hQ]
  cases h:iJ l k with
  | none=>simp
  | some x=>
   obtain⟨c,r,n⟩:=x
   intro y hy
   rcases List.mem_cons.1 hy with rfl | hy
   ·exact (BH h).2.1
   ·exact Wb f (k + 1) _ _ y hy
theorem UL {x:fU} {y:eB} (h:y ∈ jr x):y.cmd.size≤160:=by
 unfold jr mD at h
 split at h
 ·obtain⟨p,aN,rfl⟩:=List.mem_map.1 h
  have:=(zC (Wb 61 0 _ 0 p aN)).2.1
  show (bs p.1).size≤160
  rw [fB];exact this
 ·simp at h
theorem Vn {rs:List aK} {ag af:Int} (h:iH rs ag af= true):jd (rv rs ag af)= true∧jr (rv rs ag af).log= []:=by
 unfold rv
 rw [Vt h]
 refine⟨?_,UH.2⟩
 unfold iH tJ at h
 rw [Bool.and_eq_true] at h
 unfold jd
 rw [Bool.and_eq_true]
 refine⟨?_,UH.1⟩
 show pf rs [] ag af 0 [] [] []= true
 unfold pf dt zL
 rw [h.1,h.2]
 simp [gy]
def pX (rs:List aK) (ag af:Int) (x:fU):Bool:=iH rs ag af && x.ok
def sr (rs:List aK) (ag af:Int) (x:fU):Int:=if pX rs ag af x then (zQ (rv rs ag af) (jr x):Int) else 0
theorem xI {rs:List aK} {ag af:Int} {x:fU} (h:iH rs ag af= false∨x.ok= false):pX rs ag af x= false∧sr rs ag af x= 0:=by
 have e:pX rs ag af x= false:=by unfold pX;rcases h with h | h <;> rw [h] <;> simp
 exact⟨e,by unfold sr;rw [e];rfl⟩
theorem Ip {rs:List aK} {ag af:Int} {x:fU} (h:iH rs ag af= true) (aw:x.ok= true):pX rs ag af x= true∧sr rs ag af x= (zQ (rv rs ag af) (jr x):Int):=by
 have e:pX rs ag af x= true:=by unfold pX;rw [h,aw];rfl
 exact⟨e,by unfold sr;rw [e];rfl⟩
open Go.RowKit Go.G9
theorem Zx {p:Prop} (h:p:=by
 rcases Nat.lt_or_eq_of_le (Nat.le_of_lt_succ hi) with h | rfl
 ·exact lJ.1 jD.out i h
 ·exact Tr.out):p:=h
theorem aio (A:Option Addr) (c:Nat) (rs:List aK) (aY:rs.length≤1048576) (ag af:Int) (x:fU) (aw:x.eP.size + x.eR.size≤1048576) (w:World) (R:aS 7 aK.cells w A rs) (aX:A= none→rs= []∧c= 0) (fo:rs.length≤c) (bO:nF w):
 Calls Tryz.prog 14 #[.slice A rs c,ag,af,.agg #[x.eP,x.eR,x.dW]] w fun e ah=>e= .returned (.tuple #[.int .i64 (sr rs ag af x),.bool (pX rs ag af x)])∧Below w w ah:=by
 have eZ:=J (fun W (bL:aS 7 aK.cells W A rs)=>aii A c rs aY ag af W bL aX fo);have Cs:=J (fun (h:iH rs ag af= true)=>(Vn h).1);have Ch:=J (fun y (hy:y ∈ jr x)=>UL hy)
 have zd:(iH rs ag af= true∧x.ok= true∧pX rs ag af x= true∧sr rs ag af x= (zQ (rv rs ag af) (jr x):Int))∨((iH rs ag af= false∨x.ok= false)∧pX rs ag af x= false∧sr rs ag af x= 0):=by
  cases aF:iH rs ag af
  ·exact .inr ⟨.inl rfl,(xI (.inl aF)).1,(xI (.inl aF)).2⟩
  ·cases cG:x.ok
   ·exact .inr ⟨.inr rfl,(xI (.inr cG)).1,(xI (.inr cG)).2⟩
   ·exact .inl ⟨rfl,rfl,(Ip aF cG).1,(Ip aF cG).2⟩
 have Co:=J (fun W (h:jF W)=>ahO x aw W h)
 obtain⟨iT,sg⟩ :∃b,pX rs ag af x= b:=⟨_,rfl⟩
 obtain⟨XO,zg⟩ :∃b,sr rs ag af x= b:=⟨_,rfl⟩
 rw [sg,zg] at zd ⊢
 clear sg zg
 obtain⟨n0,rl⟩ :∃n,rv rs ag af= n:=⟨_,rfl⟩
 obtain⟨b,aF⟩ :∃b,iH rs ag af= b:=⟨_,rfl⟩
 obtain⟨o,cG⟩ :∃b,x.ok= b:=⟨_,rfl⟩
 obtain⟨es,yO⟩ :∃e,jr x= e:=⟨_,rfl⟩
 rw [rl,aF,cG,yO] at zd
 rw [aF,rl] at Cs
 simp only [rl,aF] at eZ
 simp only [cG,yO] at Co
 have afQ:=ajM x
 rw [yO] at Ch afQ
 clear rl aF cG yO;have bC:=J zd;clear zd;have eL:=J R;clear R
 have Ci:=J bO;clear bO
 go_in
 go_upto_region 1 with fail
 refine cF fun aG au gK=>?_
 have I:=au
 obtain⟨pd,nA,pU⟩:=gK.cq
 have Fp:=I.size
 go_wp2_with fail
 refine (eZ.out aG (eL.out.ae I)).mono ?_
 rintro e aJ ⟨bQ,d0,cn,d1,aZ,d2,bk,d3,bR,d4,rfl,gb,aL⟩
 have iL:=J (gb.base Fp);clear gb pd nA pU;have DA:=gK.to aL;have gJ:=aj I aL
 go_upto_region 2 with fail
 have yH:=aB.new aJ 46 #[.slice bQ n0.cx d0,.slice cn n0.cP d1,n0.ek,n0.dS,n0.fk,.slice aZ n0.ds d2,.slice bk n0.du d3,.slice bR n0.cl d4,n0.eP,n0.eR,n0.dW];have vM:Below aJ aJ (aJ.alloc (.cells #[.slice bQ n0.cx d0,.slice cn n0.cP d1,n0.ek,n0.dS,n0.fk,.slice aZ n0.ds d2,.slice bk n0.du d3,.slice bR n0.cl d4,n0.eP,n0.eR,n0.dW] 46)):=bT _ _
 generalize aJ.alloc (.cells #[.slice bQ n0.cx d0,.slice cn n0.cP d1,n0.ek,n0.dS,n0.fk,.slice aZ n0.ds d2,.slice bk n0.du d3,.slice bR n0.cl d4,n0.eP,n0.eR,n0.dW] 46)= Ou at *
 obtain⟨Fz,zh⟩ :∃b,b= aJ.heap.size:=⟨_,rfl⟩
 rw [← zh] at yH ⊢
 have aha:w.heap.size≤Fz:=by rw [zh];exact gJ.size
 clear zh gK I;have xg:=DA.to vM;have JA:=J (iL.out.bm vM);have qZ:=aj gJ vM;have EC:=xg.cq;have EF:=xg.lt;have wK:=J qZ
 go_wp2_with fail
 refine (Co.out Ou (Ci.out.ae qZ).t).mono ?_
 rintro e bB ⟨vs,lc,rfl,ht,bx⟩
 clear EC EF xg DA vM aL gJ;have hd:=J (yH.to bx);have Cq:=J (JA.out.bm bx);have xY:=J (aj wK.out bx);have vp:=J (ht.base (B':=w.heap.size) wK.out.size);clear ht yH qZ bx Fp
 rcases bC.out with ⟨rfl,rfl,rfl,rfl⟩ | ⟨gM,rfl,rfl⟩
 rotate_left
 ·cases b
  ·clear gM
   go_wp2
   go_ret2
   exact⟨rfl,xY.out⟩
  ·obtain rfl:o= false:=by rcases gM with h | h <;> first | exact h | cases h
   clear gM
   go_wp2
   go_ret2
   exact⟨rfl,xY.out⟩
 ·have afO:es.length≤lc:=ph vp.out eB.rR
  have Mk:Hid (jd n0= true):=J (Cs.out (by trivial));clear bC
  go_upto_region 6 with fail
  go_loopw [38] (fun v wr=>∃(k:Nat) (n:eY) (cy:Option Addr) (e0:Nat) (cv:Option Addr) (e1:Nat) (cU:Option Addr) (e2:Nat) (cV:Option Addr) (e3:Nat) (cA:Option Addr) (e4:Nat),v= .int .i64 k∧k≤es.length∧Hid (tO n0 es k= n)∧Hid (gy (qC n0 es) k= true)∧Hid (jd n= true)∧fP w wr cy e0 cv e1 cU e2 cV e3 cA e4 n.cx n.cP n.ds n.du n.cl∧aB wr Fz 46 #[.slice cy n.cx e0,.slice cv n.cP e1,.int .i64 n.ek,.int .i64 n.dS,.int .i64 n.fk,.slice cU n.ds e2,.slice cV n.du e3,.slice cA n.cl e4,.string n.eP,.string n.eR,.int .i64 n.dW]∧bd w 56 2 eB.cells wr (.slice vs es lc) es∧Below w w wr) (fun v _=>es.length - (intOf v).toNat)
  case atStart=>exact⟨0,n0,bQ,d0,cn,d1,aZ,d2,bk,d3,bR,d4,rfl,Nat.zero_le _,J rfl,J rfl,Mk,Cq.out,hd.out,vp.out,xY.out⟩
  case round=>
   clear hd Cq vp xY
   obtain⟨k,n,cy,e0,cv,e1,cU,e2,cV,e3,cA,e4,rfl,aD,ft,jD,gp,CO,aR,ht,I⟩:=hrel
   have Aj:=J CO;have jE:=J ht;clear CO ht;have aqo:=aR.lt;have cc:=J aR
   by_cases bu:k < es.length
   ·have hy:=List.getElem?_eq_getElem bu
    obtain⟨y,Ey⟩ :∃y,es[k]= y:=⟨_,rfl⟩
    rw [Ey] at hy;clear Ey
    have ahd:=Ch.out y (List.mem_of_getElem? hy);have gQ:=J hy;clear hy;have kd:=jE.out.hj (hf:=eB.rR)
    obtain⟨sY,off,jB,uw,ew,sh,cX⟩:=kd.at_ (Below.refl _ _) bu
    obtain rfl:y= jB:=Option.some.inj (gQ.out.symm.trans sh)
    subst uw
    clear kd sh;have ch:=cX 0 _ rfl;have dq:=cX 1 _ rfl
    simp only [Nat.add_zero] at ch
    have g0:=ch (ay.self _);have g1:=dq (ay.self _)
    simp only [ay.self] at g0
    simp only [ay.self] at g1
    clear cX ch dq
    go_upto_region 8 with fail
    have DB:=aB.new wr 56 #[.string y.cmd,.string y.rep];have DS:Below wr wr (wr.alloc (.cells #[.string y.cmd,.string y.rep] 56)):=bT _ _
    generalize wr.alloc (.cells #[.string y.cmd,.string y.rep] 56)= anV at *
    obtain⟨ve,zj⟩ :∃b,b= wr.heap.size:=⟨_,rfl⟩
    rw [← zj] at DB ⊢
    clear zj g0 g1 ew;have Ha:=cc.out.ae DS cc.out.lt;have KP:=aj I DS;have mI:=J (fun W (bn:dI W cy cv cU cV cA n.cx n.cP n.ds n.du n.cl) (eC:nF W)=>ahv n cy cv cU cV cA e0 e1 e2 e3 e4 (Aj.out.HD (rS gp.out).pd (rS gp.out).nA (rS gp.out).pU (rS gp.out).HI (rS gp.out).MX) (rS gp.out).MY y.cmd (by omega) W bn eC);have Jy:=J DB
    have bF:=Ha.bX;have FB:=Ha.lt;have lq:=DB.kY;have OH:=DB.lt;clear DB aR
    go_wp2_with fail
    refine (mI.out anV (Aj.out.rd.ae DS) (Ci.out.ae KP)).mono ?_
    rintro e bB ⟨n2,z,vi,f0,vj,f1,vk,f2,vl,f3,vm,f4,rfl,sa,oQ,bx⟩
    clear bF FB lq OH;have hW:=aj KP bx;have gl:=Ha.to bx;have abN:=J ((jE.out.bm DS).bm bx);have PH:=Jy.out.ae bx Jy.out.lt;have rL:=J (oQ.base (B':=w.heap.size) KP.size);clear oQ;have Bl:Hid (jd n2= true):=J (by rw [← sa.out.1];exact QM gp.out)
    go_upto_region 9 with fail
    have La:=aB.new bB 46 #[.slice vi n2.cx f0,.slice vj n2.cP f1,n2.ek,n2.dS,n2.fk,.slice vk n2.ds f2,.slice vl n2.du f3,.slice vm n2.cl f4,n2.eP,n2.eR,n2.dW];have AY:Below bB bB (bB.alloc (.cells #[.slice vi n2.cx f0,.slice vj n2.cP f1,n2.ek,n2.dS,n2.fk,.slice vk n2.ds f2,.slice vl n2.du f3,.slice vm n2.cl f4,n2.eP,n2.eR,n2.dW] 46)):=bT _ _
    generalize bB.alloc (.cells #[.slice vi n2.cx f0,.slice vj n2.cP f1,n2.ek,n2.dS,n2.fk,.slice vk n2.ds f2,.slice vl n2.du f3,.slice vm n2.cl f4,n2.eP,n2.eR,n2.dW] 46)= XS at *
    obtain⟨aqN,TK⟩ :∃b,b= bB.heap.size:=⟨_,rfl⟩
    rw [← TK] at La ⊢
    clear TK;have Sm:=PH.to AY;have DG:=gl.to AY;have KQ:=aj hW AY;have PC:=J (abN.out.bm AY);have acq:=J (rL.out.bm AY);have JP:=J DG;have lq:=Sm.kY;have OH:=Sm.lt;clear gl Ha cc Aj jE PH Jy DS AY bx
    have vS:qC n0 es k= (z.toList == y.rep.toList):=by
     unfold qC
     rw [gQ.out]
     simp only [ft.out]
     rw [sa.out.2]
    cases ck:(z.toList == y.rep.toList)
    ·have dz:(!(z.toList == y.rep.toList))= true:=by rw [ck];rfl
     have yk:=J (Wu bu jD.out (vS.trans ck));clear vS
     go_wp2
     go_ret2
     exact⟨by rw [yk.out];rfl,KQ⟩
    ·have dz:(!(z.toList == y.rep.toList))= false:=by rw [ck];rfl
     have Tr:=J (vS.trans ck);clear vS;have bF:=DG.bX;have Dk:=DG.gX;have FB:=DG.lt;have ff:=La.bX;have akD:=La.lt;clear DG
     go_upto_region 12 with fail
     clear bF Dk FB ff akD lq OH ck dz
     refine hk 0 fun cD aE=>?_
     have dR:=aE.hP JP.out;have Dx:=PC.out.kept aE.fC (fun k aD e=>PC.out.qv JP.out (by decide) k aD (Option.some.inj e))
     have AS:=acq.out.gO JP.out aE.fC;have yG:=KQ.grown aE.fC KQ.size (fun q bj=>by have:=Option.some.inj bj;omega);clear aE
     have KX:tO n0 es (k + 1)= n2:=by rw [Ws gQ.out,ft.out];exact sa.out.1
     have hA9:gy (qC n0 es) (k + 1)= true:=lJ.2 fun i hi=>by
      exact Zx
     go_wp2
     go_roundw
     case rel=>exact⟨k + 1,n2,vi,f0,vj,f1,vk,f2,vl,f3,vm,f4,by go_num,by omega,J KX,J hA9,Bl,AS,dR,Dx,yG⟩
     case measure=>simp [intOf];omega
   ·obtain rfl:k= es.length:=by omega
    have yk:=J (Wt jD.out)
    go_wp2
    go_ret2
    exact⟨by rw [yk.out];rfl,I⟩
open Go.RowKit Go.G9
theorem amQ (A:Option Addr) (c:Nat) (rs:List aK) (aY:rs.length≤1048576) (ag af:Int) (x:fU) (aw:x.eP.size + x.eR.size≤1048576) (w:World) (R:aS 7 aK.cells w A rs) (aX:A= none→rs= []∧c= 0) (fo:rs.length≤c):
 Calls Tryz.prog 11 #[.slice A rs c,ag,af,.agg #[x.eP,x.eR,x.dW]] w fun e ah=>e= .returned (.tuple #[.int .i64 (sr rs ag af x),.bool (pX rs ag af x)])∧Below w w ah:=by
 have eZ:=J (fun W (bL:aS 7 aK.cells W A rs)=>amK A c rs aY ag af W bL aX fo);have Cs:=J (fun (h:iH rs ag af= true)=>(Vn h).1);have Ch:=J (fun y (hy:y ∈ jr x)=>UL hy)
 have zd:(iH rs ag af= true∧x.ok= true∧pX rs ag af x= true∧sr rs ag af x= (zQ (rv rs ag af) (jr x):Int))∨((iH rs ag af= false∨x.ok= false)∧pX rs ag af x= false∧sr rs ag af x= 0):=by
  cases aF:iH rs ag af
  ·exact .inr ⟨.inl rfl,(xI (.inl aF)).1,(xI (.inl aF)).2⟩
  ·cases cG:x.ok
   ·exact .inr ⟨.inr rfl,(xI (.inr cG)).1,(xI (.inr cG)).2⟩
   ·exact .inl ⟨rfl,rfl,(Ip aF cG).1,(Ip aF cG).2⟩
 have Co:=J (fun W=>amt x aw W);have PF:=J (fun W=>Uu x aw W)
 obtain⟨iT,sg⟩ :∃b,pX rs ag af x= b:=⟨_,rfl⟩
 obtain⟨XO,zg⟩ :∃b,sr rs ag af x= b:=⟨_,rfl⟩
 rw [sg,zg] at zd ⊢
 clear sg zg
 obtain⟨n0,rl⟩ :∃n,rv rs ag af= n:=⟨_,rfl⟩
 obtain⟨b,aF⟩ :∃b,iH rs ag af= b:=⟨_,rfl⟩
 obtain⟨o,cG⟩ :∃b,x.ok= b:=⟨_,rfl⟩
 obtain⟨es,yO⟩ :∃e,jr x= e:=⟨_,rfl⟩
 rw [rl,aF,cG,yO] at zd
 rw [aF,rl] at Cs
 simp only [rl,aF] at eZ
 simp only [cG,yO] at Co
 simp only [cG] at PF
 have afQ:=ajM x
 rw [yO] at Ch afQ
 clear rl aF cG yO;have bC:=J zd;clear zd;have eL:=J R;clear R
 go_in
 go_upto_region 1 with fail
 refine cF fun aG au gK=>?_
 have I:=au
 obtain⟨pd,nA,pU⟩:=gK.cq
 have Fp:=I.size
 go_wp2_with fail
 refine (eZ.out aG (eL.out.ae I)).mono ?_
 rintro e aJ ⟨bQ,d0,cn,d1,aZ,d2,bk,d3,bR,d4,rfl,gb,aL⟩
 have iL:=J (gb.base Fp);clear gb pd nA pU;have DA:=gK.to aL;have gJ:=aj I aL
 go_upto_region 2 with fail
 have yH:=aB.new aJ 46 #[.slice bQ n0.cx d0,.slice cn n0.cP d1,n0.ek,n0.dS,n0.fk,.slice aZ n0.ds d2,.slice bk n0.du d3,.slice bR n0.cl d4,n0.eP,n0.eR,n0.dW];have vM:Below aJ aJ (aJ.alloc (.cells #[.slice bQ n0.cx d0,.slice cn n0.cP d1,n0.ek,n0.dS,n0.fk,.slice aZ n0.ds d2,.slice bk n0.du d3,.slice bR n0.cl d4,n0.eP,n0.eR,n0.dW] 46)):=bT _ _
 generalize aJ.alloc (.cells #[.slice bQ n0.cx d0,.slice cn n0.cP d1,n0.ek,n0.dS,n0.fk,.slice aZ n0.ds d2,.slice bk n0.du d3,.slice bR n0.cl d4,n0.eP,n0.eR,n0.dW] 46)= Ou at *
 obtain⟨Fz,zh⟩ :∃b,b= aJ.heap.size:=⟨_,rfl⟩
 rw [← zh] at yH ⊢
 have aha:w.heap.size≤Fz:=by rw [zh];exact gJ.size
 clear zh gK I;have xg:=DA.to vM;have JA:=J (iL.out.bm vM);have qZ:=aj gJ vM;have EC:=xg.cq;have EF:=xg.lt;have wK:=J qZ;have ym:=J yH;have PE:=J xg;clear yH xg DA vM aL gJ qZ
 cases b
 ·obtain⟨rfl,rfl⟩ :iT= false∧XO= 0:=by
   rcases bC.out with ⟨h,_⟩ | ⟨_,h,h2⟩
   ·cases h
   ·exact⟨h,h2⟩
  clear bC
  go_wp2
  go_ret2
  exact⟨rfl,wK.out⟩
 go_wp2_with fail
 refine (PF.out Ou).mono ?_
 rintro e wc ⟨rfl,AZ⟩
 clear EC EF;have GM:=aj wK.out AZ
 rcases bC.out with ⟨_,rfl,rfl,rfl⟩ | ⟨gM,rfl,rfl⟩
 rotate_left
 ·obtain rfl:o= false:=by rcases gM with h | h <;> first | exact h | cases h
  clear gM bC
  go_wp2
  go_ret2
  exact⟨rfl,GM⟩
 ·have KY:=PE.out.ae AZ PE.out.lt
  have EC:=KY.cq;have EF:=KY.lt
  go_wp2_with fail
  refine (Co.out wc).mono ?_
  rintro e bB ⟨vs,lc,rfl,ht,bx⟩
  clear EC EF KY;have hd:=J ((ym.out.ae AZ ym.out.lt).ae bx (ym.out.ae AZ ym.out.lt).lt);have Cq:=J ((JA.out.bm AZ).bm bx);have xY:=J (aj GM bx);have vp:=J (ht.base (B':=w.heap.size) GM.size);clear ht bx Fp AZ GM;have afO:es.length≤lc:=ph vp.out eB.rR;have Mk:Hid (jd n0= true):=J (Cs.out (by trivial));clear bC
  go_upto_region 7 with fail
  go_loopw [15] (fun v wr=>∃(k:Nat) (n:eY) (cy:Option Addr) (e0:Nat) (cv:Option Addr) (e1:Nat) (cU:Option Addr) (e2:Nat) (cV:Option Addr) (e3:Nat) (cA:Option Addr) (e4:Nat),v= .int .i64 k∧k≤es.length∧Hid (tO n0 es k= n)∧Hid (gy (qC n0 es) k= true)∧Hid (jd n= true)∧fP w wr cy e0 cv e1 cU e2 cV e3 cA e4 n.cx n.cP n.ds n.du n.cl∧aB wr Fz 46 #[.slice cy n.cx e0,.slice cv n.cP e1,.int .i64 n.ek,.int .i64 n.dS,.int .i64 n.fk,.slice cU n.ds e2,.slice cV n.du e3,.slice cA n.cl e4,.string n.eP,.string n.eR,.int .i64 n.dW]∧bd w 56 2 eB.cells wr (.slice vs es lc) es∧Below w w wr) (fun v _=>es.length - (intOf v).toNat)
  case atStart=>exact⟨0,n0,bQ,d0,cn,d1,aZ,d2,bk,d3,bR,d4,rfl,Nat.zero_le _,J rfl,J rfl,Mk,Cq.out,hd.out,vp.out,xY.out⟩
  case round=>
   clear hd Cq vp xY
   obtain⟨k,n,cy,e0,cv,e1,cU,e2,cV,e3,cA,e4,rfl,aD,ft,jD,gp,CO,aR,ht,I⟩:=hrel
   have Aj:=J CO;have jE:=J ht;clear CO ht;have cc:=J aR
   by_cases bu:k < es.length
   ·have hy:=List.getElem?_eq_getElem bu
    obtain⟨y,Ey⟩ :∃y,es[k]= y:=⟨_,rfl⟩
    rw [Ey] at hy;clear Ey
    have ahd:=Ch.out y (List.mem_of_getElem? hy);have gQ:=J hy;clear hy
    obtain⟨sY,off,jB,uw,ew,_,_⟩:=(jE.out.hj (hf:=eB.rR)).at_ (Below.refl _ _) bu
    subst uw
    have nI:=J (fun V (hM:Below wr wr V)=>((jE.out.bm hM).hj (hf:=eB.rR)))
    obtain⟨en,gj⟩ :∃X:World→Prop,∀V,X V↔Below wr wr V:=⟨_,fun _=>Iff.rfl⟩
    have cO:=J gj;clear gj
    haveI:Nonempty (cH en):=⟨⟨wr,(cO.out _).2 (Below.refl _ _)⟩⟩
    haveI:Nonempty (cH (fun _=>True)):=⟨⟨wr,trivial⟩⟩
    have dc:=aB.qf (fun K:cH en=>cc.out.ae ((cO.out _).1 K.holds) cc.out.lt)
    have g0:=fun K:cH en=>tN (nI.out _ ((cO.out _).1 K.holds)) gQ.out (i:=0) (u:= .string y.cmd) rfl
    simp only [Nat.add_zero] at g0
    have mI:=J (fun W (bn:dI W cy cv cU cV cA n.cx n.cP n.ds n.du n.cl)=>amd n cy cv cU cV cA e0 e1 e2 e3 e4 (Aj.out.HD (rS gp.out).pd (rS gp.out).nA (rS gp.out).pU (rS gp.out).HI (rS gp.out).MX) (rS gp.out).MY y.cmd (by omega) W bn);clear aR
    go_upto_region 9 with fail
    refine Fx en [([0,1,2,3,4,5],[],6,false),([],[7,8,9],10,true)] [] [11] (by kernel_rfl) (by kernel_rfl) ((cO.out _).2 (Below.refl _ _).drew) ?_
    refine oa fun hz eb=>?_
    change wpQuiet _ _ _ _ (_ ::_ ::_ ::_ ::_ ::_ ::[]) _
    repeat (go_big_quiet_step (fail))
    refine wpQuiet_nil ?_
    refine wpQuiet_nil ?_
    change wpList _ _ _ (_ ::[]) _ _
    have gH:Below wr wr wr.drew:=(Below.refl _ _).drew
    generalize wr.drew= wd at *
    clear dc g0
    go_wp2_with fail
    refine (mI.out wd (Aj.out.rd.ae gH)).mono ?_
    rintro e bB ⟨n2,z,vi,f0,vj,f1,vk,f2,vl,f3,vm,f4,rfl,sa,oQ,bx⟩
    have hW:=aj gH bx
    go_wp2
    refine wV ((cO.out _).2 hW) (eb _ _ ?_)
    have DR:=aj I hW;have Ar:=J (cc.out.ae hW cc.out.lt);have PL:=J (jE.out.bm hW);have acn:=J (oQ.base (B':=w.heap.size) (by have:=I.size;have:=gH.size;omega));clear oQ;have Bl:Hid (jd n2= true):=J (by rw [← sa.out.1];exact QM gp.out)
    refine oa fun fT dv=>?_
    refine wpQuiet_nil ?_
    change wpQuiet _ _ _ _ (_ ::_ ::_ ::[]) _
    repeat (go_big_quiet_step (fail))
    refine wpQuiet_nil ?_
    change wpList _ _ _ (_ ::[]) _ _
    have bF:=Ar.out.bX;have Dk:=Ar.out.gX;have FB:=Ar.out.lt
    go_wp2
    clear bF Dk FB
    refine hk 0 fun cD aE=>?_
    refine wU (dv _ _ ?_)
    refine xR ?_
    refine wpQuiet_nil ?_
    change wpQuiet _ _ _ _ (_ ::[]) _
    repeat (go_big_quiet_step (fail))
    refine wpQuiet_nil ?_
    have dR:=aE.hP Ar.out;have Dx:=PL.out.kept aE.fC (fun k aD e=>PL.out.qv Ar.out (by decide) k aD (Option.some.inj e))
    have AS:=acn.out.gO Ar.out aE.fC;have yG:=DR.grown aE.fC DR.size (fun q bj=>by have:=Option.some.inj bj;omega)
    have afV:sY < cD.heap.size:=by have:=hW.size;have:=aE.sz;omega
    clear aE;have g1:=tN (Dx.hj (hf:=eB.rR)) gQ.out (i:=1) (u:= .string y.rep) rfl
    have vS:qC n0 es k= (z.toList == y.rep.toList):=by
     unfold qC
     rw [gQ.out]
     simp only [ft.out]
     rw [sa.out.2]
    have wR:=J dR;have abP:=J Dx;have aca:=J AS;clear dR Dx AS
    cases ck:(z.toList == y.rep.toList)
    ·have dz:(!(z.toList == y.rep.toList))= true:=by rw [ck];rfl
     have yk:=J (Wu bu jD.out (vS.trans ck));clear vS
     go_wp2
     go_ret2
     exact⟨by rw [yk.out];rfl,yG⟩
    ·have dz:(!(z.toList == y.rep.toList))= false:=by rw [ck];rfl
     have Tr:=J (vS.trans ck);clear vS
     have KX:tO n0 es (k + 1)= n2:=by rw [Ws gQ.out,ft.out];exact sa.out.1
     have hA9:gy (qC n0 es) (k + 1)= true:=lJ.2 fun i hi=>by
      exact Zx
     go_wp2
     go_roundw
     case rel=>exact⟨k + 1,n2,vi,f0,vj,f1,vk,f2,vl,f3,vm,f4,by go_num,by omega,J KX,J hA9,Bl,aca.out,wR.out,abP.out,yG⟩
     case measure=>simp [intOf];omega
   ·obtain rfl:k= es.length:=by omega
    have yk:=J (Wt jD.out)
    go_wp2
    go_ret2
    exact⟨by rw [yk.out];rfl,I⟩
open Go.ChangeShapes Go.WideShapes Go.ChangeAt Go.RowKit Go.Deep Go.G9
theorem akB:ownKnob Tryz.prog.godebug= none:=by kernel_rfl
theorem akA:laidOutB Tryz.prog= true:=by kernel_rfl
theorem Gx:Tryz.prog.cellsOf 3= 1:=by kernel_rfl
theorem Ks:Tryz.prog.cellsOf 9= 1:=by kernel_rfl
theorem Kr:Tryz.prog.cellsOf 4= 1:=by kernel_rfl
section
variable {H:Type} {enc:TypeId×Value→H} {w:World} {base:Nat} {sp:Nat→Bool} {bJ:Bool} {fuel:Nat} {cs:List Value} {x:DataW H×List MemPlace}
theorem adt:Tryz.prog.cellsOf 24= 3:=by kernel_rfl
theorem akR (h:DataW.trod enc Tryz.prog w base sp bJ fuel 24 cs= some x):∃(d p:ByteArray) (n:Int),cs= [.string d,.string p,.int .i64 n]∧d.size≤maxLen∧p.size≤maxLen:=by
 obtain⟨xs,n,rfl,_,aT,hlen,cT⟩:=DataW.trod_struct Tryz.underlying24 h
 match cs,aT.trans adt with
 | [c0,av,c2],_=>
  obtain⟨n0,e0,dZ⟩:=NN hlen cT 0 _ rfl Tryz.underlying9 Ks
  obtain⟨n1,e1,eI⟩:=NN hlen cT 1 _ rfl Tryz.underlying9 Ks
  obtain⟨n2,e2⟩:=Io hlen cT 2 _ rfl Tryz.underlying3 Gx
  simp at e0 e1 e2
  subst e0 e1 e2
  exact⟨n0,n1,n2,rfl,dZ,eI⟩
end
open Go.ChangeShapes Go.WideShapes Go.ChangeAt Go.RowKit Go.Deep Go.G9
section
variable {H:Type} {enc:TypeId×Value→H} {w:World} {base:Nat} {sp:Nat→Bool} {bJ:Bool} {fuel:Nat} {cs:List Value} {x:DataW H×List MemPlace}
theorem QH:Tryz.prog.cellsOf 87= 7:=by kernel_rfl
theorem akS (h:DataW.trod enc Tryz.prog w base sp bJ fuel 87 cs= some x):∃y:aK,cs= y.cells:=by
 obtain⟨xs,n,rfl,_,aT,hlen,cT⟩:=DataW.trod_struct Tryz.underlying87 h
 match cs,aT.trans QH with
 | [c0,av,c2,c3,c4,c5,sU],_=>
  obtain⟨n0,e0⟩:=Io hlen cT 0 _ rfl Tryz.underlying3 Gx
  obtain⟨n1,e1,eI⟩:=NN hlen cT 1 _ rfl Tryz.underlying9 Ks
  obtain⟨n2,e2⟩:=Io hlen cT 2 _ rfl Tryz.underlying3 Gx
  obtain⟨n3,e3⟩:=NM hlen cT 3 _ rfl Tryz.underlying4 Kr
  obtain⟨n4,e4⟩:=NM hlen cT 4 _ rfl Tryz.underlying4 Kr
  obtain⟨n5,e5⟩:=NM hlen cT 5 _ rfl Tryz.underlying4 Kr
  obtain⟨n6,e6⟩:=Io hlen cT 6 _ rfl Tryz.underlying3 Gx
  exact⟨⟨n0,n1,n2,n3,n4,n5,n6,eI⟩,by simp_all [aK.cells]⟩
end
open Go.RowKit Go.G9
theorem aju (Aa:Option Addr) (Dd:Nat) (xs:List aK) (zi:xs.length≤maxLen) (ag:Int) (af:Int) (x:fU) (agX:x.eP.size≤maxLen) (agY:x.eR.size≤maxLen) (w:World) (Gi:aS 7 aK.cells w Aa xs) (bO:nF w):
 Calls Tryz.prog 3 #[.slice Aa xs Dd,ag,af,.agg #[x.eP,x.eR,x.dW]] w fun e ah=>e= .returned true∧Below w w ah:=by
 go_in
 go_wp2_with fail
 refine (anH Aa Dd xs zi 1048576 (by omega) (by omega) _ (Gi.ae az)).mono ?_
 rintro e bh ⟨fx,rfl,aqg,pR,LY,br⟩
 have au:=be w br;have bW:=au.size;have I:Below w w bh:=au;have jM:aB bh (w.heap.size) 24 #[x.eP,x.eR,x.dW]:=aB.ae (by repeat (first | exact aB.new _ _ _ | exact aB.HW _ _ _ _ | exact aB.Nk _ _ _ _ _ | refine aB.alloc ?_ _)) br (by simp <;> omega);have aqF:=jM.lt;have nL:=jM.cq
 by_cases h00:fx < 0
 ·go_wp2
  go_ret
  exact⟨rfl,aj I az⟩
 clear nL
 have Bn:xs.length≤1048576:=by omega
 clear LY;have nL:=jM.cq
 go_wp2_with fail
 refine (anG x agX agY fx (by omega) (by omega) _).mono ?_
 rintro e aJ ⟨hG,rfl,Mt,Hn,yU,aL⟩
 clear nL;have al:=be bh aL;have z2:=al.size;replace I:=aj I al;replace jM:=jM.to al;have nL:=jM.cq
 by_cases h03:hG < 0
 ·go_wp2
  go_ret
  exact⟨rfl,aj I az⟩
 clear nL
 have Hs:x.eP.size + x.eR.size≤1048576:=by omega
 clear yU
 obtain⟨en,gj⟩ :∃X:World→Prop,∀V,X V↔Below aJ aJ V:=⟨_,fun _=>Iff.rfl⟩
 have cO:=J gj;clear gj
 haveI:Nonempty (cH en):=⟨⟨aJ,(cO.out _).2 (Below.refl _ _)⟩⟩
 have nL:=aB.jv (fun K:cH en=>(jM.ae ((cO.out _).1 K.holds) jM.lt))
 go_upto_region 8 with fail
 refine nh en [([0,2,3,4],1),([],5),([],6)] [7,8,9,10,11] (by kernel_rfl) (by kernel_rfl) ((cO.out _).2 (Below.refl _ _).drew) ?_
 have LU:Below aJ aJ aJ.drew:=(Below.refl _ _).drew
 generalize aJ.drew= wd at *
 refine gr fun fT dv=>?_
 change wpQuiet _ _ _ _ (_ ::_ ::_ ::_ ::[]) _
 repeat (go_big_quiet_step (fail))
 refine wpQuiet_nil ?_
 change wpList _ _ _ (_ ::[]) _ _
 go_wp2_with fail
 refine (Ot Aa Dd xs Bn _ (Gi.ae (aj I LU))).mono ?_
 rintro e xQ ⟨aby,rfl,JX,Sv⟩
 have uB:=aj LU Sv
 go_wp2
 refine gw ((cO.out _).2 uB) (dv _ _ ?_)
 refine gr fun fT dv=>?_
 change wpQuiet _ _ _ _ ([]) _
 refine wpQuiet_nil ?_
 change wpList _ _ _ (_ ::[]) _ _
 go_wp2_with fail
 refine (XG x Hs _).mono ?_
 rintro e II ⟨rfl,LA⟩
 have LS:=aj uB LA
 go_wp2
 refine gw ((cO.out _).2 LS) (dv _ _ ?_)
 refine gr fun fT dv=>?_
 change wpQuiet _ _ _ _ ([]) _
 refine wpQuiet_nil ?_
 change wpList _ _ _ (_ ::[]) _ _
 go_wp2_with fail
 refine (amQ aby xs.length xs Bn ag af x Hs _ (JX.hj.ae LA) JX.uI (Nat.le_refl _)).mono ?_
 rintro e bB ⟨rfl,afD⟩
 have aP:=aj LS afD
 go_wp2
 refine gw ((cO.out _).2 aP) (dv _ _ ?_)
 refine kD ?_
 change wpQuiet _ _ _ _ (_ ::_ ::_ ::_ ::_ ::[]) _
 repeat (go_big_quiet_step (fail))
 refine wpQuiet_nil ?_
 clear LU uB LS Sv LA cO JX nL;have z3:=aP.size;replace I:=aj I aP;replace jM:=jM.to aP;have nL:=jM.cq
 go_wp2_with fail
 refine (Ot Aa Dd xs Bn _ (Gi.ae (aj I az))).mono ?_
 rintro e bU ⟨Jf,rfl,rM,cY⟩
 clear nL;have bN:=be bB cY;have z4:=bN.size;replace I:=aj I bN;replace jM:=jM.to bN
 have aqq:Kf [.slice Jf xs xs] (bB.heap.size) (bU.heap.size):=by
  intro v ax k aD
  simp only [List.mem_cons,List.not_mem_nil,or_false] at ax
  subst ax
  have h:=rM.lt k aD
  (try simp at h)
  omega
 have nL:=jM.cq
 go_wp2_with fail
 refine (XG x Hs _).mono ?_
 rintro e dB ⟨rfl,eD⟩
 clear nL;have cK:=be bU eD;have z5:=cK.size;replace I:=aj I cK;replace rM:=rM.bm cK;replace jM:=jM.to cK;have nL:=jM.cq
 go_wp2_with fail
 refine (aio Jf xs.length xs Bn ag af x Hs _ (rM.hj.ae az) rM.uI (Nat.le_refl _) (bO.ae (aj I az))).mono ?_
 rintro e ju ⟨rfl,ou⟩
 clear nL;have eQ:=be dB ou;have eO:=eQ.size;replace I:=aj I eQ;replace rM:=rM.bm eQ;replace jM:=jM.to eQ;have nL:=jM.cq
 go_wp2_with fail
 refine (Ot Aa Dd xs Bn _ (Gi.ae (aj I az))).mono ?_
 rintro e wD ⟨Pf,rfl,Ge,tg⟩
 clear nL;have mY:=be ju tg;have gG:=mY.size;replace I:=aj I mY;replace rM:=rM.bm mY;replace jM:=jM.to mY
 have aqr:Kf [.slice Pf xs xs] (ju.heap.size) (wD.heap.size):=by
  intro v ax k aD
  simp only [List.mem_cons,List.not_mem_nil,or_false] at ax
  subst ax
  have h:=Ge.lt k aD
  (try simp at h)
  omega
 have nL:=jM.cq
 go_wp2_with fail
 refine (adZ Jf Pf xs.length xs.length xs Bn _ (rM.hj.ae az) (Ge.hj.ae az)).mono ?_
 rintro e nE ⟨rfl,DP⟩
 clear nL;have rm:=be wD DP;have gW:=rm.size;replace I:=aj I rm;replace rM:=rM.bm rm;replace Ge:=Ge.bm rm;replace jM:=jM.to rm;have nL:=jM.cq
 go_wp2
 go_ret
 exact⟨rfl,aj I az⟩
end Go.Proofs.YtlaaemmmbodaaaaGreatDoor
namespace Go.G9
open Go.ChangeShapes Go.WideShapes Go.ChangeAt Go.RowKit Go.Deep
theorem XK {H:Type} {enc:TypeId×Value→H} {P:Program} {w:World} {sp:Nat→Bool}:∀{wk:List String} {gs:List (DataW H)} {ps:List MemPlace},DataW.TrodVars enc P w sp wk gs ps→gs.length= wk.length
 | [],[],_,_=>rfl
 | _ ::_,_ ::_,_,h=>by obtain⟨_,_,_,_,_,_,_,_,_,_,h2,_⟩:=h;simp [XK h2]
 | [],_ ::_,_,h=>h.elim
 | _ ::_,[],_,h=>h.elim
theorem ajt {H:Type} {enc:TypeId×Value→H} {P:Program} {fn:Func} {s:ChangeSpec} {W eF:World} {args:Array Value} {pE gs:List (DataW H)} {before:List MemPlace} {rt:TypeId}
  (Hj:laidOutB P= true) (Mv:∀t ∈ fn.params.toList,P.readableRec t= true∧t < P.types.size) (Mx:fn.resultTypes= #[rt]) (Lz:P.underlying rt= some .bool) (ML:varsRowed P s.vars= true)
  (MC:∀l g:List (DataW H),l.length= fn.params.toList.length→g.length= s.vars.length→s.fn H (l ++ g)= {results:=[.lit (.bool true)],args:=l,vars:=g})
  (bL:DataW.Whole enc P fn.params.toList s.vars false W args.toList pE gs before) (aF:Below W W eF):s.post enc P fn false true false false W args (.bool true) eF:=by
 have bu:=bL.lt;have Lm:=bL
 obtain⟨p,q,aX,hM,rfl,afU,Me⟩:=bL
 have mZ:=MC pE gs (XJ aX) (XK hM)
 refine⟨pE,gs,p ++ q,[],p,q,Lm,?_,?_,?_,aF.frame _,fun h=>by cases h⟩
 ·rw [mZ,Mx];exact trodAll_mk1 (shut_bool Lz true)
 ·rw [mZ];exact XI Hj aF Mv (fun x aw=>bu x (List.mem_append_left _ aw)) aX
 ·rw [mZ];exact Below.trodVars Hj aF ML hM
theorem adH {H:Type} {enc:TypeId×Value→H} {C:Checked} {os:Os} {f:FuncId} {fn:Func} {s:ChangeSpec} {F:Stop.Interp} {rt:TypeId} {laid:List (String×DataW Unit)} (own:ownKnob C.prog.godebug= none) (started:os.Started) (akf:C.prog.inits.idxOf? f= none) (LI:C.prog.funcs[f]? =some fn)
  (witness:∃(w:World) (tape:Tape) (i:Input),w.os= os∧(w.forCall tape i).Shaped C.prog∧i.vars= []∧Input.okWide C.prog (w.forCall tape i) .any w.heap.size f i∧
   (OpenSpec.ofChange s).preRow enc C.prog fn [] false laid (w.forCall tape i).memory i.args∧({}:Assume).holds C.prog (lone (Frame.enter C.prog f i.args .normal) [] (w.forCall tape i)))
  (Hj:laidOutB C.prog= true) (Mv:∀t ∈ fn.params.toList,C.prog.readableRec t= true∧t < C.prog.types.size) (Mx:fn.resultTypes= #[rt]) (Lz:C.prog.underlying rt= some .bool) (ML:varsRowed C.prog s.vars= true)
  (MC:∀l g:List (DataW H),l.length= fn.params.toList.length→g.length= s.vars.length→s.fn H (l ++ g)= {results:=[.lit (.bool true)],args:=l,vars:=g})
  (walk:∀(W:World) (base:Nat) (args:Array Value) (pE:List (DataW H)) (p:List MemPlace),laidMetH C.prog laid W→W.ShapedOpen C.prog→(∀(j:Nat) t v,fn.params[j]? =some t→args[j]? =some v→Value.okWide C.prog W .any base t v)→
   DataW.TrodAll enc C.prog W 0 (fun _=>true) true fn.params.toList args.toList pE p→Calls C.prog f args W fun e eF=>e= .returned true∧Below W W eF):
  ReturnsInHanded {} C os f .any ((OpenSpec.ofChange s).preRow enc C.prog fn [] false laid) (((OpenSpec.ofChange s).at F).post enc C.prog fn false true false false):=by
 refine returnsInHanded_of_row (C:=C) (s:=OpenSpec.ofChange s) own started akf LI witness ?_
 intro W base args pE gs before rn bL _ _ _ gK kn _
 have Lm:=bL
 obtain⟨p,q,aX,_,_,_,_⟩:=bL
 exact (walk W base args pE p gK kn rn aX).mono fun e eF ⟨he,aF⟩=>⟨_,he,ajt (s:=s) Hj Mv Mx Lz ML MC Lm aF⟩
theorem alb {α β aoq:Type} {x:Option (α×β×aoq)} {a:α} {b:β} (h:x.map (fun y=>(y.1,y.2.1))= some (a,b)):∃c,x= some (a,b,c):=by
 cases x with
 | none=>cases h
 | some y=>obtain⟨zZ,jB,IQ⟩:=y;simp at h;obtain⟨rfl,rfl⟩:=h;exact⟨IQ,rfl⟩
end Go.G9
namespace Go.Proofs.YtlaaemmmbodaaaaGreatDoor
open Go.ChangeShapes Go.WideShapes Go.ChangeAt Go.RowKit Go.Deep Go.G9
theorem ajr:(Rows.laid_internal_strconv_uint64pow10:DataW Unit)= Lib.tabData .u64 Lib.pow10Tab:=rfl
theorem anN {laid:List (String×DataW Unit)} {W:World} (hf:laid.filter (fun x=>x.1 == "internal/strconv.uint64pow10")= [("internal/strconv.uint64pow10",Rows.laid_internal_strconv_uint64pow10)]) (h:laidMetH Tryz.prog laid W):jF W:=by
 have h1:=h.filter (fun x=>x.1 == "internal/strconv.uint64pow10")
 rw [hf,ajr] at h1
 have h2:=Lib.tabIs_of_head (P:=Tryz.prog) (rest:=[]) (t:=290) (e:=93) KJ (by kernel_rfl) Tryz.underlying290 Tryz.underlying93 (by kernel_rfl) (by kernel_rfl) h1
 refine⟨?_,h2⟩
 have h3:=h2.cell KJ 0 (by decide)
 exact World.block_lt_of_cell? W _ h3
open Go.RowKit Go.G9
open Go.ChangeShapes Go.WideShapes Go.ChangeAt Go.Deep
open Go.ChangeMaps
set_option maxHeartbeats 4000000
theorem aeb (u:TypeId) (h:Tryz.prog.typeName? 3 u= some "*errors.errorString"):u= 326:=
 typeName_ptr_named (nm:= "errors.errorString") (by rw [show "*" ++ "errors.errorString" = "*errors.errorString" by decide];kernel_rfl) (by kernel_rfl) (by decide) u (by rw [show "*" ++ "errors.errorString" = "*errors.errorString" by decide];exact h)
theorem aec {laid:List (String×DataW Unit)} {W:World} (hf:laid.filter (fun x=>x.1 == "strconv.ErrSyntax")= [("strconv.ErrSyntax",Rows.laid_strconv_ErrSyntax)]) (h:laidMetH Tryz.prog laid W):Ab W:=by
 have h1:=h.filter (fun x=>x.1 == "strconv.ErrSyntax")
 rw [hf,MakeChecks.laidMetH_plain _ _ _ (by kernel_rfl)] at h1
 obtain⟨a0,jg,Ty,-,-,-⟩:=laid_sentinel h1 KK (by kernel_rfl) Tryz.underlying257 aeb Tryz.underlying326 Tryz.underlying328 rfl rfl Tryz.underlying9 (by kernel_rfl) (by kernel_rfl)
 exact⟨World.block_lt_of_cell? W _ (World.var?_cell KK Ty 0),_,_,Ty⟩
theorem ajW {W:World} (h:W.ShapedOpen Tryz.prog):yr W:=by
 obtain⟨m,hm⟩:=cell_of_shapedOpen_int (P:=Tryz.prog) (g:=1) (t:=3) (zero:=#[(0:Int)]) h (of_decide_eq_true (by kernel_rfl)) (by kernel_rfl) rfl (by kernel_rfl) (by kernel_rfl) Tryz.underlying3
 exact⟨World.block_lt_of_cell? W _ hm,m,hm⟩
open Go.RowKit Go.G9
open Go.ChangeShapes Go.WideShapes Go.ChangeAt Go.Deep
open Go.ChangeMaps
set_option maxHeartbeats 4000000
theorem alo (os:Os) {H:Type} (enc:TypeId×Value→H):∃places,DataW.whole enc Tryz.prog ((World.laidAll Tryz.prog os Rows.fnExactReplayLogRow.laid).forCall (fun _ _=>0) ⟨#[],#[.slice none 0 0,(0:Int),(0:Int),.agg #[.string ⟨#[]⟩,.string ⟨#[]⟩,(0:Int)]],[]⟩).memory Tryz.f3.params.toList Rows.fnExactReplayLogSpec.vars false (#[.slice none 0 0,(0:Int),(0:Int),.agg #[.string ⟨#[]⟩,.string ⟨#[]⟩,(0:Int)]]:Array Value).toList 8= some ([.nil,.lit (.int .i64 0),.lit (.int .i64 0),.agg [.lit (.string []),.lit (.string []),.lit (.int .i64 0)]],[],places):=
 alb (by kernel_rfl)
theorem alm (os:Os):laidMet Tryz.prog Rows.fnExactReplayLogRow.laid ((World.laidAll Tryz.prog os Rows.fnExactReplayLogRow.laid).forCall (fun _ _=>0) ⟨#[],#[.slice none 0 0,(0:Int),(0:Int),.agg #[.string ⟨#[]⟩,.string ⟨#[]⟩,(0:Int)]],[]⟩).memory:=
 laidMet_laidAll _ (by kernel_rfl) (by kernel_rfl)
theorem ali (os:Os) (started:os.Started) (H:Type) (enc:TypeId×Value→H) (F:Stop.Interp):
  ReturnsInHanded {} Tryz.checked os 3 .any ((OpenSpec.ofChange Rows.fnExactReplayLogSpec).preRow enc Tryz.prog Tryz.f3 Rows.fnExactReplayLogRow.domain false Rows.fnExactReplayLogRow.laid) (((OpenSpec.ofChange Rows.fnExactReplayLogSpec).at F).post enc Tryz.prog Tryz.f3 false true false false):=by
 obtain⟨places,aw⟩:=alo os enc
 refine adH (C:=Tryz.checked) (rt:=4) akB started (by kernel_rfl) Tryz.func3
  (witness_row_atRef (enc:=enc) (C:=Tryz.checked) false (World.laidAll Tryz.prog os Rows.fnExactReplayLogRow.laid) #[.slice none 0 0,(0:Int),(0:Int),.agg #[.string ⟨#[]⟩,.string ⟨#[]⟩,(0:Int)]] (World.laidAll_os _ _ _) (by kernel_rfl) (by kernel_rfl) (by kernel_rfl) (OpenSpec.preRow_of_cond 8 aw (by kernel_rfl) (fun k aD=>by cases aD) (by kernel_rfl) (alm os)))
  akA (by rw [Tryz.params3];intro t ct;simp at ct;rcases ct with rfl | rfl | rfl | rfl;all_goals exact⟨by kernel_rfl,of_decide_eq_true (by kernel_rfl)⟩) rfl Tryz.underlying4 (by kernel_rfl)
  (by rw [Tryz.params3];intro l g aT cT;match l,g,aT,cT with | [d0,d1,d2,d3],[],_,_=>rfl) ?_
 intro W base args pE p gK kn rn aX
 rw [Tryz.params3] at aX rn
 obtain⟨v0,v1,v2,v3,d0,d1,d2,d3,ch,dq,cZ,uL,rfl,rfl,rfl,h0,h1,h2,h3⟩:=trodAll_four aX
 obtain⟨ag,rfl,rfl,rfl,aqD⟩:=open_int Tryz.underlying3 (rn 1 3 v1 rfl rfl) h1
 obtain⟨af,rfl,rfl,rfl,aqC⟩:=open_int Tryz.underlying3 (rn 2 3 v2 rfl rfl) h2
 obtain⟨aoC,aqu,aoO,rfl⟩:=okWide_slice Tryz.underlying22 (rn 0 22 v0 rfl rfl)
 obtain⟨apw,aer⟩:=h0
 obtain⟨aor,aoN,xs,Rk,ajq,acN⟩:=akV aK.cells 7 (by decide) Tryz.underlying22 QH (fun _ _ _ h=>akS h) aer
 simp [Value.cells] at Rk
 obtain⟨rfl,rfl,rfl⟩:=Rk
 obtain⟨adC,rfl,_⟩:=okWide_struct Tryz.underlying24 (rn 3 24 v3 rfl rfl)
 obtain⟨apv,aeq⟩:=h3
 obtain⟨d,p,n,adR,jg,s1⟩:=akR aeq
 rw [acW (cs:=adC) adR]
 exact aju _ _ xs ajq ag af ⟨d,p,n⟩ jg s1 W acN ⟨anN rfl gK,aec rfl gK,ajW kn⟩
end Go.Proofs.YtlaaemmmbodaaaaGreatDoor
