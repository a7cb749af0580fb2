/- The law of consoles: executing any command in a valid console yields a valid console whose log records the command and its reply; for every input; no conditions. -/
import Derived.Deep.RegionHeld3
import Derived.Test.YtlaaemmmbodaaaaGreatDoorFx13
set_option maxHeartbeats 16000000
set_option maxRecDepth 100000
set_option linter.all false
open Go Go.RowKit Go.ChangeShapes Go.WideShapes Go.ChangeAt Go.Deep Go.ChangeMaps Go.Proofs.YtlaaemmmbodaaaaGreatDoor
variable {x:ft}
namespace Go.Proofs.YtlaaemmmbodaaaaGreatDoor
theorem azV (x:dE) (aq au ak al aF:QR) (c0 aw c2 c3 c4:Nat) (h0:x.bT) (h1:x.ch) (h2:x.cz) (h3:x.cC) (h4:x.bQ) (cF:x.bY.size + x.bW.size<=1048576) (v:Bool) (az:gJ x= v) (w:World) (bk:aX 7 aM.cells w aq x.bT) (bg:aX 3 aZ.cells w au x.ch) (bp:aX 1 cE w ak x.cz) (bj:aX 3 aW.cells w al x.cC) (cD:aX 3 Out.cells w aF x.bQ) (ev:x.bT.length<=c0) (eU:x.ch.length<=aw) (cL:x.cz.length<=c2) (dS:x.cC.length<=c3) (hl:x.bQ.length<=c4):
 Rd 22 #[.agg #[aq x.bT c0,au x.ch aw,x.dw,x.dp,x.dF,ak x.cz c2,al x.cC c3,aF x.bQ c4,x.bY,x.bW,x.bM]] w λe ah=>e= .returned v/\Below w w ah:=by
 go_in
 go_upto_region 1 with fail
 refine dh λaO ar aR=>?_
 obtain⟨bk,bg,bp,bj,cD⟩:=Xv bk bg bp bj cD ar;have U:=ar;have af:=aR.ca;have tW:=aR.lt
 go_wp2_with fail
 refine (Bm x h0 h1 h2 h3 h4 cF v az (bk.ad ao) (bg.ad ao) (bp.ad ao) (bj.ad ao) (cD.ad ao) ev eU cL dS hl).mono ?_
 rintro e aI ⟨rfl,aQ⟩
 have aj:=be aO aQ;replace U:=ai U aj;obtain⟨bk,bg,bp,bj,cD⟩:=Xv bk bg bp bj cD aj;replace aR:=aR.to aj;replace af:=aR.ca
 go_wp2
 go_ret
 exact⟨rfl,(ai U ao)⟩
theorem apn {y:fi} (h:Cl x y≠0):eK x y= x:=by
 have h0:(rS x.d x.p x.bM y.c y.r && !(x.bM == 60))= false:=by
  unfold Cl wz at h
  cases de:rS x.d x.p x.bM y.c y.r
  .rfl
  .rw [de,XX rfl] at h
   cases aB:x.bM == 60
   .rw [aB] at h;simp at h
   .rfl
 unfold eK vo xG
 rw [h0]
 simp only [ZJ,if_false]
 exact ft.ext rfl (xH x) rfl
theorem fu.awm {B g:Nat} {w ah:World} {bN:QR} {d0:Nat} {bZ:QR} {d1:Nat} {aU:QR} {d2:Nat} {bd:QR} {d3:Nat} {bI:QR} {d4:Nat} {rs:List aM} {qs:List aZ} {ws:List Int} {ae:List aW} {os:List Out} {cs:Array Value} (h:fu B w bN d0 bZ d1 aU d2 bd d3 bI d4 rs qs ws ae os) (aB:ay w g 31 cs) (cy:w.grownBy ah (some g)):fu B ah bN d0 bZ d1 aU d2 bd d3 bI d4 rs qs ws ae os:=
 ⟨h.jg.kept cy (λk ax e=>h.jg.mP aB WG k ax (Wx e)),h.hx.kept cy (λk ax e=>h.hx.mP aB WG k ax (Wx e)),h.fc.kept cy (λk ax e=>h.fc.mP aB WG k ax (Wx e)),h.fE.kept cy (λk ax e=>h.fE.mP aB WG k ax (Wx e)),h.kK.kept cy (λk ax e=>h.kK.mP aB WG k ax (Wx e))⟩
theorem apo (h:x.ok= true) (y:fi):(eK x y).ok= true:=by
 by_cases aN:Cl x y= 0
 .exact (Qh aN).2.1
 .rw [apn aN];exact h
theorem aqq (A:QR) (c:Nat) (cs:List UInt8) (cK:cs) (w:World) (bB:aX 1 Ac w A cs):
 Rd 17 #[A cs c] w λe ah=>∃(x:dE) (y:VU) (bN:QR) (d0:Nat) (bZ:QR) (d1:Nat) (aU:QR) (d2:Nat) (bd:QR) (d3:Nat) (bI:QR) (d4:Nat),e= .returned (.tuple #[.agg #[bN x.bT d0,bZ x.ch d1,.int .i64 x.dw,.int .i64 x.dp,.int .i64 x.dF,aU x.cz d2,bd x.cC d3,bI x.bQ d4,.string x.bY,.string x.bW,.int .i64 x.bM],y])/\lQ x/\y.size<=4000/\fu w ah bN d0 bZ d1 aU d2 bd d3 bI d4 x.bT x.ch x.cz x.cC x.bQ/\Below w w ah:=by
 go_in
 go_upto_region 2 with fail
 have bC:∀eH,A= some eH->0 < cs.length->eH.block < w.heap.size:=λeH h h0=>by
  obtain⟨b,off,h1,h2,_⟩:=bB h0
  rw [h1] at h;cases h;exact h2
 refine fU λiB ar J ru=>?_
 have U:=ar;obtain⟨z0,bF,z2,z3,z4,z5,ek,ig,iE,z9,iD⟩:=J.ca
 obtain⟨p,zw⟩ :∃p,p= w.heap.size + 1:=⟨_,rfl⟩
 have aA:gX iB p A c cs 0:=by rw [zw];exact⟨⟨0,0,ru,by decide,by decide⟩,bB.ad U,λeH h h0=>by have:=bC eH h h0;omega⟩
 rw [<- zw]
 have afx:w.heap.size < p:=KK
 have pW:=aA.lt;have MO:w.grownBy iB (some p):=bL U _;have afo:=U.size;clear bC ru bB zw U z0 bF z2 z3 z4 z5 ek ig iE z9 iD
 go_wp2_with fail
 refine (acE p A c cs cK 0 KK iB aA).mono ?_
 rintro e aI ⟨x,ck,e0,cf,e1,ct,e2,cu,e3,cl,e4,rfl,bz,aV,aP⟩
 have ou:=J.bV aP.2;have uv:=aP.1;have Eu:=bx MO aP.2;have nj:=uv.lt;clear aP aA MO J
 go_upto_region 3 with fail
 refine Xi λbw sI bJ=>?_
 obtain⟨rG,zB⟩ :∃b,b= aI.heap.size:=⟨_,rfl⟩
 rw [<- zB] at bJ ⊢
 have qP:p < rG:=KK
 have U:=I bz;have fL:=I bJ;have jN:=I (ou.to sI);have iJ:=I (aV.aK sI);have hK:=I (uv.aK sI);have aG:=I (bx Eu (bL sI _));clear zB bJ ou Eu uv sI aV bz nj
 go_wp2_with fail
 refine (uR 40 p A c cs cK 2920 KK KK _ hK.o).mono ?_
 rintro e bH ⟨b,rfl,aP⟩
 have tq:=I (fL.o.bV aP.2);have xD:=I (jN.o.bV aP.2);have kX:=I (iJ.o.cur pW aP.2);have qw:=I aP.1;have rL:=I (bx aG.o aP.2);clear fL jN iJ hK aG
 go_upto_if 15 with fail
 go_cut [3] (λv3 W=>v3= .string ⟨#[]⟩/\∃cB:dE,lQ cB/\ay W rG 46 #[ck cB.bT e0,cf cB.ch e1,cB.dw,cB.dp,cB.dF,ct cB.cz e2,cu cB.cC e3,cl cB.bQ e4,cB.bY,cB.bW,cB.bM]/\ay W w 46 #[(),(),(0:Int),(0:Int),(0:Int),(),(),(),.string ⟨#[]⟩,.string ⟨#[]⟩,(0:Int)]/\fu iB W ck e0 cf e1 ct e2 cu e3 cl e4 cB.bT cB.ch cB.cz cB.cC cB.bQ/\gX W p A c cs 2980/\w.grownBy W (some p))
 case first=>
  cases b
  .go_wp2_with fail
   go_meet
   exact⟨rfl,x,U.o,tq.o,xD.o,kX.o,qw.o.mono KK,rL.o⟩
  .go_upto_region 5 with fail
   refine Xi λcO tC br=>?_
   obtain⟨lx,Nw⟩ :∃b,b= bH.heap.size:=⟨_,rfl⟩
   rw [<- Nw] at br ⊢
   have Bf:rG < lx:=by have:=tq.o.lt;omega
   have aaR:=I br;have bJ:=I (tq.o.ad tC tq.o.lt);have J:=I (xD.o.ad tC xD.o.lt);have aV:=I (kX.o.aK tC);have aA:=I (qw.o.aK tC);have dd:=I (bx rL.o (bL tC _));clear Nw br tC tq xD kX qw rL
   go_wp2_with fail
   refine (iI 2 p A c cK 2922 KK KK _ aA.o).mono ?_
   rintro e dk ⟨r,rfl,⟨pX,_,gR⟩,aP⟩
   replace gR:=gR KK;have aaS:=I (aaR.o.bV aP.2);have qz:=I (bJ.o.bV aP.2);have ue:=I (J.o.bV aP.2);have sv:=I (aV.o.cur pW aP.2);have pM:=I aP.1;have ua:=I (bx dd.o aP.2);clear bJ J aV aA dd
   obtain⟨ev,GN⟩ :∃k:Nat,59 + r= k:=⟨(59 + r).toNat,by omega⟩
   clear aaR
   go_upto_region 6 with fail
   go_loopw [7] (λi wr=>∃(m:Nat) (gP:ft),i= .int .i64 m/\m<=60/\Hid (gP.ok= true)/\ay wr lx 31 #[gP.bY,gP.bW,gP.bM]/\dk.grownBy wr (some lx)) (λi _=>(intOf i).toNat)
   case atStart=>exact⟨ev,⟨⟨#[]⟩,⟨#[]⟩,0⟩,rfl,by omega,I XS.1,aaS.o,ht _ _⟩
   case round=>
    obtain⟨m,gP,rfl,hm,pv,br,cy⟩:=hrel
    have hp:=I br;have Is:=I cy;have eG:=br.cb;have QD:=br.kH;clear br cy
    by_cases EI:0 < m
    .have ki:(m:Int) - 1= ((m - 1:Nat):Int):=KK
     have oc:=I (SJ gP (Xr (JU pv.o).1 WG) ⟨(⟨#[120]⟩ :VU),⟨#[]⟩⟩ WG WG wr)
     go_wp2_with fail
     clear eG QD
     refine oc.o.mono ?_
     rintro e oG ⟨rfl,aB⟩
     have VQ:=hp.o.ad aB hp.o.lt;have eG:=VQ.cb;have QD:=VQ.kH
     go_upto_region 7 with fail
     clear eG QD
     refine ra 0 λcP aE=>?_
     have asb:=aE.ayd VQ;have en:=bx (bx Is.o (bL aB _)) aE.eC;clear aE
     go_wp2
     go_roundw
     case rel=>exact⟨m - 1,eK gP ⟨(⟨#[120]⟩ :VU),⟨#[]⟩⟩,by rw [<- ki],by omega,I (apo pv.o _),asb,en⟩
     case measure=>simp [intOf];omega
    .have pk:=qz.o.nf Is.o KK;have kP:=I pk;have lW:=I (ue.o.nf Is.o KK);have od:=I (sv.o.awm aaS.o Is.o);have lV:=I (pM.o.row Is.o (λk ax=>by have:=Wx ax;omega));have oZ:=I (nR ua.o Is.o (λk ax=>by have:=Wx ax;omega))
     have bE:=pk.ca;have qk:=pk.hk;clear pk
     go_wp2_with fail
     clear bE qk eG QD
     refine ra 8 λcP aE=>?_
     go_meet
     have kg:=aE.aHT kP.o;have yX:=lV.o.row aE.eC (λk ax=>by have:=Wx ax;omega)
     exact⟨rfl,⟨x.bT,x.ch,x.dw,x.dp,x.dF,x.cz,x.cC,x.bQ,gP.bY,gP.bW,gP.bM⟩,⟨U.o.dD,U.o.dc,U.o.dr,U.o.eb,U.o.eL,(JU pv.o).1⟩,kg,aE.dj lW.o,od.o.hb kP.o aE.eC,yX.mono KK,nR oZ.o aE.eC (λk ax=>by have:=Wx ax;omega)⟩
 case rest=>
  obtain⟨rfl,cB,bz,bJ,J,aV,aA,dd⟩:=hcut
  clear U tq xD kX qw rL
  refine Dd ?_ bJ J aV aA dd
  clear bJ J aV aA dd
  intro bJ J aV aA dd
  have U:=I bz;clear bz x
  obtain⟨x,rfl⟩ :∃x,x= cB:=⟨_,rfl⟩
  have bE:=bJ.o.ca
  go_wp2_with fail
  clear bE
  refine (Mn (Xr U.o.dD WG) (Xr U.o.dc WG) cK KK aA.o aV.o.rd.fC aV.o.rd.dM ⟨tM aV.o.jg pW,tM aV.o.hx pW⟩).mono ?_
  rintro e eB ⟨y,rfl,hy,aP⟩
  have qz:=I (bJ.o.bV aP.2);have ue:=I (J.o.bV aP.2);have sv:=I (aV.o.cur pW aP.2);have pM:=I aP.1;have ua:=I (bx dd.o aP.2);clear bJ J aV aA dd
  go_wp2_with fail
  refine (uR 8 p A c cs cK 3000 KK KK _ pM.o).mono ?_
  rintro e fS ⟨dr,rfl,aP⟩
  have kP:=I (qz.o.bV aP.2);have lW:=I (ue.o.bV aP.2);have od:=I (sv.o.cur pW aP.2);have lV:=I aP.1;have oZ:=I (bx ua.o aP.2);clear qz ue sv pM ua
  cases dr
  .have NR:y.size<=4000:=KK
   clear hy;have bE:=kP.o.ca;have af:=lW.o.ca;have eO:=lW.o.hk
   go_wp2
   clear bE af eO
   refine hD 0 λcP aE=>?_
   have cp:ay cP w 46 #[ck x.bT e0,cf x.ch e1,.int .i64 x.dw,.int .i64 x.dp,.int .i64 x.dF,ct x.cz e2,cu x.cC e3,cl x.bQ e4,.string x.bY,.string x.bW,.int .i64 x.bM]:=aE.own lW.o;have ix:=od.o.hb lW.o aE.eC;have ph:=nR oZ.o aE.eC (λk ax=>by have:=Wx ax;omega)
   clear aE
   have z0:=cp.ca
   refine XY (v:= .tuple #[.agg #[ck x.bT e0,cf x.ch e1,.int .i64 x.dw,.int .i64 x.dp,.int .i64 x.dF,ct x.cz e2,cu x.cC e3,cl x.bQ e4,.string x.bY,.string x.bW,.int .i64 x.bM],y]) (by simp [results,Tryz.results17,go_sem,z0]) rfl ?_
   exact⟨x,y,ck,e0,cf,e1,ct,e2,cu,e3,cl,e4,rfl,U.o,by omega,ix.base KK,Cu ph (XZ _) (λk ax=>by have:=Wx ax;omega)⟩
  .go_wp2_with fail
   refine (ajz y (⟨#[32,48,49,97,64,35,44]⟩ :VU) KK WG WG p A c cs cK 3002 KK _ lV.o).mono ?_
   rintro e du ⟨hU,rfl,rD,aP⟩
   have Ga:=I (kP.o.bV aP.2);have rq:=I (lW.o.bV aP.2);have Aq:=I (od.o.cur pW aP.2);have An:=I (bx oZ.o aP.2);clear kP lW od lV oZ;have bE:=Ga.o.ca;have af:=rq.o.ca;have eO:=rq.o.hk
   go_wp2
   clear bE af eO
   refine hD 0 λcP aE=>?_
   have cp:ay cP w 46 #[ck x.bT e0,cf x.ch e1,.int .i64 x.dw,.int .i64 x.dp,.int .i64 x.dF,ct x.cz e2,cu x.cC e3,cl x.bQ e4,.string x.bY,.string x.bW,.int .i64 x.bM]:=aE.own rq.o;have ix:=Aq.o.hb rq.o aE.eC;have ph:=nR An.o aE.eC (λk ax=>by have:=Wx ax;omega)
   clear aE
   have z0:=cp.ca
   refine XY (v:= .tuple #[.agg #[ck x.bT e0,cf x.ch e1,.int .i64 x.dw,.int .i64 x.dp,.int .i64 x.dF,ct x.cz e2,cu x.cC e3,cl x.bQ e4,.string x.bY,.string x.bW,.int .i64 x.bM],hU]) (by simp [results,Tryz.results17,go_sem,z0]) rfl ?_
   exact⟨x,hU,ck,e0,cf,e1,ct,e2,cu,e3,cl,e4,rfl,U.o,by omega,ix.base KK,Cu ph (XZ _) (λk ax=>by have:=Wx ax;omega)⟩
theorem apL (x:dE) (l:VU):(lX x l= x/\(qD x l= (⟨#[110,111]⟩ :VU)\/qD x l= (⟨#[98,97,100]⟩ :VU)\/qD x l= (⟨#[102,117,108,108]⟩ :VU)))\/(gJ x= true/\gJ (lX x l)= true/\iz (lX x l).log= iz x.log ++ [⟨l,qD x l⟩]/\(lX x l).bM= x.bM + 1/\x.bM= ((iz x.log).length:Int)):=by
 cases h:gJ x
 .exact .inl ⟨(Qu (l:=l) h).1,.inl (Qu (l:=l) h).2⟩
 cases bu:mF l ⟨#[]⟩
 .exact .inl ⟨(Qs h bu).1,.inr (.inl (Qs h bu).2)⟩
 cases aN:(x.bM == 60)
 rotate_left
 .exact .inl ⟨(Qt h bu aN).1,.inr (.inr (Qt h bu aN).2)⟩
 obtain⟨e1,e2⟩:=Qv h bu aN
 have de:=Qh (UY h bu aN)
 have br:iz (wF x l).log= iz x.log ++ [⟨l,qb (rE x.nA l).2⟩]:=by rw [Qr];exact de.2.2.1
 have bq:=RM (Co h)
 have cy:(wF x l).bM= ((iz (wF x l).log).length:Int):=by
  have e:(wF x l).log.bM= (wF x l).bM:=rfl
  rw [<- e,Qr];exact de.2.2.2.1
 refine .inr ⟨rfl,?_,?_,?_,bq⟩
 .rw [e1];exact UZ h bu aN
 .rw [e1,e2];exact br
 .rw [e1,cy,br,Xu,Yi]
  have:x.log.bM= x.bM:=rfl
  omega
theorem awO (A:QR) (c:Nat) (cs:List UInt8) (w:World) (bB:aX 1 Ac w A cs) (bX:ob w):
 Rd 4 #[A cs c] w λe ah=>e= .returned true/\Below w w ah:=by
 by_cases zk:65536 < cs.length
 .go_in
  go_wp2_with fail
  refine (KF _ (Xh zk) _).mono ?_
  rintro e w0 ⟨rfl,h0⟩
  rw [h0]
  clear h0 w0
  go_wp2
  go_ret
  exact⟨rfl,Wt _ _⟩
 have cK:cs:=KK
 have KX:=I (Xe zk);replace bB:=I bB;replace bX:=I bX;clear zk
 go_in
 go_wp2_with fail
 refine (KF _ KX.o _).mono ?_
 rintro e w0 ⟨rfl,h0⟩
 rw [h0]
 clear h0 w0
 go_wp2_with fail
 refine (aqq A c cs cK _ bB.o).mono ?_
 rintro e bm ⟨x,l,bN,d0,bZ,d1,aU,d2,bd,d3,bI,d4,rfl,bz,aT,aV,bD⟩
 have U:=I bz;have iu:=I (bz.uN aV);have DG:=I aV.rd;have yB:=I (bX.o.ad bD);have s1:=bD.size;clear bz aV bX
 go_upto_region 4 with fail
 refine zR λaI aQ aR=>?_
 obtain⟨DD,Mx⟩ :∃b,b= bm.heap.size:=⟨_,rfl⟩
 rw [<- Mx] at aR ⊢
 clear Mx;have ts:=I aR;have Ay:=I (ai bD aQ);have FJ:=I (DG.o.ad aQ);have tY:=I (yB.o.ad aQ);have bE:=aR.ca;have ko:=aR.lt;clear aR bD aQ DG yB
 go_wp2_with fail
 refine (RD x iu.o U.o.tJ l KK FJ.o tY.o).mono ?_
 clear bE ko
 rintro e bw ⟨y,z,ck,e0,cf,e1,ct,e2,cu,e3,cl,e4,rfl,cv,gN,bG⟩
 have rK:Hid (lQ y):=I (by rw [<- cv.o.1];exact U.o.w l);have Lk:=I (rK.o.uN gN);have Pt:=I gN.rd;have oh:=I (ts.o.ad bG ts.o.lt);have Az:=I (ai Ay.o bG);have Ij:=I (FJ.o.ad bG);have pL:=I (tY.o.ad bG);clear gN ts Ay FJ tY bG
 go_upto_region 5 with fail
 refine zR λbH db rv=>?_
 obtain⟨xu,ads⟩ :∃b,b= bw.heap.size:=⟨_,rfl⟩
 rw [<- ads] at rv ⊢
 clear ads;have Uq:=I rv;have Ca:=I (oh.o.ad db oh.o.lt);have AA:=I (ai Az.o db);have Ik:=I (Ij.o.ad db);have Pu:=I (Pt.o.ad db);have qw:=I (pL.o.ad db);have bE:=Ca.o.ca;have ko:=Ca.o.lt;clear rv db oh Az Ij Pt pL
 go_wp2_with fail
 refine (OO x iu.o U.o.tJ l KK Ik.o).mono ?_
 clear bE ko
 rintro e cO ⟨hU,z2,lA,f0,lR,f1,lS,f2,lT,f3,lU,f4,rfl,Jn,OF,eM⟩
 obtain⟨rfl,rfl⟩ :y= hU/\z= z2:=⟨by rw [<- Jn.o.1,cv.o.1],by rw [<- Jn.o.2,cv.o.2]⟩
 clear Jn;have Ip:=I OF.rd;have Ur:=I (Uq.o.ad eM Uq.o.lt);have Gc:=I (Ca.o.ad eM Ca.o.lt);have AB:=I (ai AA.o eM);have DH:=I (Ik.o.ad eM);have aaF:=I (Pu.o.ad eM);have oI:=I (qw.o.ad eM);clear OF eM Uq Ca AA Ik Pu qw
 go_upto_region 6 with fail
 refine zR λdk iH iq=>?_
 obtain⟨jS,Mw⟩ :∃b,b= cO.heap.size:=⟨_,rfl⟩
 rw [<- Mw] at iq ⊢
 clear Mw;have LJ:=I iq;have LP:=I (Ur.o.ad iH Ur.o.lt);have wo:=I (Gc.o.ad iH Gc.o.lt);have tr:=I (ai AB.o iH);have Lc:=I (DH.o.ad iH);have aaG:=I (aaF.o.ad iH);have pM:=I (oI.o.ad iH);have aaJ:=I (Ip.o.ad iH);clear iq iH Ur Gc AB DH aaF oI Ip
 obtain⟨v,az⟩ :∃b,gJ x= b:=⟨_,rfl⟩
 have abz:=I az;have GH:=apL x l
 rw [cv.o.1,cv.o.2] at GH
 have cH:=I GH;clear az GH
 obtain⟨dx,AR⟩ :∃C:World->Prop,∀V,C V↔(ay V DD 46 #[bN x.bT d0,bZ x.ch d1,x.dw,x.dp,x.dF,aU x.cz d2,bd x.cC d3,bI x.bQ d4,x.bY,x.bW,x.bM]/\ay V xu 46 #[ck y.bT e0,cf y.ch e1,y.dw,y.dp,y.dF,ct y.cz e2,cu y.cC e3,cl y.bQ e4,y.bY,y.bW,y.bM]/\ay V jS 46 #[lA y.bT f0,lR y.ch f1,y.dw,y.dp,y.dF,lS y.cz f2,lT y.cC f3,lU y.bQ f4,y.bY,y.bW,y.bM]):=⟨_,λ_=>Xt⟩
 replace AR:=I AR;have yY:dx dk.drew:=(AR.o _).2 ⟨wo.o.ad (Wt _ _).drew wo.o.lt,LP.o.ad (Wt _ _).drew LP.o.lt,LJ.o.ad (Wt _ _).drew LJ.o.lt⟩
 haveI:Nonempty (cM dx):=⟨⟨dk.drew,yY⟩⟩
 haveI:Nonempty (cM (λ_=>True)):=⟨⟨dk,trivial⟩⟩
 have bE:=ay.pS (λK:cM dx=>((AR.o _).1 K.holds).1);have kO:=ay.pS (λK:cM dx=>((AR.o _).1 K.holds).2.1);have mW:=ay.pS (λK:cM dx=>((AR.o _).1 K.holds).2.2)
 refine tV dx [([0,1,2,3,4,5],[],6,false),([7,8,9,10,12],[],11,false),([],[],13,false)] [14,15] [] PV PV yY ?_
 have lY:Below dk dk dk.drew:=(Wt _ _).drew;have DI:=I (aaJ.o.ad lY);have nH:=I (pM.o.ad lY);clear aaJ pM;have Gd:=I (wo.o.ad lY wo.o.lt);have Uv:=I (LP.o.ad lY LP.o.lt);have Un:=I (LJ.o.ad lY LJ.o.lt);have vn:=I (ai tr.o lY);have Il:=I (Lc.o.ad lY);have TE:=I (aaG.o.ad lY)
 clear wo LP LJ tr Lc aaG lY;clear yY
 generalize dk.drew= wd at *
 have Ka:(!(z.toList == z.toList))= false:=Wn
 have aHE:(!(v == v))= false:=Wn
 refine jj λhE eu=>?_
 refine Yn ?_
 repeat go_big_quiet_step (fail)
 refine VF ?_
 refine VF ?_
 refine XV ?_
 go_wp2_with fail
 refine (aHX y rK.o.i0 rK.o.i1 rK.o.i2 rK.o.i3 rK.o.i4 TE.o DI.o).mono ?_
 rintro e fS ⟨rfl,gv⟩
 have lV:=I (nH.o.ad gv);have yI:=I (Gd.o.ad gv Gd.o.lt);have PR:=I (Uv.o.ad gv Uv.o.lt);have PL:=I (Un.o.ad gv Un.o.lt);have BZ:=I (ai vn.o gv);have tZ:=I (Il.o.ad gv);have aaH:=I (TE.o.ad gv);clear Gd Uv Un vn Il TE gv;clear DI nH
 go_wp2
 refine nK ((AR.o _).2 ⟨yI.o,PR.o,PL.o⟩) (eu _ _ ?_)
 refine jj λff da=>?_
 refine Yp ?_
 repeat go_big_quiet_step (fail)
 refine VF ?_
 refine VF ?_
 refine XV ?_
 go_wp2_with fail
 refine (zN x U.o.i0 U.o.i1 U.o.i2 U.o.i3 U.o.i4 U.o.tJ _ abz.o tZ.o.fC tZ.o.dM tZ.o.r2 tZ.o.gS tZ.o.ll iu.o.ev iu.o.eU iu.o.cL iu.o.dS iu.o.hl lV.o.t).mono ?_
 rintro e du ⟨rfl,pU⟩
 have xA:=I (lV.o.ad pU);have DX:=I (yI.o.ad pU yI.o.lt);have PS:=I (PR.o.ad pU PR.o.lt);have PM:=I (PL.o.ad pU PL.o.lt);have DV:=I (ai BZ.o pU);have vg:=I (tZ.o.ad pU);have Le:=I (aaH.o.ad pU);clear yI PR PL BZ tZ aaH pU;clear lV
 go_wp2
 refine nK ((AR.o _).2 ⟨DX.o,PS.o,PM.o⟩) (da _ _ ?_)
 refine jj λxE oq=>?_
 refine VF ?_
 refine VF ?_
 refine XV ?_
 go_wp2_with fail
 refine (azV x bN bZ aU bd bI d0 d1 d2 d3 d4 U.o.i0 U.o.i1 U.o.i2 U.o.i3 U.o.i4 U.o.tJ _ abz.o _ vg.o.fC vg.o.dM vg.o.r2 vg.o.gS vg.o.ll iu.o.ev iu.o.eU iu.o.cL iu.o.dS iu.o.hl).mono ?_
 rintro e eB ⟨rfl,eJ⟩
 have yC:=I (xA.o.ad eJ);have rn:=I (DX.o.ad eJ DX.o.lt);have II:=I (PS.o.ad eJ PS.o.lt);have abx:=I (PM.o.ad eJ PM.o.lt);have AD:=I (ai DV.o eJ);have aoe:=I (vg.o.ad eJ);have Lf:=I (Le.o.ad eJ);clear DX PS PM DV vg Le eJ;clear xA
 go_wp2
 refine nK ((AR.o _).2 ⟨rn.o,II.o,abx.o⟩) (oq _ _ ?_)
 refine qu ?_
 refine YB ?_
 repeat go_big_quiet_step (fail)
 refine VF ?_
 refine VF ?_
 clear mW Ka aHE abx AR;replace bE:=rn.o.ca;have ko:=rn.o.lt;replace kO:=II.o.ca;have BJ:=II.o.lt
 rcases cH.o with ⟨rfl,cF⟩ | ⟨_,AX,zt,xO,NM⟩
 .go_wp2_with fail
  refine (aHX _ rK.o.i0 rK.o.i1 rK.o.i2 rK.o.i3 rK.o.i4 Lf.o aoe.o).mono ?_
  rintro e pH ⟨rfl,uC⟩
  clear bE ko kO BJ
  rcases cF with rfl | rfl | rfl
  .go_wp2
   go_ret
   exact⟨rfl,ai AD.o uC⟩
  .go_wp2
   go_ret
   exact⟨rfl,ai AD.o uC⟩
  .go_wp2
   go_ret
   exact⟨rfl,ai AD.o uC⟩
 .have ew:(y.bM == x.bM)= false:=by rw [xO];exact Xb.2 KK
  refine sa ?_ AX zt xO NM;clear AX zt xO NM;intro AX zt xO NM;clear cH
  go_wp2_with fail
  refine (afL y.log rK.o.tJ eB yC.o.t).mono ?_
  rintro e pH ⟨G,g,rfl,lq,uC⟩
  rw [show y.log.ok= true from Co AX.o]
  obtain⟨L,br⟩ :∃L,iz y.log= L:=⟨_,rfl⟩
  rw [br] at lq ⊢
  have DK:Hid (L= iz x.log ++ [⟨l,z⟩]):=I (by rw [<- br];exact zt.o);have xB:=I (yC.o.ad uC);have LN:=I (rn.o.ad uC rn.o.lt);have Uu:=I (II.o.ad uC II.o.lt);have DW:=I (ai AD.o uC);have Io:=I (Lf.o.ad uC);replace lq:=I lq;clear br zt uC ew yC rn II AD Lf;replace bE:=LN.o.ca;replace ko:=LN.o.lt
  replace kO:=Uu.o.ca;replace BJ:=Uu.o.lt
  go_wp2_with fail
  refine (zN y rK.o.i0 rK.o.i1 rK.o.i2 rK.o.i3 rK.o.i4 rK.o.tJ _ AX.o Io.o.fC Io.o.dM Io.o.r2 Io.o.gS Io.o.ll Lk.o.ev Lk.o.eU Lk.o.cL Lk.o.dS Lk.o.hl xB.o.t).mono ?_
  rintro e oG ⟨rfl,QW⟩
  have abC:=I (LN.o.ad QW LN.o.lt);have PN:=I (ai DW.o QW);have abf:=I (lq.o.aK QW);clear bE kO ko BJ xB Uu LN DW Io lq QW
  have dC:x.bM + 1<=60:=by have h1:=(JU (Co AX.o)).2.2;have h2:y.log.bM= y.bM:=rfl;have h3:=xO.o;omega
  obtain⟨n,bq⟩ :∃n:Nat,(iz x.log).length= n:=⟨_,rfl⟩
  have afy:x.bM= (n:Int):=by rw [<- bq];exact NM.o
  have aea:L.length= n + 1:=by rw [DK.o,Xu,bq];rfl
  have bC:n < L.length:=KK
  have VS:L[n]? =some ⟨l,z⟩:=by rw [DK.o,<- bq];simp
  have qR:wrap64 (x.bM + 1)= (L.length:Int):=by unfold wrap64;omega
  have NK:wrap64 ((L.length:Int) - 1)= (n:Int):=by unfold wrap64;omega
  have Ec:=abf.o.ej (hf:=fi.wD)
  obtain⟨ab,Ci,a,arT,eN,de,uE⟩:=Ec.at_ (Wt _ _) bC
  obtain rfl:a=⟨l,z⟩:=Wx (de.symm.trans VS)
  subst arT
  have wi:=I (And.intro bq (And.intro VS (And.intro de dC)));replace afy:=I afy;replace aea:=I aea;clear bq VS de dC Ec NM xO DK abf;have bE:=abC.o.ca;have ko:=abC.o.lt
  have aCn:(z.toList == z.toList)= true:=Wn
  have JT:(l.toList == l.toList)= true:=Wn
  have ho:=uE 0 _ rfl (aD.self _);have q1:=uE 1 _ rfl (aD.self _)
  simp only [XW,aD.self] at ho q1
  clear uE
  go_wp2
  go_ret
  exact⟨rfl,PN.o⟩
set_option maxHeartbeats 4000000
theorem apU (os:Os) {H:Type} (enc:TypeId×Value->H):∃places,DataW.whole enc Tryz.prog ((World.laidAll Tryz.prog os Rows.fnConsoleRow.laid).forCall (λ_ _=>0) ⟨#[],#[()],[]⟩).memory Tryz.f4.params.toList Rows.fnConsoleSpec.vars false (#[()]:Array Value).toList 8= some ([.nil],[],places):=
 aGg PV
theorem apS (os:Os):laidMet Tryz.prog Rows.fnConsoleRow.laid ((World.laidAll Tryz.prog os Rows.fnConsoleRow.laid).forCall (λ_ _=>0) ⟨#[],#[()],[]⟩).memory:=
 laidMet_laidAll _ PV PV
theorem apP (os:Os) (started:os.Started) (H:Type) (enc:TypeId×Value->H) (F:Stop.Interp):
  ReturnsInHanded {} Tryz.checked os 4 .any ((OpenSpec.ofChange Rows.fnConsoleSpec).preRow enc Tryz.prog Tryz.f4 Rows.fnConsoleRow.domain false Rows.fnConsoleRow.laid) (((OpenSpec.ofChange Rows.fnConsoleSpec).at F).post enc Tryz.prog Tryz.f4 false true false false):=by
 obtain⟨places,av⟩:=apU os enc
 refine Vd (C:=Tryz.checked) (rt:=4) aHP started PV Tryz.func4
  (witness_row_atRef (enc:=enc) (C:=Tryz.checked) false (World.laidAll Tryz.prog os Rows.fnConsoleRow.laid) #[()] (World.laidAll_os _ _ _) PV PV PV (OpenSpec.preRow_of_cond 8 av PV (λk ax=>by cases ax) PV (apS os)))
  aHO (by rw [Tryz.params4];intro t cJ;simp at cJ;rcases cJ with rfl;all_goals exact⟨by kernel_rfl,of_decide_eq_true PV⟩) rfl Tryz.underlying4 PV
  (by rw [Tryz.params4];intro l g aT cy;match l,g,aT,cy with | [d0],[],_,_=>rfl) ?_
 intro W base args pg p br lM px bl
 rw [Tryz.params4] at bl px
 obtain⟨v0,d0,rfl,rfl,h0⟩:=trodAll_one bl
 obtain⟨abX,agC,acy,rfl⟩:=okWide_slice Tryz.underlying35 (px 0 35 v0 rfl rfl)
 obtain⟨adF,MA⟩:=h0
 obtain⟨aal,acx,cs,Ei,agx,Md⟩:=aGb Ac 1 WG Tryz.underlying35 UX (λ_ _ _ h=>aGc h) MA
 simp [Value.cells] at Ei
 obtain⟨rfl,rfl,rfl⟩:=Ei
 exact awO _ _ cs W Md ⟨aId rfl br,Vk rfl br,aHA lM⟩
set_option maxHeartbeats 4000000
theorem apM:joinedFacts Tryz.pinned.checked.prog 4 Tryz.f4 (OpenSpec.ofChange Rows.fnConsoleSpec).bare Rows.fnConsoleRow= true:=by
 unfold joinedFacts
 iterate 23 (refine (Xa _ _).mpr ⟨?_,?_⟩)
 all_goals as_aux_lemma=>kernel_rfl
theorem acF:Tryz.pinned.checked.prog.funcNamed Rows.fnConsoleRow.func= some 4:=PV
theorem apO:Tryz.f4.isInstance Tryz.pinned.checked.prog Rows.fnConsoleRow.origin Rows.fnConsoleRow.targs:=of_decide_eq_true (by as_aux_lemma=>kernel_rfl)
theorem apX:Tryz.f4.isWrapper Tryz.pinned.checked.prog Rows.fnConsoleRow.wrapper Rows.fnConsoleRow.mainSum:=by unfold Func.isWrapper;first | (rw [XX ZY];kernel_rfl) | (rw [XU ZY];exact⟨rfl,rfl⟩)
theorem apV:Rows.FnConsoleSaid:=
 OpenClaim.holds_of_cond 4 Tryz.f4 rfl rfl rfl rfl rfl rfl rfl ⟨rfl,rfl,rfl,rfl,rfl⟩ rfl rfl rfl rfl rfl acF Tryz.func4 apM
  apO apX
  (λos started H enc _ F=>by rw [OpenClaim.pre_eq_preRow];exact apP os started H enc F)
theorem apQ:Rows.fnConsoleCard.stood.looks= Tryz.pinned.checked.prog.looks []:=PV
theorem apT (f:FuncId) (fn:Func) (hf:Tryz.pinned.checked.prog.funcNamed Rows.fnConsoleRow.func= some f) (GI:Tryz.pinned.checked.prog.funcs[f]? =some fn):
  Rows.fnConsoleCard.stood.looks= Tryz.pinned.checked.prog.looks []/\∀(j:Nat) t,fn.params[j]? =some t->Tryz.pinned.checked.prog.wantsStandIn t= false:=by
 obtain rfl:f= 4:=Wx (acF.symm.trans hf) |>.symm
 obtain rfl:fn= Tryz.f4:=(Wx (Tryz.func4.symm.trans GI)).symm
 refine⟨apQ,λj t cJ=>?_⟩
 have my:Tryz.f4.params.toList.all (λt=>!Tryz.prog.wantsStandIn t)= true:=by as_aux_lemma=>kernel_rfl
 have hm:=YN.1 my t (Array.mem_toList_iff.2 (Array.mem_of_getElem? cJ))
 exact (YJ _).mp hm
theorem apW:Rows.fnConsoleRow.wfByText (OpenSpec.ofChange Rows.fnConsoleSpec)= true:=PV
theorem apR:Tryz.pinned.checked.prog.mainIs= some (Rows.fnConsoleCard.stood.harness.1,Rows.fnConsoleCard.stood.harness.2.toList):=PV
theorem apN:false= Rows.fnConsoleRow.goesBy Tryz.pinned.checked.prog:=PV
theorem console_holds:Rows.FnConsoleCardSaid:=
 Claim7.holds_tied_plain_at .later [] _ _ _ _ apV (λ_ h=>by cases h) apW (λ_ h=>by cases h) fnConsole_row_tie rfl ⟨rfl,rfl⟩ apR rfl apT apN
#print axioms console_holds
end Go.Proofs.YtlaaemmmbodaaaaGreatDoor
