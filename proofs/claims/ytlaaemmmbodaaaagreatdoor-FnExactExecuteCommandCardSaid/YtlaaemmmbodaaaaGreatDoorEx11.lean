/- Parts. -/
import Derived.Test.YtlaaemmmbodaaaaGreatDoorEx10
set_option maxHeartbeats 16000000
set_option maxRecDepth 100000
set_option linter.unnecessarySimpa false
set_option linter.unusedSimpArgs false
set_option linter.unusedVariables false
namespace Go.Proofs.YtlaaemmmbodaaaaGreatDoor
open Go.RowKit Go.G9
theorem KJ (x:fv) (an ar aj ak aA:Option Addr) (c0 c1 c2 c3 c4:Nat) (h0:x.br.length≤1048576) (h1:x.bD.length≤1048576) (h2:x.bE.length≤1048576) (h3:x.bK.length≤1048576) (h4:x.bt.length≤1048576) (aso:x.eJ.size + x.eR.size≤1048576) (w:World) (aU:aH 7 aJ.cells w an x.br) (aT:aH 3 aL.cells w ar x.bD) (bj:aH 1 bR w aj x.bE) (bh:aH 3 aI.cells w ak x.bK) (bU:aH 3 Out.cells w aA x.bt):
 Calls Tryz.prog 36 #[.agg #[.slice an x.br c0,.slice ar x.bD c1,x.cZ,x.cQ,x.dH,.slice aj x.bE c2,.slice ak x.bK c3,.slice aA x.bt c4,x.eJ,x.eR,x.ec]] w fun e ag=>∃ny ee fi fA gv,e= .returned (.agg #[.slice ny x.br x.br,.slice ee x.bD x.bD,x.cZ,x.cQ,x.dH,.slice fi x.bE x.bE,.slice fA x.bK x.bK,.slice gv x.bt x.bt,x.eJ,x.eR,x.ec])∧aV w 89 7 aJ.cells ag (.slice ny x.br x.br) x.br∧aV w 115 3 aL.cells ag (.slice ee x.bD x.bD) x.bD∧aV w 3 1 bR ag (.slice fi x.bE x.bE) x.bE∧aV w 214 3 aI.cells ag (.slice fA x.bK x.bK) x.bK∧aV w 163 3 Out.cells ag (.slice gv x.bt x.bt) x.bt∧qy [.slice ny x.br x.br,.slice ee x.bD x.bD,.slice fi x.bE x.bE,.slice fA x.bK x.bK,.slice gv x.bt x.bt]∧Below w w ag:=by
 have bJ:=J (show ea w an ar aj ak aA x.br x.bD x.bE x.bK x.bt from⟨aU,aT,bj,bh,bU⟩);clear aU aT bj bh bU
 go_in
 go_upto_region 2 with fail
 refine fr fun aF au aQ ad bT=>?_
 have I:=au
 obtain⟨a0,a1,a2,a3,a4,a5,a6,a7,a8,a9,a10⟩:=aQ.bM
 obtain⟨z0,bw,z2,z3,z4,z5,cy,dh,dm,z9,dk⟩:=ad.bM;obtain⟨g0,g1,g2,g3,g4,g5,g6,g7,g8,g9,g10⟩:=bT.bM;clear z0 g0 bw g1 z2 g2 z3 g3 z4 g4 z5 g5 cy g6 dh g7 dm g8 z9 g9 dk g10;have vu:=I.size;have aur:=aQ.lt
 go_wp2_with fail
 refine (arh x an ar aj ak aA c0 c1 c2 c3 c4 h0 h1 h2 h3 h4 _ (bJ.out.fF.below I) (bJ.out.dJ.below I) (bJ.out.r2.below I) (bJ.out.hr.below I) (bJ.out.nJ.below I)).mono ?_
 rintro e aM ⟨ny,ee,fi,fA,gv,rfl,ch,cm,bA,bq,cv,ap,aN⟩
 have kC:Hid (gA w aM ny x.br.length ee x.bD.length fi x.bE.length fA x.bK.length gv x.bt.length x.br x.bD x.bE x.bK x.bt):=J ⟨ch.base vu,cm.base vu,bA.base vu,bq.base vu,cv.base vu⟩;clear ch cm bA bq cv a0 a1 a2 a3 a4 a5 a6 a7 a8 a9 a10;have jA:=aQ.to aN;have tu:=ad.to aN;have CM:=bT.to aN;have na:=ah I aN;have oI:=J ap
 have bo:=CM.bM;have MI:=CM.hh;have CH:=CM.lt;clear aQ ad bT I aN ap
 go_upto_region 3 with fail
 clear bo MI CH
 refine iK 0 fun xb gI=>?_
 have Uz:=gI.PH CM;have gl:=gI.dM jA;have US:=gI.dM tu
 have aet:=J (kC.out.gY CM gI.gi);have BL:=gI.aE na;clear gI jA tu CM na;have a':=gl.bM;have afl:=gl.lt
 go_wp2_with fail
 refine (are x.eJ x.eR x.ec _).mono ?_
 rintro e ca ⟨rfl,cU⟩
 clear a' afl;have CN:=Uz.to cU;have za:=US.to cU;have BM:=ah BL cU;have aeu:=J (aet.out.later cU);have bo:=CN.bM;have MI:=CN.hh;have CH:=CN.lt;clear gl Uz US BL cU
 go_upto_region 4 with fail
 clear bo MI CH
 refine sT 8 fun ux gg=>?_
 have UA:=gg.PL CN;have cD:=gg.dM za;have aev:=J (aeu.out.gY CN gg.gi)
 have wW:=gg.aE BM;clear gg CN za BM;have bo:=UA.bM;have CH:=UA.lt;have al:=cD.bM;have eK:=cD.hh;have arW:=cD.lt
 go_wp2
 clear bo CH al eK arW
 refine hX 0 fun cS aC=>?_
 have bQ:=aC.hV cD;have OF:=aev.out.gY cD aC.gi;have ez:=aC.aE wW
 clear aC
 obtain⟨z0,bw,z2,z3,z4,z5,cy,dh,dm,z9,dk⟩:=bQ.bM
 exact hg ⟨ny,ee,fi,fA,gv,rfl,OF.kJ,OF.hU,OF.fk,OF.fJ,OF.mc,oI.out,ez⟩ (by simp [results,Tryz.results36,go_sem,z0,bw,z2,z3,z4,z5,cy,dh,dm,z9,dk])
open Go.RowKit Go.G9
theorem amP {m n:cz} {l x:ByteArray} {b:Bool} (h:nB m (jk 32 l)= if b= true then some (n,x) else none) (aB:b= false→n= m):qt m l= (n,if b then x else (⟨#[63]⟩ :ByteArray)):=by
 unfold qt jy
 rw [h]
 cases b
 ·rw [aB rfl];rfl
 ·rfl
theorem DY {p:Prop} (h:p:=by
 exact⟨rs,qs,af,ae,sp,ws,U,os,ck,cl,cj,cq,d0,cK,d1,bg,d2,bn,d3,ct,d4,_,rfl,J (by rw [(cB.out).1,(cB.out).2]),fH,ez⟩):p:=h
theorem aaN {p:Prop} (h:p:=by
 by_cases h2:200 < y.size
 ·go_wp2_with fail
  go_meet
  exact⟨_,rfl,J (by rw [po,if_pos h2]),rfl⟩
 ·go_wp2_with fail
  go_meet
  exact⟨_,rfl,J (by rw [po,if_neg h2]),rfl⟩):p:=h
theorem akH (an ar aj ak aA:Option Addr) (c0 c1 c2 c3 c4:Nat) (rs:List aJ) (qs:List aL) (af ae sp:Int) (ws:List Int) (U:List aI) (os:List Out) (ck cl:ByteArray) (cj:Int) (Z:eC an ar aj ak aA c0 c1 c2 c3 c4 rs qs ws U os) (cc:ck.size + cl.size≤1048576) (l:ByteArray) (aS:l.size≤1048576) (w:World) (R:ea w an ar aj ak aA rs qs ws U os) (bX:pZ w):
 Calls Tryz.prog 18 #[.agg #[.slice an rs c0,.slice ar qs c1,af,ae,sp,.slice aj ws c2,.slice ak U c3,.slice aA os c4,ck,cl,cj],l] w fun e ag=>∃(dp:List aJ) (dB:List aL) (dP dO dG:Int) (bV:List Int) (bY:List aI) (dn:List Out) (qN rn:ByteArray) (qJ:Int) (cI:Option Addr) (e0:Nat) (cF:Option Addr) (e1:Nat) (de:Option Addr) (e2:Nat) (df:Option Addr) (e3:Nat) (cJ:Option Addr) (e4:Nat) (y:ByteArray),e= .returned (.tuple #[.agg #[.slice cI dp e0,.slice cF dB e1,dP,dO,dG,.slice de bV e2,.slice df bY e3,.slice cJ dn e4,qN,rn,qJ],.string y])∧Hid ((cG (⟨rs,qs,af,ae,sp,ws,U,os,ck,cl,cj⟩ :fv) l,sq (⟨rs,qs,af,ae,sp,ws,U,os,ck,cl,cj⟩ :fv) l)= ((⟨dp,dB,dP,dO,dG,bV,bY,dn,qN,rn,qJ⟩ :fv),y))∧gA w ag cI e0 cF e1 de e2 df e3 cJ e4 dp dB bV bY dn∧Below w w ag:=by
 have dL:=J Z;clear Z;have Ey:=bX
 cases aE:lH (⟨rs,qs,af,ae,sp,ws,U,os,ck,cl,cj⟩ :fv)
 ·have bC:=J aE
  have cB:=J (Tl (l:=l) aE);clear aE
  go_in
  go_upto_region 1 with fail
  refine fm fun aF au aQ ad=>?_
  replace R:=R.below au;replace bX:=bX.below au;have I:=au
  obtain⟨dd,dV,dT,en,et,fL,fM,fN,fO,fP,fK⟩:=aQ.bM
  obtain⟨z0,bw,z2,z3,z4,z5,cy,dh,dm,z9,dk⟩:=ad.bM;clear z0 bw z2 z3 z4 z5 cy dh dm z9 dk
  have eo:=J ad;clear ad Ey
  go_wp2_with fail
  refine (JJ (⟨rs,qs,af,ae,sp,ws,U,os,ck,cl,cj⟩ :fv) an ar aj ak aA c0 c1 c2 c3 c4 dL.out.h0 dL.out.h1 dL.out.h2 dL.out.h3 dL.out.h4 cc _ bC.out _ ((R.below av)).fF ((R.below av)).dJ ((R.below av)).r2 ((R.below av)).hr ((R.below av)).nJ dL.out.dY dL.out.eB dL.out.cp dL.out.ed dL.out.hp ((bX.below av)).t).mono ?_
  rintro e aM ⟨rfl,aN⟩
  have ao:=be aF aN;replace I:=ah I ao;replace R:=R.below ao;replace aQ:=aQ.to ao;clear dd dV dT en et fL fM fN fO fP fK
  obtain⟨dd,dV,dT,en,et,fL,fM,fN,fO,fP,fK⟩:=aQ.bM
  have rh:=I.size;have rG:=ao
  go_wp2_with fail
  refine (Kf an ar aj ak aA c0 c1 c2 c3 c4 rs qs af ae sp ws U os ck cl cj dL.out aM R).mono ?_
  rintro e bB ⟨cq,d0,cK,d1,bg,d2,bn,d3,ct,d4,rfl,gN,bG⟩
  have aK:=be aM bG;replace I:=ah I aK;replace aQ:=aQ.to aK;clear dd dV dT en et fL fM fN fO fP fK;have kC:=J (gN.base (B':=w.heap.size) rh);clear gN;have bQ:=eo.out.below (ah rG aK) eo.out.lt;have al:=bQ.bM;have eK:=bQ.hh;have jl:=J bQ;clear bQ R
  go_wp2
  clear al eK
  refine hX 0 fun cS aC=>?_
  have bQ:=aC.hV jl.out;have fH:=kC.out.gY jl.out aC.gi;have ez:=aC.aE I;clear aC I
  obtain⟨z0,bw,z2,z3,z4,z5,cy,dh,dm,z9,dk⟩:=bQ.bM
  refine bodyPost_ret (v:= .tuple #[.agg #[.slice cq rs d0,.slice cK qs d1,af,ae,sp,.slice bg ws d2,.slice bn U d3,.slice ct os d4,ck,cl,cj],.string (⟨#[110,111]⟩ :ByteArray)]) (by simp [results,Tryz.results18,go_sem,z0,bw,z2,z3,z4,z5,cy,dh,dm,z9,dk]) rfl ?_
  exact DY
 ·have bC:=J aE
  obtain⟨sO,jr⟩ :∃b,lM l ⟨#[]⟩ =b:=⟨_,rfl⟩
  have Af:=J jr
  cases sO
  ·have cB:=J (Ti aE jr)
   clear aE jr
   go_in
   go_upto_region 1 with fail
   refine fm fun aF au aQ ad=>?_
   replace R:=R.below au;replace bX:=bX.below au;have I:=au
   obtain⟨dd,dV,dT,en,et,fL,fM,fN,fO,fP,fK⟩:=aQ.bM
   obtain⟨z0,bw,z2,z3,z4,z5,cy,dh,dm,z9,dk⟩:=ad.bM;clear z0 bw z2 z3 z4 z5 cy dh dm z9 dk
   have eo:=J ad;clear ad Ey
   go_wp2_with fail
   refine (JJ (⟨rs,qs,af,ae,sp,ws,U,os,ck,cl,cj⟩ :fv) an ar aj ak aA c0 c1 c2 c3 c4 dL.out.h0 dL.out.h1 dL.out.h2 dL.out.h3 dL.out.h4 cc _ bC.out _ ((R.below av)).fF ((R.below av)).dJ ((R.below av)).r2 ((R.below av)).hr ((R.below av)).nJ dL.out.dY dL.out.eB dL.out.cp dL.out.ed dL.out.hp ((bX.below av)).t).mono ?_
   rintro e aM ⟨rfl,aN⟩
   have ao:=be aF aN;replace I:=ah I ao;replace R:=R.below ao;replace aQ:=aQ.to ao;clear dd dV dT en et fL fM fN fO fP fK
   obtain⟨dd,dV,dT,en,et,fL,fM,fN,fO,fP,fK⟩:=aQ.bM
   have rG:=ao
   go_wp2_with fail
   refine (xP l ⟨#[]⟩ aS (Nat.zero_le _) _ Af.out _).mono ?_
   rintro e bB ⟨rfl,bG⟩
   have aK:=be aM bG;replace I:=ah I aK;replace R:=R.below aK;replace aQ:=aQ.to aK;clear dd dV dT en et fL fM fN fO fP fK
   obtain⟨dd,dV,dT,en,et,fL,fM,fN,fO,fP,fK⟩:=aQ.bM
   have rh:=I.size;replace rG:=ah rG aK
   go_wp2_with fail
   refine (Kf an ar aj ak aA c0 c1 c2 c3 c4 rs qs af ae sp ws U os ck cl cj dL.out bB R).mono ?_
   rintro e ca ⟨cq,d0,cK,d1,bg,d2,bn,d3,ct,d4,rfl,gN,cU⟩
   have bS:=be bB cU;replace I:=ah I bS;replace aQ:=aQ.to bS;clear dd dV dT en et fL fM fN fO fP fK;have kC:=J (gN.base (B':=w.heap.size) rh);clear gN;have bQ:=eo.out.below (ah rG bS) eo.out.lt;have al:=bQ.bM;have eK:=bQ.hh;have jl:=J bQ;clear bQ R
   go_wp2
   clear al eK
   refine hX 0 fun cS aC=>?_
   have bQ:=aC.hV jl.out;have fH:=kC.out.gY jl.out aC.gi;have ez:=aC.aE I;clear aC I
   obtain⟨z0,bw,z2,z3,z4,z5,cy,dh,dm,z9,dk⟩:=bQ.bM
   refine bodyPost_ret (v:= .tuple #[.agg #[.slice cq rs d0,.slice cK qs d1,af,ae,sp,.slice bg ws d2,.slice bn U d3,.slice ct os d4,ck,cl,cj],.string (⟨#[98,97,100]⟩ :ByteArray)]) (by simp [results,Tryz.results18,go_sem,z0,bw,z2,z3,z4,z5,cy,dh,dm,z9,dk]) rfl ?_
   exact DY
  ·obtain⟨MK,xA⟩ :∃b,(cj == 60)= b:=⟨_,rfl⟩
   cases MK
   rotate_left
   ·have cB:=J (Tj aE jr xA)
    clear aE jr
    go_in
    go_upto_region 1 with fail
    refine fm fun aF au aQ ad=>?_
    replace R:=R.below au;replace bX:=bX.below au;have I:=au
    obtain⟨dd,dV,dT,en,et,fL,fM,fN,fO,fP,fK⟩:=aQ.bM
    obtain⟨z0,bw,z2,z3,z4,z5,cy,dh,dm,z9,dk⟩:=ad.bM;clear z0 bw z2 z3 z4 z5 cy dh dm z9 dk
    have eo:=J ad;clear ad Ey
    go_wp2_with fail
    refine (JJ (⟨rs,qs,af,ae,sp,ws,U,os,ck,cl,cj⟩ :fv) an ar aj ak aA c0 c1 c2 c3 c4 dL.out.h0 dL.out.h1 dL.out.h2 dL.out.h3 dL.out.h4 cc _ bC.out _ ((R.below av)).fF ((R.below av)).dJ ((R.below av)).r2 ((R.below av)).hr ((R.below av)).nJ dL.out.dY dL.out.eB dL.out.cp dL.out.ed dL.out.hp ((bX.below av)).t).mono ?_
    rintro e aM ⟨rfl,aN⟩
    have ao:=be aF aN;replace I:=ah I ao;replace R:=R.below ao;replace aQ:=aQ.to ao;clear dd dV dT en et fL fM fN fO fP fK
    obtain⟨dd,dV,dT,en,et,fL,fM,fN,fO,fP,fK⟩:=aQ.bM
    have rG:=ao
    go_wp2_with fail
    refine (xP l ⟨#[]⟩ aS (Nat.zero_le _) _ Af.out _).mono ?_
    rintro e bB ⟨rfl,bG⟩
    have aK:=be aM bG;replace I:=ah I aK;replace R:=R.below aK;replace aQ:=aQ.to aK;clear dd dV dT en et fL fM fN fO fP fK
    obtain⟨dd,dV,dT,en,et,fL,fM,fN,fO,fP,fK⟩:=aQ.bM
    have rh:=I.size;replace rG:=ah rG aK
    go_wp2_with fail
    refine (Kf an ar aj ak aA c0 c1 c2 c3 c4 rs qs af ae sp ws U os ck cl cj dL.out bB R).mono ?_
    rintro e ca ⟨cq,d0,cK,d1,bg,d2,bn,d3,ct,d4,rfl,gN,cU⟩
    have bS:=be bB cU;replace I:=ah I bS;replace aQ:=aQ.to bS;clear dd dV dT en et fL fM fN fO fP fK;have kC:=J (gN.base (B':=w.heap.size) rh);clear gN;have bQ:=eo.out.below (ah rG bS) eo.out.lt;have al:=bQ.bM;have eK:=bQ.hh;have jl:=J bQ;clear bQ R
    go_wp2
    clear al eK
    refine hX 0 fun cS aC=>?_
    have bQ:=aC.hV jl.out;have fH:=kC.out.gY jl.out aC.gi;have ez:=aC.aE I;clear aC I
    obtain⟨z0,bw,z2,z3,z4,z5,cy,dh,dm,z9,dk⟩:=bQ.bM
    refine bodyPost_ret (v:= .tuple #[.agg #[.slice cq rs d0,.slice cK qs d1,af,ae,sp,.slice bg ws d2,.slice bn U d3,.slice ct os d4,ck,cl,cj],.string (⟨#[102,117,108,108]⟩ :ByteArray)]) (by simp [results,Tryz.results18,go_sem,z0,bw,z2,z3,z4,z5,cy,dh,dm,z9,dk]) rfl ?_
    exact DY
   ·have cB:=J (Tm aE jr xA)
    have VI:=(YL jr).2;have iu:Hid (gM ⟨rs,qs,af,ae,sp,ws,U,os⟩):=J (Fv aE);have Lx:=J (show (⟨ck,cl,cj⟩ :hZ).eJ.size + (⟨ck,cl,cj⟩ :hZ).eR.size≤1048576 from cc);clear aE jr
    go_in
    go_upto_region 1 with fail
    refine fm fun aF au aQ ad=>?_
    replace R:=R.below au;replace bX:=bX.below au;have I:=au
    obtain⟨dd,dV,dT,en,et,fL,fM,fN,fO,fP,fK⟩:=aQ.bM
    obtain⟨z0,bw,z2,z3,z4,z5,cy,dh,dm,z9,dk⟩:=ad.bM;have RP:=J Ey;have hY:=J aQ
    have auE:=ad.lt;clear z0 bw z2 z3 z4 z5 cy dh dm z9 dk;have eo:=J ad;clear ad Ey
    go_wp2_with fail
    refine (JJ (⟨rs,qs,af,ae,sp,ws,U,os,ck,cl,cj⟩ :fv) an ar aj ak aA c0 c1 c2 c3 c4 dL.out.h0 dL.out.h1 dL.out.h2 dL.out.h3 dL.out.h4 cc _ bC.out _ ((R.below av)).fF ((R.below av)).dJ ((R.below av)).r2 ((R.below av)).hr ((R.below av)).nJ dL.out.dY dL.out.eB dL.out.cp dL.out.ed dL.out.hp ((bX.below av)).t).mono ?_
    rintro e aM ⟨rfl,aN⟩
    have ao:=be aF aN;replace I:=ah I ao;replace R:=R.below ao;replace aQ:=aQ.to ao;clear dd dV dT en et fL fM fN fO fP fK
    obtain⟨dd,dV,dT,en,et,fL,fM,fN,fO,fP,fK⟩:=aQ.bM
    have rG:=ao
    go_wp2_with fail
    refine (xP l ⟨#[]⟩ aS (Nat.zero_le _) _ Af.out _).mono ?_
    rintro e bB ⟨rfl,bG⟩
    have aK:=be aM bG;replace I:=ah I aK;replace R:=R.below aK;replace aQ:=aQ.to aK;clear dd dV dT en et fL fM fN fO fP fK
    obtain⟨dd,dV,dT,en,et,fL,fM,fN,fO,fP,fK⟩:=aQ.bM
    have rh:=I.size;replace rG:=ah rG aK
    go_wp2_with fail
    refine (Kf an ar aj ak aA c0 c1 c2 c3 c4 rs qs af ae sp ws U os ck cl cj dL.out bB R).mono ?_
    rintro e ca ⟨cq,d0,cK,d1,bg,d2,bn,d3,ct,d4,rfl,gN,cU⟩
    have bS:=be bB cU;replace I:=ah I bS;replace aQ:=aQ.to bS;clear dd dV dT en et fL fM fN fO fP fK;have NC:=ah rG bS;have kC:=J (gN.base (B':=w.heap.size) rh);clear gN
    go_upto_region 8 with fail
    obtain⟨tI,lb⟩ :∃b,b= ca.heap.size:=⟨_,rfl⟩
    have Np:=aq.new ca 46 #[.slice cq rs d0,.slice cK qs d1,af,ae,sp,.slice bg ws d2,.slice bn U d3,.slice ct os d4,ck,cl,cj];have Jp:Below ca ca (ca.alloc (.cells #[.slice cq rs d0,.slice cK qs d1,af,ae,sp,.slice bg ws d2,.slice bn U d3,.slice ct os d4,ck,cl,cj] 46)):=bZ _ _
    rw [← lb] at Np
    have atM:aF.heap.size≤tI:=by rw [lb];exact NC.size
    generalize ca.alloc (.cells #[.slice cq rs d0,.slice cK qs d1,af,ae,sp,.slice bg ws d2,.slice bn U d3,.slice ct os d4,ck,cl,cj] 46)= Qy at *
    rw [← lb]
    have UR:=ah NC Jp;have FT:=ah I Jp;have aew:=J (kC.out.later Jp);have Ew:Hid (∀W,Qy.grownBy W (some tI)→pZ W):=J (fun W bI=>RP.out.below (FT.grown bI FT.size (fun q aZ=>by have ao:=Option.some.inj aZ;omega)));have sg:=J Np;have akf:=FT.size;clear lb Np R bX aQ I Jp rG NC
    go_wp2_with fail
    refine (aha w.heap.size tI cq cK bg bn ct d0 d1 d2 d3 d4 rs qs af ae sp ws U os ck cl cj iu.out l VI Qy (by omega) akf sg.out aew.out Ew.out).mono ?_
    rintro e oC ⟨dp,dB,dP,dO,dG,bV,bY,dn,cI,e0,cF,e1,de,e2,df,e3,cJ,e4,x,b,rfl,qb,oX,qR,jI,Nl⟩
    have uK:=UR.grown Nl UR.size (fun q aZ=>by have ao:=Option.some.inj aZ;omega);have Jm:=FT.grown Nl FT.size (fun q aZ=>by have ao:=Option.some.inj aZ;omega);have Il:=J qR;have mG:=J jI;clear qR jI Nl
    go_upto_if 37 with fail
    go_cut [7] (fun mg W=>∃y,mg= .string y∧Hid (qt ⟨rs,qs,af,ae,sp,ws,U,os⟩ l= (⟨dp,dB,dP,dO,dG,bV,bY,dn⟩,y))∧oC= W)
    case first=>
     have cH:=J (amP qb.out oX.out)
     cases b
     ·go_wp2_with fail
      go_meet
      exact⟨_,rfl,cH,rfl⟩
     ·go_wp2_with fail
      go_meet
      exact⟨_,rfl,cH,rfl⟩
    case rest=>
     obtain⟨y,rfl,Ih,hw⟩:=hcut
     subst hw
     clear qb oX
     go_upto_if 40 with fail
     go_cut [7] (fun mg W=>∃kA,mg= .string kA∧Hid (po y= kA)∧oC= W)
     case first=>
      exact aaN
     case rest=>
      obtain⟨kA,rfl,BU,hw⟩:=hcut
      subst hw
      have xN:kA.size≤1048576:=by
       rw [← BU.out]
       unfold po
       split
       ·decide
       ·omega
      have oI:=fun W (h:ll W)=>akt ⟨ck,cl,cj⟩ Lx.out ⟨l,kA⟩ aS xN W h
      obtain⟨g,cw⟩ :∃g,iQ ⟨ck,cl,cj⟩ ⟨l,kA⟩ =g:=⟨_,rfl⟩
      rw [cw] at oI
      have hO:=J cw;clear cw
      obtain⟨qN,rn,qJ⟩:=g
      have sV:=J oI;clear oI
      simp only at sV
      have bF:=(hY.out.below uK hY.out.lt).bM
      go_wp2_with fail
      refine (sV.out oC (RP.out.below Jm).t).mono ?_
      rintro e mY ⟨rfl,fS⟩
      have kX:=Il.out.below fS Il.out.lt;have Ac:=J kX;have mU:=kX.bM;have FC:=kX.hh;clear bF kX
      go_upto_region 14 with fail
      clear mU FC
      refine sT 8 fun xb gI=>?_
      have nD:=gI.PL Ac.out;have bq:=(mG.out.later fS).gY Ac.out gI.gi;have er:=gI.aE (ah uK fS);have NA:=gI.aE (ah Jm fS);have bQ:=eo.out.below er eo.out.lt
      have jl:=J bQ;have ka:=J bq;have mU:=nD.bM;have al:=bQ.bM;have eK:=bQ.hh;clear bQ bq gI nD
      go_wp2
      clear mU al eK
      refine hX 0 fun WF yj=>?_
      have NF:=yj.hV jl.out;have OF:=ka.out.gY jl.out yj.gi;have Lp:=yj.aE NA;clear yj
      obtain⟨z0,bw,z2,z3,z4,z5,cy,dh,dm,z9,dk⟩:=NF.bM
      refine bodyPost_ret (v:= .tuple #[.agg #[.slice cI dp e0,.slice cF dB e1,dP,dO,dG,.slice de bV e2,.slice df bY e3,.slice cJ dn e4,qN,rn,qJ],.string kA]) (by simp [results,Tryz.results18,go_sem,z0,bw,z2,z3,z4,z5,cy,dh,dm,z9,dk]) rfl ?_
      exact⟨dp,dB,dP,dO,dG,bV,bY,dn,qN,rn,qJ,cI,e0,cF,e1,de,e2,df,e3,cJ,e4,kA,rfl,J (by
       rw [cB.out.1,cB.out.2]
       unfold Al
       rw [show qt (fv.kI (⟨rs,qs,af,ae,sp,ws,U,os,ck,cl,cj⟩ :fv)) l= (⟨dp,dB,dP,dO,dG,bV,bY,dn⟩,y) from Ih.out]
       simp only
       rw [BU.out,show iQ (fv.log (⟨rs,qs,af,ae,sp,ws,U,os,ck,cl,cj⟩ :fv)) ⟨l,kA⟩ =⟨qN,rn,qJ⟩ from hO.out]
       rfl),OF,Lp⟩
open Go.RowKit Go.G9
def Ck (B:Nat) (ck cl:ByteArray) (cj:Int) (r:cz×ByteArray) (e:Ending) (ag:World):Prop:=∃(dp:List aJ) (dB:List aL) (dP dO dG:Int) (bV:List Int) (bY:List aI) (dn:List Out) (cI:Option Addr) (e0:Nat) (cF:Option Addr) (e1:Nat) (de:Option Addr) (e2:Nat) (df:Option Addr) (e3:Nat) (cJ:Option Addr) (e4:Nat) (y:ByteArray),e= .returned (.tuple #[.agg #[.slice cI dp.length e0,.slice cF dB.length e1,.int .i64 dP,.int .i64 dO,.int .i64 dG,.slice de bV.length e2,.slice df bY.length e3,.slice cJ dn.length e4,.string ck,.string cl,.int .i64 cj],.string y])∧Hid (r= (⟨dp,dB,dP,dO,dG,bV,bY,dn⟩,y))∧gA B ag cI e0 cF e1 de e2 df e3 cJ e4 dp dB bV bY dn
theorem Hh {B:Nat} {w:World} {cq:Option Addr} {d0:Nat} {cK:Option Addr} {d1:Nat} {bg:Option Addr} {d2:Nat} {bn:Option Addr} {d3:Nat} {ct:Option Addr} {d4:Nat} {rs:List aJ} {qs:List aL} {af ae sp:Int} {ws:List Int} {U:List aI} {os:List Out} (h:gA B w cq d0 cK d1 bg d2 bn d3 ct d4 rs qs ws U os) (hm:gM ⟨rs,qs,af,ae,sp,ws,U,os⟩):eC cq cK bg bn ct d0 d1 d2 d3 d4 rs qs ws U os:=by
 obtain⟨a0,a1,a2,a3,a4⟩:=tE hm
 simp only at a0 a1 a2 a3 a4
 exact h.WK (by omega) (by omega) (by omega) (by omega) (by omega)
theorem apT (an ar aj ak aA:Option Addr) (c0 c1 c2 c3 c4:Nat) (rs:List aJ) (qs:List aL) (af ae sp:Int) (ws:List Int) (U:List aI) (os:List Out) (Z:eC an ar aj ak aA c0 c1 c2 c3 c4 rs qs ws U os) (kind mem val yes no bx:Int) (h:gM ⟨rs,qs,af,ae,sp,ws,U,os⟩) (w:World) (R:ea w an ar aj ak aA rs qs ws U os):
 Calls Tryz.prog 154 #[.agg #[.slice an rs c0,.slice ar qs c1,af,ae,sp,.slice aj ws c2,.slice ak U c3,.slice aA os c4],.agg #[kind,mem,val,yes,no,bx]] w fun e ag=>∃(dp:List aJ) (dB:List aL) (dP dO dG:Int) (bV:List Int) (bY:List aI) (dn:List Out) (cI:Option Addr) (e0:Nat) (cF:Option Addr) (e1:Nat) (de:Option Addr) (e2:Nat) (df:Option Addr) (e3:Nat) (cJ:Option Addr) (e4:Nat) (b:Bool),e= .returned (.tuple #[.agg #[.slice cI dp e0,.slice cF dB e1,dP,dO,dG,.slice de bV e2,.slice df bY e3,.slice cJ dn e4],b])∧Hid (gF ⟨rs,qs,af,ae,sp,ws,U,os⟩ ⟨kind,mem,val,yes,no,bx⟩ =if b= true then some ⟨dp,dB,dP,dO,dG,bV,bY,dn⟩ else none)∧gA w ag cI e0 cF e1 de e2 df e3 cJ e4 dp dB bV bY dn∧Below w w ag:=by
 have H:=apH an ar aj ak aA c0 c1 c2 c3 c4 rs qs af ae sp ws U os Z kind mem val yes no bx h w R
 cases hm:gF ⟨rs,qs,af,ae,sp,ws,U,os⟩ ⟨kind,mem,val,yes,no,bx⟩ with
 | none=>
  exact aaY
 | some n=>
  exact adx
theorem xQ (B:Nat) (an ar aj ak aA:Option Addr) (c0 c1 c2 c3 c4:Nat) (rs:List aJ) (qs:List aL) (af ae sp:Int) (ws:List Int) (U:List aI) (os:List Out) (ck cl:ByteArray) (cj:Int) (h:gM ⟨rs,qs,af,ae,sp,ws,U,os⟩) (kind mem val yes no bx:Int) (s:ByteArray) (w:World) (oi:B≤w.heap.size) (bP:gA B w an c0 ar c1 aj c2 ak c3 aA c4 rs qs ws U os):
 Calls Tryz.prog 187 #[.agg #[.slice an rs c0,.slice ar qs c1,af,ae,sp,.slice aj ws c2,.slice ak U c3,.slice aA os c4,ck,cl,cj],.agg #[kind,mem,val,yes,no,bx],s] w fun e ag=>Ck B ck cl cj (oy ⟨rs,qs,af,ae,sp,ws,U,os⟩ ⟨kind,mem,val,yes,no,bx⟩ s) e ag∧Below w w ag:=by
 have dL:=J (Hh bP h);have iu:=J h;have dq:=J bP;have R:=bP.rd;clear h bP
 go_in
 go_upto_region 1 with fail
 refine fr fun aF au aQ gj ad=>?_
 replace R:=R.below au;have I:=au
 obtain⟨dd,dV,dT,en,et,fL,fM,fN,fO,fP,fK⟩:=aQ.bM
 have hS:=gj.da;obtain⟨z0,bw,z2,z3,z4,z5,cy,dh,dm,z9,dk⟩:=ad.bM;have eo:=J ad;have fD:=J aQ;have qp:=aQ.lt
 have qX:=gj.lt;have sG:=ad.lt;clear z0 bw z2 z3 z4 z5 cy dh dm z9 dk ad
 go_wp2_with fail
 refine (apT an ar aj ak aA c0 c1 c2 c3 c4 rs qs af ae sp ws U os dL.out kind mem val yes no bx iu.out _ R).mono ?_
 rintro e aM ⟨dp,dB,dP,dO,dG,bV,bY,dn,cI,e0,cF,e1,de,e2,df,e3,cJ,e4,b,rfl,yy,jI,aN⟩
 have Df:=aN.size;have mG:=J (jI.base (B':=B) (by have:=I.size;omega));clear jI
 cases b
 ·have lr:oy ⟨rs,qs,af,ae,sp,ws,U,os⟩ ⟨kind,mem,val,yes,no,bx⟩ s= (⟨rs,qs,af,ae,sp,ws,U,os⟩,(⟨#[63]⟩ :ByteArray)):=by
   have e:gF ⟨rs,qs,af,ae,sp,ws,U,os⟩ ⟨kind,mem,val,yes,no,bx⟩ =none:=by simpa using yy.out
   rw [oy,e]
  have vM:=J lr;clear lr
  go_upto_region 2 with fail
  have bG:=aN.alloc aN.size (.cells #[.slice cI dp e0,.slice cF dB e1,dP,dO,dG,.slice de bV e2,.slice df bY e3,.slice cJ dn e4] 44)
  generalize aM.alloc (.cells #[.slice cI dp e0,.slice cF dB e1,dP,dO,dG,.slice de bV e2,.slice df bY e3,.slice cJ dn e4] 44)= bB at *
  have jz:=ah I bG;clear dd dV dT en et fL fM fN fO fP fK hS;have bF:=(fD.out.below bG fD.out.lt).bM;have Wo:=(fD.out.below bG fD.out.lt).lt;have cD:=eo.out.below bG eo.out.lt;have dr:=J cD;have al:=cD.bM;have eK:=cD.hh;have hs:=cD.lt;clear cD
  go_wp2
  clear al eK hs bF
  refine hX 0 fun cS aC=>?_
  have bQ:=aC.hV dr.out;have fH:=(dq.out.later jz).gY dr.out aC.gi;have ez:=aC.aE jz;clear aC
  obtain⟨z0,bw,z2,z3,z4,z5,cy,dh,dm,z9,dk⟩:=bQ.bM
  refine bodyPost_ret (v:= .tuple #[.agg #[.slice an rs c0,.slice ar qs c1,af,ae,sp,.slice aj ws c2,.slice ak U c3,.slice aA os c4,ck,cl,cj],.string (⟨#[63]⟩ :ByteArray)]) (by simp [results,Tryz.results187,go_sem,z0,bw,z2,z3,z4,z5,cy,dh,dm,z9,dk]) rfl ?_
  exact⟨⟨rs,qs,af,ae,sp,ws,U,os,an,c0,ar,c1,aj,c2,ak,c3,aA,c4,_,rfl,J (vM.out),fH⟩,ez⟩
 ·have lr:oy ⟨rs,qs,af,ae,sp,ws,U,os⟩ ⟨kind,mem,val,yes,no,bx⟩ s= (⟨dp,dB,dP,dO,dG,bV,bY,dn⟩,s):=by
   have e:gF ⟨rs,qs,af,ae,sp,ws,U,os⟩ ⟨kind,mem,val,yes,no,bx⟩ =some ⟨dp,dB,dP,dO,dG,bV,bY,dn⟩:=by simpa using yy.out
   rw [oy,e]
  have vM:=J lr;clear lr
  go_upto_region 4 with fail
  obtain⟨cA,mO⟩ :∃b,b= aM.heap.size:=⟨_,rfl⟩
  have eL:=aq.new aM 44 #[.slice cI dp e0,.slice cF dB e1,dP,dO,dG,.slice de bV e2,.slice df bY e3,.slice cJ dn e4];have bG:=aN.alloc aN.size (.cells #[.slice cI dp e0,.slice cF dB e1,dP,dO,dG,.slice de bV e2,.slice df bY e3,.slice cJ dn e4] 44)
  have Gg:Below aM aM (aM.alloc (.cells #[.slice cI dp e0,.slice cF dB e1,dP,dO,dG,.slice de bV e2,.slice df bY e3,.slice cJ dn e4] 44)):=bZ _ _
  rw [← mO] at eL
  generalize aM.alloc (.cells #[.slice cI dp e0,.slice cF dB e1,dP,dO,dG,.slice de bV e2,.slice df bY e3,.slice cJ dn e4] 44)= bB at *
  rw [← mO]
  clear mO;have jz:=ah I bG;have aex:=J (mG.out.later Gg);clear dd dV dT en et fL fM fN fO fP fK hS;have bF:=(fD.out.below bG fD.out.lt).bM;have Wo:=(fD.out.below bG fD.out.lt).lt;have oz:=eL.aG;have pf:=eL.lt
  go_upto_region 5 with fail
  obtain⟨Qs,OQ⟩ :∃b,b= bB.heap.size:=⟨_,rfl⟩
  have dt:=aq.new bB 46 #[.slice an rs c0,.slice ar qs c1,af,ae,sp,.slice aj ws c2,.slice ak U c3,.slice aA os c4,ck,cl,cj];have Gj:Below bB bB (bB.alloc (.cells #[.slice an rs c0,.slice ar qs c1,af,ae,sp,.slice aj ws c2,.slice ak U c3,.slice aA os c4,ck,cl,cj] 46)):=bZ _ _
  rw [← OQ] at dt
  generalize bB.alloc (.cells #[.slice an rs c0,.slice ar qs c1,af,ae,sp,.slice aj ws c2,.slice ak U c3,.slice aA os c4,ck,cl,cj] 46)= ca at *
  rw [← OQ]
  have ajR:=Gj.size
  have atV:w.heap.size≤Qs:=by have:=jz.size;omega
  have atW:aF.heap.size≤Qs:=by have:=bG.size;omega
  have gP:=ah jz Gj;have jB:=ah bG Gj;have CO:=eL.to Gj;have aey:=J (aex.out.later Gj)
  have atL:cA≠Qs:=by have:=eL.lt;omega
  clear bF oz Wo pf eL OQ;have bX:=J dt;have oz:=CO.aG;have fl:=dt.bM;have ahn:=dt.hh;have pf:=CO.lt;have vc:=dt.lt;clear dt
  go_upto_region 6 with fail
  clear oz fl ahn pf vc
  refine iK 0 fun ux gg=>?_
  have Jl:=gg.PH bX.out;have iw:=aey.out.gY bX.out gg.gi;have kY:=gg.aE jB;have lW:=gg.aE gP;have asc:=J Jl;have nc:=J iw;have fl:=Jl.bM
  have vc:=Jl.lt;clear gg Jl iw CO;have cD:=eo.out.below kY eo.out.lt;have dr:=J cD;have al:=cD.bM;have eK:=cD.hh;have hs:=cD.lt;clear cD
  go_wp2
  clear al eK hs fl vc
  refine hX 0 fun cS aC=>?_
  have bQ:=aC.hV dr.out;have fH:=(nc.out).gY dr.out aC.gi;have ez:=aC.aE lW;clear aC
  obtain⟨z0,bw,z2,z3,z4,z5,cy,dh,dm,z9,dk⟩:=bQ.bM
  refine bodyPost_ret (v:= .tuple #[.agg #[.slice cI dp e0,.slice cF dB e1,dP,dO,dG,.slice de bV e2,.slice df bY e3,.slice cJ dn e4,ck,cl,cj],s]) (by simp [results,Tryz.results187,go_sem,z0,bw,z2,z3,z4,z5,cy,dh,dm,z9,dk]) rfl ?_
  exact⟨⟨dp,dB,dP,dO,dG,bV,bY,dn,cI,e0,cF,e1,de,e2,df,e3,cJ,e4,_,rfl,J (vM.out),fH⟩,ez⟩
open Go.RowKit Go.G9
def sL (m:cz):Nat→Int→cz×ByteArray
 | 7,n=>oy m ⟨2,n,0,0,0,0⟩ (⟨#[111,107]⟩ :ByteArray)
 | 8,n=>oy m ⟨3,n,0,0,0,0⟩ (⟨#[111,107]⟩ :ByteArray)
 | 9,n=>oy m ⟨5,0,n,0,0,0⟩ (⟨#[111,107]⟩ :ByteArray)
 | 10,n=>oy m ⟨8,n,0,0,0,0⟩ (⟨#[111,107]⟩ :ByteArray)
 | 11,n=>(m,(jU m 11 [n]).getD (⟨#[63]⟩ :ByteArray))
 | 12,n=>(m,(jU m 12 [n]).getD (⟨#[63]⟩ :ByteArray))
 | _,_=>(m,(⟨#[63]⟩ :ByteArray))
theorem XW (m:cz) (i:Nat) (n:Int) (h7:i≠7) (h8:i≠8) (h9:i≠9) (h10:i≠10) (h11:i≠11) (h12:i≠12):sL m i n= (m,(⟨#[63]⟩ :ByteArray)):=by
 unfold sL
 split <;> first | rfl | (exfalso;omega)
theorem KU {p:Prop} (h:p:=by
 rintro e aM ⟨⟨dp,dB,dP,dO,dG,bV,bY,dn,cI,e0,cF,e1,de,e2,df,e3,cJ,e4,y,rfl,cX,jI⟩,aN⟩
 have mG:=J jI;clear jI;have hR:=ah I aN;have cD:=eo.out.below aN eo.out.lt;have dr:=J cD;have al:=cD.bM;have eK:=cD.hh;clear cD
 go_wp2
 clear al eK
 refine hX 0 fun cS aC=>?_
 have bQ:=aC.hV dr.out;have fH:=(mG.out).gY dr.out aC.gi;have ez:=aC.aE hR;clear aC
 obtain⟨z0,bw,z2,z3,z4,z5,cy,dh,dm,z9,dk⟩:=bQ.bM
 refine bodyPost_ret (v:= .tuple #[.agg #[.slice cI dp e0,.slice cF dB e1,dP,dO,dG,.slice de bV e2,.slice df bY e3,.slice cJ dn e4,ck,cl,cj],y]) (by simp [results,Tryz.results114,go_sem,z0,bw,z2,z3,z4,z5,cy,dh,dm,z9,dk]) rfl ?_
 exact⟨⟨dp,dB,dP,dO,dG,bV,bY,dn,cI,e0,cF,e1,de,e2,df,e3,cJ,e4,_,rfl,J (cX.out),fH⟩,ez⟩):p:=h
theorem abB {p:Prop} (h:p:=by
 exact⟨⟨rs,qs,af,ae,sp,ws,U,os,an,c0,ar,c1,aj,c2,ak,c3,aA,c4,_,rfl,J (RH.out),fH⟩,ez⟩):p:=h
theorem abC {p:Prop} (h:p:=by
 exact⟨⟨rs,qs,af,ae,sp,ws,U,os,an,c0,ar,c1,aj,c2,ak,c3,aA,c4,_,rfl,J (adU.out),fH⟩,ez⟩):p:=h
theorem abD {p:Prop} (h:p:=by
 exact⟨⟨rs,qs,af,ae,sp,ws,U,os,an,c0,ar,c1,aj,c2,ak,c3,aA,c4,_,rfl,J (Sj.out),fH⟩,ez⟩):p:=h
theorem amr (B:Nat) (an ar aj ak aA:Option Addr) (c0 c1 c2 c3 c4:Nat) (rs:List aJ) (qs:List aL) (af ae sp:Int) (ws:List Int) (U:List aI) (os:List Out) (ck cl:ByteArray) (cj:Int) (h:gM ⟨rs,qs,af,ae,sp,ws,U,os⟩) (s:ByteArray) (n:Int) (w:World) (oi:B≤w.heap.size) (bP:gA B w an c0 ar c1 aj c2 ak c3 aA c4 rs qs ws U os):
 Calls Tryz.prog 114 #[.agg #[.slice an rs c0,.slice ar qs c1,af,ae,sp,.slice aj ws c2,.slice ak U c3,.slice aA os c4,ck,cl,cj],s,n] w fun e ag=>Ck B ck cl cj (sL ⟨rs,qs,af,ae,sp,ws,U,os⟩ (eF s) n) e ag∧Below w w ag:=by
 have cB:=Ct s
 generalize eF s= i at *
 obtain⟨-,-,-,-,-,-,-,f7,f8,f9,f10,f11,f12,-,-⟩:=cB
 have oQ:gp af ae sp ws U= true:=h.gD;have Z:=Hh bP h;have Ij:=J (fun W (h1:aH 1 bR W aj ws) (h2:aH 3 aI.cells W ak U)=>apG af ae sp aj c2 ws ak c3 U Z.h2 Z.h3 Z.cp oQ n W h1 h2)
 have rH:-1000000000 < (if eG n then ae - (ev U n).cQ else 0)∧(if eG n then ae - (ev U n).cQ else 0) < 1000000000:=by
  split
  ·rename_i hm
   have:=Kz oQ hm
   omega
  ·omega
 have RH:Hid (sL ⟨rs,qs,af,ae,sp,ws,U,os⟩ 11 n= (⟨rs,qs,af,ae,sp,ws,U,os⟩,if eG n then eQ (if eG n then ae - (ev U n).cQ else 0) else (⟨#[63]⟩ :ByteArray))):=J (by
  show (_,((if eG n then some (eQ (ae - (ev U n).cQ)) else none:Option ByteArray).getD (⟨#[63]⟩ :ByteArray)))= _
  cases eG n <;> rfl)
 have lZ:=Dv.2 h;have ajz:=Pr os n os.length;have tA:=(tE h).2.2.2.2
 simp only at tA
 obtain⟨b,aB⟩ :∃b,eG n= b:=⟨_,rfl⟩
 obtain⟨v1,tB⟩ :∃v,v= if b then (hE os n os.length).1 else 0:=⟨_,rfl⟩
 obtain⟨v2,pI⟩ :∃v,v= if b then (hE os n os.length).2 else 0:=⟨_,rfl⟩
 have Lz:=J (fun W (du:ea W an ar aj ak aA rs qs ws U os)=>apV ⟨rs,qs,af,ae,sp,ws,U,os⟩ an ar aj ak aA c0 c1 c2 c3 c4 Z.h0 Z.h1 Z.h2 Z.h3 Z.h4 n (.tuple #[v1,v2,.bool b]) (by rw [wu,lZ,aB,tB,pI];cases b <;> rfl) W du.fF du.dJ du.r2 du.hr du.nJ Z.dY Z.eB Z.cp Z.ed Z.hp)
 have adU:Hid (sL ⟨rs,qs,af,ae,sp,ws,U,os⟩ 12 n= (⟨rs,qs,af,ae,sp,ws,U,os⟩,if b then eQ v1 ++ (⟨#[32]⟩ :ByteArray) ++ eQ v2 else (⟨#[63]⟩ :ByteArray))):=J (by
  show (_,((if eG n then some (pk [(hE os n os.length).1,(hE os n os.length).2]) else none:Option ByteArray).getD (⟨#[63]⟩ :ByteArray)))= _
  rw [aB,tB,pI]
  cases b <;> rfl)
 have Dh:(-1000000000 < v1∧v1 < 1000000000)∧-1000000000 < v2∧v2 < 1000000000:=by
  rw [tB,pI]
  cases b
  ·simp
  ·simp only [if_true];omega
 rw [aB] at Ij RH rH
 generalize (if b then ae - (ev U n).cQ else 0)= v at *
 have iu:=J h;have dq:=J bP;clear h bP Z lZ ajz tA oQ aB tB pI
 go_in
 go_upto_region 1 with fail
 refine fm fun aF au aQ ad=>?_
 have I:=au
 obtain⟨dd,dV,dT,en,et,fL,fM,fN,fO,fP,fK⟩:=aQ.bM
 obtain⟨z0,bw,z2,z3,z4,z5,cy,dh,dm,z9,dk⟩:=ad.bM;have eo:=J ad;have fD:=J aQ;have sG:=ad.lt
 have vZ:B≤aF.heap.size:=by have:=I.size;omega
 have iW:=J (dq.out.later I);clear z0 bw z2 z3 z4 z5 cy dh dm z9 dk ad aQ dq
 by_cases h7:i= 7
 ·subst h7
  simp only [Nat.reduceBEq] at f7 f8 f9 f10 f11 f12
  go_wp2_with fail
  refine (xQ B an ar aj ak aA c0 c1 c2 c3 c4 rs qs af ae sp ws U os ck cl cj iu.out 2 n 0 0 0 0 (⟨#[111,107]⟩ :ByteArray) _ vZ iW.out).mono ?_
  exact KU
 by_cases h8:i= 8
 ·subst h8
  simp only [Nat.reduceBEq] at f7 f8 f9 f10 f11 f12
  go_wp2_with fail
  refine (xQ B an ar aj ak aA c0 c1 c2 c3 c4 rs qs af ae sp ws U os ck cl cj iu.out 3 n 0 0 0 0 (⟨#[111,107]⟩ :ByteArray) _ vZ iW.out).mono ?_
  exact KU
 by_cases h9:i= 9
 ·subst h9
  simp only [Nat.reduceBEq] at f7 f8 f9 f10 f11 f12
  go_wp2_with fail
  refine (xQ B an ar aj ak aA c0 c1 c2 c3 c4 rs qs af ae sp ws U os ck cl cj iu.out 5 0 n 0 0 0 (⟨#[111,107]⟩ :ByteArray) _ vZ iW.out).mono ?_
  exact KU
 by_cases h10:i= 10
 ·subst h10
  simp only [Nat.reduceBEq] at f7 f8 f9 f10 f11 f12
  go_wp2_with fail
  refine (xQ B an ar aj ak aA c0 c1 c2 c3 c4 rs qs af ae sp ws U os ck cl cj iu.out 8 n 0 0 0 0 (⟨#[111,107]⟩ :ByteArray) _ vZ iW.out).mono ?_
  exact KU
 by_cases h11:i= 11
 ·subst h11
  simp only [Nat.reduceBEq] at f7 f8 f9 f10 f11 f12
  go_wp2_with fail
  refine (Ij.out _ iW.out.rd.r2 iW.out.rd.hr).mono ?_
  rintro e aM ⟨rfl,aN⟩
  have hR:=ah I aN;have hx:=J (iW.out.later aN)
  cases b
  ·skip
   have cD:=eo.out.below aN eo.out.lt;have dr:=J cD;have al:=cD.bM;have eK:=cD.hh;clear cD;have bF:=(fD.out.below aN fD.out.lt).bM;clear dd dV dT en et fL fM fN fO fP fK
   go_wp2
   clear al eK bF
   refine hX 0 fun cS aC=>?_
   have bQ:=aC.hV dr.out;have fH:=(hx.out).gY dr.out aC.gi;have ez:=aC.aE hR;clear aC
   obtain⟨z0,bw,z2,z3,z4,z5,cy,dh,dm,z9,dk⟩:=bQ.bM
   refine bodyPost_ret (v:= .tuple #[.agg #[.slice an rs c0,.slice ar qs c1,af,ae,sp,.slice aj ws c2,.slice ak U c3,.slice aA os c4,ck,cl,cj],.string (⟨#[63]⟩ :ByteArray)]) (by simp [results,Tryz.results114,go_sem,z0,bw,z2,z3,z4,z5,cy,dh,dm,z9,dk]) rfl ?_
   exact abB
  ·go_upto_region 13 with fail
   have ix:=fD.out.below aN fD.out.lt
   obtain⟨eX,gV⟩ :∃X:World→Prop,∀V,X V↔aq V (w.heap.size) 46 #[.slice an rs c0,.slice ar qs c1,af,ae,sp,.slice aj ws c2,.slice ak U c3,.slice aA os c4,ck,cl,cj]:=⟨_,fun _=>Iff.rfl⟩
   have di:=J gV;clear gV
   haveI:Nonempty (cN eX):=⟨⟨aM,(di.out _).2 ix⟩⟩
   refine oU eX [([0,1],2),([],3)] [4] (by kernel_rfl) (by kernel_rfl) ((di.out _).2 ix) ?_
   clear dd dV dT en et fL fM fN fO fP fK
   obtain⟨dd,dV,dT,en,et,fL,fM,fN,fO,fP,fK⟩:=aq.sr (fun K:cN eX=>(di.out _).1 K.holds)
   have hl:Below w w aM.drew:=ah hR (Below.refl _ _).drew;have om:aq aM.drew (w.heap.size) 46 #[.slice an rs c0,.slice ar qs c1,af,ae,sp,.slice aj ws c2,.slice ak U c3,.slice aA os c4,ck,cl,cj]:=ix;have pE:=eo.out.below aN eo.out.lt;have mm:Hid (aq aM.drew (w.heap.size + 1) 46 #[.slice none 0 0,.slice none 0 0,(0:Int),(0:Int),(0:Int),.slice none 0 0,.slice none 0 0,.slice none 0 0,.string ⟨#[]⟩,.string ⟨#[]⟩,(0:Int)]):=J pE
   have oL:=J (hx.out.later (Below.refl _ _).drew);clear ix pE
   generalize aM.drew= wd at *
   refine ha fun gz dZ=>?_
   change wpQuiet _ _ _ _ (_ ::_ ::[]) _
   repeat (go_big_quiet_step (fail))
   refine wpQuiet_nil ?_
   change wpList _ _ _ (_ ::[]) _ _
   go_wp2_with fail
   refine (rl v rH.1 rH.2 _).mono ?_
   rintro e bB ⟨rfl,bG⟩
   have jz:=ah hl bG;have gl:=om.to bG
   go_wp2
   refine hn ((di.out _).2 gl) (dZ _ _ ?_)
   refine ha fun gz dZ=>?_
   change wpQuiet _ _ _ _ ([]) _
   refine wpQuiet_nil ?_
   change wpList _ _ _ (_ ::[]) _ _
   have dr:=J (mm.out.below bG mm.out.lt);have al:=dr.out.bM;have eK:=dr.out.hh
   go_wp2
   clear al eK
   refine hX 0 fun cS aC=>?_
   have er:=aC.dM (gl);have bQ:=aC.hV dr.out;have fH:=(oL.out.later bG).gY dr.out aC.gi;have ez:=aC.aE jz;clear aC
   refine hn ((di.out _).2 er) (dZ _ _ ?_)
   refine mA ?_
   change wpQuiet _ _ _ _ (_ ::[]) _
   repeat (go_big_quiet_step (fail))
   refine wpQuiet_nil ?_
   clear dd dV dT en et fL fM fN fO fP fK
   go_wp2
   obtain⟨z0,bw,z2,z3,z4,z5,cy,dh,dm,z9,dk⟩:=bQ.bM
   refine bodyPost_ret (v:= .tuple #[.agg #[.slice an rs c0,.slice ar qs c1,af,ae,sp,.slice aj ws c2,.slice ak U c3,.slice aA os c4,ck,cl,cj],.string (eQ v)]) (by simp [results,Tryz.results114,go_sem,z0,bw,z2,z3,z4,z5,cy,dh,dm,z9,dk]) rfl ?_
   exact abB
 by_cases h12:i= 12
 ·subst h12
  simp only [Nat.reduceBEq] at f7 f8 f9 f10 f11 f12
  go_wp2_with fail
  refine (Lz.out _ iW.out.rd).mono ?_
  rintro e aM ⟨rfl,aN⟩
  have hR:=ah I aN;have hx:=J (iW.out.later aN)
  cases b
  ·skip
   have cD:=eo.out.below aN eo.out.lt;have dr:=J cD;have al:=cD.bM;have eK:=cD.hh;clear cD;have bF:=(fD.out.below aN fD.out.lt).bM;clear dd dV dT en et fL fM fN fO fP fK
   go_wp2
   clear al eK bF
   refine hX 0 fun cS aC=>?_
   have bQ:=aC.hV dr.out;have fH:=(hx.out).gY dr.out aC.gi;have ez:=aC.aE hR;clear aC
   obtain⟨z0,bw,z2,z3,z4,z5,cy,dh,dm,z9,dk⟩:=bQ.bM
   refine bodyPost_ret (v:= .tuple #[.agg #[.slice an rs c0,.slice ar qs c1,af,ae,sp,.slice aj ws c2,.slice ak U c3,.slice aA os c4,ck,cl,cj],.string (⟨#[63]⟩ :ByteArray)]) (by simp [results,Tryz.results114,go_sem,z0,bw,z2,z3,z4,z5,cy,dh,dm,z9,dk]) rfl ?_
   exact abC
  ·have xG:=xY v1 (by omega)
   have Df:=xY v2 (by omega)
   go_upto_region 17 with fail
   have ix:=fD.out.below aN fD.out.lt
   obtain⟨eX,gV⟩ :∃X:World→Prop,∀V,X V↔aq V (w.heap.size) 46 #[.slice an rs c0,.slice ar qs c1,af,ae,sp,.slice aj ws c2,.slice ak U c3,.slice aA os c4,ck,cl,cj]:=⟨_,fun _=>Iff.rfl⟩
   have di:=J gV;clear gV
   haveI:Nonempty (cN eX):=⟨⟨aM,(di.out _).2 ix⟩⟩
   refine oU eX [([0,1,4],2),([3],5),([6],7)] [8] (by kernel_rfl) (by kernel_rfl) ((di.out _).2 ix) ?_
   clear dd dV dT en et fL fM fN fO fP fK
   obtain⟨dd,dV,dT,en,et,fL,fM,fN,fO,fP,fK⟩:=aq.sr (fun K:cN eX=>(di.out _).1 K.holds)
   have hl:Below w w aM.drew:=ah hR (Below.refl _ _).drew;have om:aq aM.drew (w.heap.size) 46 #[.slice an rs c0,.slice ar qs c1,af,ae,sp,.slice aj ws c2,.slice ak U c3,.slice aA os c4,ck,cl,cj]:=ix;have pE:=eo.out.below aN eo.out.lt;have mm:Hid (aq aM.drew (w.heap.size + 1) 46 #[.slice none 0 0,.slice none 0 0,(0:Int),(0:Int),(0:Int),.slice none 0 0,.slice none 0 0,.slice none 0 0,.string ⟨#[]⟩,.string ⟨#[]⟩,(0:Int)]):=J pE
   have oL:=J (hx.out.later (Below.refl _ _).drew);clear ix pE
   generalize aM.drew= wd at *
   refine ha fun gz dZ=>?_
   change wpQuiet _ _ _ _ (_ ::_ ::_ ::[]) _
   repeat (go_big_quiet_step (fail))
   refine wpQuiet_nil ?_
   change wpList _ _ _ (_ ::[]) _ _
   go_wp2_with fail
   refine (rl v1 Dh.1.1 Dh.1.2 _).mono ?_
   rintro e bB ⟨rfl,bG⟩
   have jz:=ah hl bG;have gl:=om.to bG;have Sr:=J (mm.out.below bG mm.out.lt)
   go_wp2
   refine hn ((di.out _).2 gl) (dZ _ _ ?_)
   refine ha fun gz dZ=>?_
   change wpQuiet _ _ _ _ (_ ::[]) _
   repeat (go_big_quiet_step (fail))
   refine wpQuiet_nil ?_
   change wpList _ _ _ (_ ::[]) _ _
   go_wp2_with fail
   refine (rl v2 Dh.2.1 Dh.2.2 _).mono ?_
   rintro e ca ⟨rfl,cU⟩
   have gP:=ah jz cU;have jB:=gl.to cU
   go_wp2
   refine hn ((di.out _).2 jB) (dZ _ _ ?_)
   refine ha fun gz dZ=>?_
   change wpQuiet _ _ _ _ (_ ::[]) _
   repeat (go_big_quiet_step (fail))
   refine wpQuiet_nil ?_
   change wpList _ _ _ (_ ::[]) _ _
   have dr:=J (Sr.out.below cU Sr.out.lt);have al:=dr.out.bM;have eK:=dr.out.hh
   go_wp2
   clear al eK
   refine hX 0 fun cS aC=>?_
   have er:=aC.dM (jB);have bQ:=aC.hV dr.out;have fH:=((oL.out.later bG).later cU).gY dr.out aC.gi;have ez:=aC.aE gP;clear aC
   refine hn ((di.out _).2 er) (dZ _ _ ?_)
   refine mA ?_
   change wpQuiet _ _ _ _ (_ ::[]) _
   repeat (go_big_quiet_step (fail))
   refine wpQuiet_nil ?_
   clear dd dV dT en et fL fM fN fO fP fK
   go_wp2
   obtain⟨z0,bw,z2,z3,z4,z5,cy,dh,dm,z9,dk⟩:=bQ.bM
   refine bodyPost_ret (v:= .tuple #[.agg #[.slice an rs c0,.slice ar qs c1,af,ae,sp,.slice aj ws c2,.slice ak U c3,.slice aA os c4,ck,cl,cj],.string (eQ v1 ++ (⟨#[32]⟩ :ByteArray) ++ eQ v2)]) (by simp [results,Tryz.results114,go_sem,z0,bw,z2,z3,z4,z5,cy,dh,dm,z9,dk]) rfl ?_
   exact abC
 have Sj:=J (XW ⟨rs,qs,af,ae,sp,ws,U,os⟩ i n h7 h8 h9 h10 h11 h12);have cD:=eo.out.below (Below.refl _ _) eo.out.lt;have dr:=J cD;have al:=cD.bM;have eK:=cD.hh;clear cD
 go_wp2
 clear al eK
 refine hX 0 fun cS aC=>?_
 have bQ:=aC.hV dr.out;have fH:=(iW.out).gY dr.out aC.gi;have ez:=aC.aE I;clear aC
 obtain⟨z0,bw,z2,z3,z4,z5,cy,dh,dm,z9,dk⟩:=bQ.bM
 refine bodyPost_ret (v:= .tuple #[.agg #[.slice an rs c0,.slice ar qs c1,af,ae,sp,.slice aj ws c2,.slice ak U c3,.slice aA os c4,ck,cl,cj],.string (⟨#[63]⟩ :ByteArray)]) (by simp [results,Tryz.results114,go_sem,z0,bw,z2,z3,z4,z5,cy,dh,dm,z9,dk]) rfl ?_
 exact abD
open Go.RowKit Go.G9
theorem Hw (s:ByteArray):∃v b,fg s= b∧Go.G9.jQ s= .tuple #[.int .i64 v,.bool b]∧(b= true→hk s.data.toList= v):=by
 cases h:fg s
 ·exact⟨0,false,rfl,YE h,fun e=>by cases e⟩
 ·exact⟨_,true,rfl,YF h,fun _=>rfl⟩
theorem HF (s:ByteArray) (aX:s.size≤1048576) (v:Int) (b:Bool) (h:Go.G9.jQ s= .tuple #[v,b]) (w:World):Calls Tryz.prog 113 #[s] w fun e ag=>e= .returned (.tuple #[v,b])∧Below w w ag:=by
 have bJ:=J (fun W=>amh s (by unfold maxLen;omega) W)
 rw [h] at bJ
 clear h
 go_in
 go_wp2_with fail
 refine (bJ.out _).mono ?_
 rintro e bd ⟨rfl,bz⟩
 have au:=be w bz;have I:Below w w bd:=au
 go_wp2
 go_ret2
 exact⟨rfl,(ah I av)⟩
def Ka (m:cz) (b:Bool) (v:Int):Option aJ→cz×ByteArray
 | some r=>if b then oy m ⟨1,v,r.id,0,0,0⟩ (⟨#[111,107]⟩ :ByteArray) else (m,(⟨#[63]⟩ :ByteArray))
 | none=>(m,(⟨#[63]⟩ :ByteArray))
theorem XO {m:cz} {v:Int} {r:aJ}:Ka m true v (some r)= oy m ⟨1,v,r.id,0,0,0⟩ (⟨#[111,107]⟩ :ByteArray):=by rw [Ka,if_pos rfl]
def Dw (m:cz) (x y:ByteArray):cz×ByteArray:=Ka m (fg y) (hk y.data.toList) (uE m.br x)
theorem acB {p:Prop} (h:p:=by
 skip
 go_in
 go_upto_region 1 with fail
 refine fm fun aF au aQ ad=>?_
 have I:=au
 obtain⟨dd,dV,dT,en,et,fL,fM,fN,fO,fP,fK⟩:=aQ.bM
 obtain⟨z0,bw,z2,z3,z4,z5,cy,dh,dm,z9,dk⟩:=ad.bM;have eo:=J ad;have fD:=J aQ;have qp:=aQ.lt
 have sG:=ad.lt;have iW:=J (dq.out.later I);clear z0 bw z2 z3 z4 z5 cy dh dm z9 dk ad aQ
 go_wp2_with fail
 refine (Es.out _).mono ?_
 rintro e aM ⟨rfl,aN⟩
 have hR:=ah I aN;have bF:=(fD.out.below aN fD.out.lt).bM;have vh:=(fD.out.below aN fD.out.lt).lt;clear dd dV dT en et fL fM fN fO fP fK
 go_wp2_with fail
 refine (LH.out _ (iW.out.later aN).rd.fF).mono ?_
 rintro e bB ⟨rfl,bG⟩
 have jz:=ah hR bG;have gl:=ah aN bG;clear bF vh
 simp only [yf,Option.isSome_some,Option.isSome_none]
 go_upto_region 3 with fail
 obtain⟨sO,jr⟩ :∃b,b= bB.heap.size:=⟨_,rfl⟩
 have eL:=aq.new bB 89 #[(0:Int),.string ⟨#[]⟩,(0:Int),false,false,false,(0:Int)];have jB:=gl.alloc gl.size (.cells #[(0:Int),.string ⟨#[]⟩,(0:Int),false,false,false,(0:Int)] 89);have gP:=jz.alloc jz.size (.cells #[(0:Int),.string ⟨#[]⟩,(0:Int),false,false,false,(0:Int)] 89)
 rw [← jr] at eL
 generalize bB.alloc (.cells #[(0:Int),.string ⟨#[]⟩,(0:Int),false,false,false,(0:Int)] 89)= ca at *
 rw [← jr]
 clear jr;have bF:=(fD.out.below jB fD.out.lt).bM;have JD:=(fD.out.below jB fD.out.lt).lt;have lj:=J (iW.out.later jB);have cD:=eo.out.below jB eo.out.lt;have dr:=J cD;have al:=cD.bM;have eK:=cD.hh;have hs:=cD.lt;clear cD
 go_wp2
 clear al eK hs bF
 refine hX 0 fun cS aC=>?_
 have bQ:=aC.hV dr.out;have fH:=(lj.out).gY dr.out aC.gi;have ez:=aC.aE gP;clear aC
 obtain⟨z0,bw,z2,z3,z4,z5,cy,dh,dm,z9,dk⟩:=bQ.bM
 refine bodyPost_ret (v:= .tuple #[.agg #[.slice an rs c0,.slice ar qs c1,af,ae,sp,.slice aj ws c2,.slice ak U c3,.slice aA os c4,ck,cl,cj],.string (⟨#[63]⟩ :ByteArray)]) (by simp [results,Tryz.results111,go_sem,z0,bw,z2,z3,z4,z5,cy,dh,dm,z9,dk]) rfl ?_
 exact⟨⟨rs,qs,af,ae,sp,ws,U,os,an,c0,ar,c1,aj,c2,ak,c3,aA,c4,_,rfl,J (Aa.out),fH⟩,ez⟩):p:=h
theorem amq (B:Nat) (an ar aj ak aA:Option Addr) (c0 c1 c2 c3 c4:Nat) (rs:List aJ) (qs:List aL) (af ae sp:Int) (ws:List Int) (U:List aI) (os:List Out) (ck cl:ByteArray) (cj:Int) (h:gM ⟨rs,qs,af,ae,sp,ws,U,os⟩) (x y:ByteArray) (hy:y.size≤1048576) (w:World) (oi:B≤w.heap.size) (bP:gA B w an c0 ar c1 aj c2 ak c3 aA c4 rs qs ws U os):
 Calls Tryz.prog 111 #[.agg #[.slice an rs c0,.slice ar qs c1,af,ae,sp,.slice aj ws c2,.slice ak U c3,.slice aA os c4,ck,cl,cj],x,y] w fun e ag=>Ck B ck cl cj (Dw ⟨rs,qs,af,ae,sp,ws,U,os⟩ x y) e ag∧Below w w ag:=by
 obtain⟨v,b,aB,bu,aw⟩:=Hw y
 have Es:=J (fun W=>HF y hy v b bu W)
 obtain⟨o,cY⟩ :∃o,uE rs x= o:=⟨_,rfl⟩
 have Z:=Hh bP h;have LH:=J (fun W (h1:aH 7 aJ.cells W an rs)=>apm an c0 rs Z.h0 (nr h.hq).1 x o cY W h1)
 have Aa:Hid (Dw ⟨rs,qs,af,ae,sp,ws,U,os⟩ x y= Ka ⟨rs,qs,af,ae,sp,ws,U,os⟩ b v o):=J (by
  rw [Dw,aB,show uE (cz.br ⟨rs,qs,af,ae,sp,ws,U,os⟩) x= o from cY]
  cases o
  ·rfl
  ·cases b
   ·rfl
   ·rw [aw rfl])
 have iu:=J h;have dq:=J bP;clear h bP Z aB bu aw cY
 cases b
 ·rcases o with - | r
  ·exact acB
  ·skip
   go_in
   go_upto_region 1 with fail
   refine fm fun aF au aQ ad=>?_
   have I:=au
   obtain⟨dd,dV,dT,en,et,fL,fM,fN,fO,fP,fK⟩:=aQ.bM
   obtain⟨z0,bw,z2,z3,z4,z5,cy,dh,dm,z9,dk⟩:=ad.bM;have eo:=J ad;have fD:=J aQ;have qp:=aQ.lt
   have sG:=ad.lt;have iW:=J (dq.out.later I);clear z0 bw z2 z3 z4 z5 cy dh dm z9 dk ad aQ
   go_wp2_with fail
   refine (Es.out _).mono ?_
   rintro e aM ⟨rfl,aN⟩
   have hR:=ah I aN;have bF:=(fD.out.below aN fD.out.lt).bM;have vh:=(fD.out.below aN fD.out.lt).lt;clear dd dV dT en et fL fM fN fO fP fK
   go_wp2_with fail
   refine (LH.out _ (iW.out.later aN).rd.fF).mono ?_
   rintro e bB ⟨rfl,bG⟩
   have jz:=ah hR bG;have gl:=ah aN bG;clear bF vh
   simp only [yf,Option.isSome_some,Option.isSome_none]
   go_upto_region 3 with fail
   obtain⟨sO,jr⟩ :∃b,b= bB.heap.size:=⟨_,rfl⟩
   have eL:=aq.new bB 89 #[r.id,r.name,r.gG,r.second,r.lV,r.mH,r.hA];have jB:=gl.alloc gl.size (.cells #[r.id,r.name,r.gG,r.second,r.lV,r.mH,r.hA] 89);have gP:=jz.alloc jz.size (.cells #[r.id,r.name,r.gG,r.second,r.lV,r.mH,r.hA] 89)
   rw [← jr] at eL
   generalize bB.alloc (.cells #[r.id,r.name,r.gG,r.second,r.lV,r.mH,r.hA] 89)= ca at *
   rw [← jr]
   clear jr;have bF:=(fD.out.below jB fD.out.lt).bM;have JD:=(fD.out.below jB fD.out.lt).lt;have lj:=J (iW.out.later jB);have cD:=eo.out.below jB eo.out.lt;have dr:=J cD;have al:=cD.bM;have eK:=cD.hh;have hs:=cD.lt;clear cD
   go_wp2
   clear al eK hs bF
   refine hX 0 fun cS aC=>?_
   have bQ:=aC.hV dr.out;have fH:=(lj.out).gY dr.out aC.gi;have ez:=aC.aE gP;clear aC
   obtain⟨z0,bw,z2,z3,z4,z5,cy,dh,dm,z9,dk⟩:=bQ.bM
   refine bodyPost_ret (v:= .tuple #[.agg #[.slice an rs c0,.slice ar qs c1,af,ae,sp,.slice aj ws c2,.slice ak U c3,.slice aA os c4,ck,cl,cj],.string (⟨#[63]⟩ :ByteArray)]) (by simp [results,Tryz.results111,go_sem,z0,bw,z2,z3,z4,z5,cy,dh,dm,z9,dk]) rfl ?_
   exact⟨⟨rs,qs,af,ae,sp,ws,U,os,an,c0,ar,c1,aj,c2,ak,c3,aA,c4,_,rfl,J (Aa.out),fH⟩,ez⟩
 ·rcases o with - | r
  ·exact acB
  ·skip
   go_in
   go_upto_region 1 with fail
   refine fm fun aF au aQ ad=>?_
   have I:=au
   obtain⟨dd,dV,dT,en,et,fL,fM,fN,fO,fP,fK⟩:=aQ.bM
   obtain⟨z0,bw,z2,z3,z4,z5,cy,dh,dm,z9,dk⟩:=ad.bM;have eo:=J ad;have fD:=J aQ;have qp:=aQ.lt
   have sG:=ad.lt;have iW:=J (dq.out.later I);clear z0 bw z2 z3 z4 z5 cy dh dm z9 dk ad aQ
   go_wp2_with fail
   refine (Es.out _).mono ?_
   rintro e aM ⟨rfl,aN⟩
   have hR:=ah I aN;have bF:=(fD.out.below aN fD.out.lt).bM;have vh:=(fD.out.below aN fD.out.lt).lt;clear dd dV dT en et fL fM fN fO fP fK
   go_wp2_with fail
   refine (LH.out _ (iW.out.later aN).rd.fF).mono ?_
   rintro e bB ⟨rfl,bG⟩
   have jz:=ah hR bG;have gl:=ah aN bG;clear bF vh
   simp only [yf,Option.isSome_some,Option.isSome_none]
   go_upto_region 3 with fail
   obtain⟨sO,jr⟩ :∃b,b= bB.heap.size:=⟨_,rfl⟩
   have eL:=aq.new bB 89 #[r.id,r.name,r.gG,r.second,r.lV,r.mH,r.hA];have jB:=gl.alloc gl.size (.cells #[r.id,r.name,r.gG,r.second,r.lV,r.mH,r.hA] 89);have gP:=jz.alloc jz.size (.cells #[r.id,r.name,r.gG,r.second,r.lV,r.mH,r.hA] 89)
   rw [← jr] at eL
   generalize bB.alloc (.cells #[r.id,r.name,r.gG,r.second,r.lV,r.mH,r.hA] 89)= ca at *
   rw [← jr]
   clear jr;have bF:=(fD.out.below jB fD.out.lt).bM;have JD:=(fD.out.below jB fD.out.lt).lt;have lj:=J (iW.out.later jB);have n0:=(eL.cell 0).trans (show _= some (.int .i64 r.id) from rfl);have pf:=eL.lt
   go_wp2_with fail
   refine (xQ B an ar aj ak aA c0 c1 c2 c3 c4 rs qs af ae sp ws U os ck cl cj iu.out 1 v r.id 0 0 0 (⟨#[111,107]⟩ :ByteArray) _ (by have:=gP.size;omega) lj.out).mono ?_
   rintro e dc ⟨⟨dp,dB,dP,dO,dG,bV,bY,dn,cI,e0,cF,e1,de,e2,df,e3,cJ,e4,nL,rfl,cX,jI⟩,ei⟩
   have mG:=J jI;clear jI;have kY:=ah jB ei;have lW:=ah gP ei;clear bF n0 eL pf;have cD:=eo.out.below kY eo.out.lt;have dr:=J cD;have al:=cD.bM;have eK:=cD.hh;have hs:=cD.lt;clear cD
   go_wp2
   clear al eK hs
   refine hX 0 fun cS aC=>?_
   have bQ:=aC.hV dr.out;have fH:=(mG.out).gY dr.out aC.gi;have ez:=aC.aE lW;clear aC
   obtain⟨z0,bw,z2,z3,z4,z5,cy,dh,dm,z9,dk⟩:=bQ.bM
   refine bodyPost_ret (v:= .tuple #[.agg #[.slice cI dp e0,.slice cF dB e1,dP,dO,dG,.slice de bV e2,.slice df bY e3,.slice cJ dn e4,ck,cl,cj],nL]) (by simp [results,Tryz.results111,go_sem,z0,bw,z2,z3,z4,z5,cy,dh,dm,z9,dk]) rfl ?_
   exact⟨⟨dp,dB,dP,dO,dG,bV,bY,dn,cI,e0,cF,e1,de,e2,df,e3,cJ,e4,_,rfl,J (Aa.out.trans (XO.trans cX.out)),fH⟩,ez⟩
theorem aoz {w:World} {A:Option Addr} {x y z:ByteArray} (h:aH 1 hC w A [x,y,z]):∃b o,A= some ⟨b,o,none⟩∧b < w.heap.size∧w.cell? ⟨b,o,none⟩ =some (.string x)∧w.cell? ⟨b,o + 1,none⟩ =some (.string y)∧w.cell? ⟨b,o + 2,none⟩ =some (.string z):=by
 obtain⟨b,o,e,aB,aE⟩:=h (by simp)
 exact⟨b,o,e,aB,by simpa using aE 0 x rfl 0 _ rfl,by simpa using aE 1 y rfl 0 _ rfl,by simpa using aE 2 z rfl 0 _ rfl⟩
def Bx (m:cz) (x y z:ByteArray):cz×ByteArray:=if fg x && (fg y && fg z) then sl m ⟨7,0,0,hk x.data.toList,hk y.data.toList,hk z.data.toList⟩ else (m,(⟨#[63]⟩ :ByteArray))
theorem SH {m:cz} {a:oG} (h:gF m a= none):sl m a= (m,(⟨#[63]⟩ :ByteArray)):=by rw [sl,h]
theorem afh {m n:cz} {x y z:Int} (h:gF m ⟨7,0,0,x,y,z⟩ =some n):sl m ⟨7,0,0,x,y,z⟩ =(n,if Hd n then (⟨#[97,100,111,112,116,101,100]⟩ :ByteArray) else (⟨#[108,111,115,116]⟩ :ByteArray)):=by
 rw [sl,h]
 show (n,pR n 7)= _
 rw [pR,if_neg (by decide),if_pos rfl]
theorem QZ {p:Prop} (h:p:=by
 skip
 have cD:=eo.out.below jB eo.out.lt;have dr:=J cD;have al:=cD.bM;have eK:=cD.hh;have hs:=cD.lt;clear cD
 go_wp2
 clear al eK hs bF
 refine hX 0 fun cS aC=>?_
 have bQ:=aC.hV dr.out;have fH:=(lj.out).gY dr.out aC.gi;have ez:=aC.aE gP;clear aC
 obtain⟨z0,bw,z2,z3,z4,z5,cy,dh,dm,z9,dk⟩:=bQ.bM
 refine bodyPost_ret (v:= .tuple #[.agg #[.slice an rs c0,.slice ar qs c1,af,ae,sp,.slice aj ws c2,.slice ak U c3,.slice aA os c4,ck,cl,cj],.string (⟨#[63]⟩ :ByteArray)]) (by simp [results,Tryz.results112,go_sem,z0,bw,z2,z3,z4,z5,cy,dh,dm,z9,dk]) rfl ?_
 exact⟨⟨rs,qs,af,ae,sp,ws,U,os,an,c0,ar,c1,aj,c2,ak,c3,aA,c4,_,rfl,J (LP.out),fH⟩,ez⟩):p:=h
theorem abz {p:Prop} (h:p:=by
 exact⟨⟨dp,dB,dP,dO,dG,bV,bY,dn,cI,e0,cF,e1,de,e2,df,e3,cJ,e4,_,rfl,J (Sk.out),fH⟩,ez⟩):p:=h
theorem abh {p:Prop} (h:p:=by
 exact⟨⟨dp,dB,dP,dO,dG,bV,bY,dn,cI,e0,cF,e1,de,e2,df,e3,some ⟨kW,off,none⟩,e4,_,rfl,J (RE.out),fH⟩,ez⟩):p:=h
theorem amt (B:Nat) (an ar aj ak aA:Option Addr) (c0 c1 c2 c3 c4:Nat) (rs:List aJ) (qs:List aL) (af ae sp:Int) (ws:List Int) (U:List aI) (os:List Out) (ck cl:ByteArray) (cj:Int) (h:gM ⟨rs,qs,af,ae,sp,ws,U,os⟩) (A:Option Addr) (uD:Nat) (x y z:ByteArray) (ay:x.size≤1048576) (hy:y.size≤1048576) (cc:z.size≤1048576) (w:World) (oi:B≤w.heap.size) (bP:gA B w an c0 ar c1 aj c2 ak c3 aA c4 rs qs ws U os) (Fa:aH 1 hC w A [x,y,z]):
 Calls Tryz.prog 112 #[.agg #[.slice an rs c0,.slice ar qs c1,af,ae,sp,.slice aj ws c2,.slice ak U c3,.slice aA os c4,ck,cl,cj],.slice A 3 uD] w fun e ag=>Ck B ck cl cj (Bx ⟨rs,qs,af,ae,sp,ws,U,os⟩ x y z) e ag∧Below w w ag:=by
 obtain⟨v1,dx,bz,wk,tB⟩:=Hw x
 obtain⟨v2,dz,aN,AJ,pI⟩:=Hw y
 obtain⟨v3,eu,bG,VZ,Wh⟩:=Hw z
 have Ep:=J (fun W=>HF x ay v1 dx wk W);have Er:=J (fun W=>HF y hy v2 dz AJ W);have aeC:=J (fun W=>HF z cc v3 eu VZ W)
 have LP:Hid (Bx ⟨rs,qs,af,ae,sp,ws,U,os⟩ x y z= if dx && (dz && eu) then sl ⟨rs,qs,af,ae,sp,ws,U,os⟩ ⟨7,0,0,v1,v2,v3⟩ else (⟨rs,qs,af,ae,sp,ws,U,os⟩,(⟨#[63]⟩ :ByteArray))):=J (by
  rw [Bx,bz,aN,bG]
  cases dx
  ·rfl
  cases dz
  ·rfl
  cases eu
  ·rfl
  rw [tB rfl,pI rfl,Wh rfl])
 obtain⟨lF,wv,rfl,Vb,g0,g1,g2⟩:=aoz Fa
 have hO:=J (And.intro g0 (And.intro g1 g2));have sW:=J Vb;have iu:=J h;have dq:=J bP;clear h bP bz aN bG wk AJ VZ tB pI Wh g0 g1 g2 Vb Fa
 go_in
 go_upto_region 1 with fail
 refine fm fun aF au aQ ad=>?_
 have I:=au
 obtain⟨dd,dV,dT,en,et,fL,fM,fN,fO,fP,fK⟩:=aQ.bM
 obtain⟨z0,bw,z2,z3,z4,z5,cy,dh,dm,z9,dk⟩:=ad.bM;have eo:=J ad;have fD:=J aQ;have qp:=aQ.lt
 have sG:=ad.lt;have iW:=J (dq.out.later I);clear z0 bw z2 z3 z4 z5 cy dh dm z9 dk ad aQ dd dV dT en et fL fM fN fO fP fK;have g0:=(I.cell (p:=⟨lF,_,none⟩) sW.out).trans hO.out.1;have ph:lF < aF.heap.size:=Nat.lt_of_lt_of_le sW.out I.size
 go_wp2_with fail
 refine (Ep.out _).mono ?_
 rintro e aM ⟨rfl,aN⟩
 have hR:=ah I aN;clear g0 ph;have g1:=(hR.cell (p:=⟨lF,_,none⟩) sW.out).trans hO.out.2.1;have ph:lF < aM.heap.size:=Nat.lt_of_lt_of_le sW.out hR.size
 go_wp2_with fail
 refine (Er.out _).mono ?_
 rintro e bB ⟨rfl,bG⟩
 have jz:=ah hR bG;have gl:=ah aN bG;clear g1 ph;have g2:=(jz.cell (p:=⟨lF,_,none⟩) sW.out).trans hO.out.2.2;have ph:lF < bB.heap.size:=Nat.lt_of_lt_of_le sW.out jz.size
 go_wp2_with fail
 refine (aeC.out _).mono ?_
 rintro e ca ⟨rfl,cU⟩
 have gP:=ah jz cU;have jB:=ah gl cU;clear g2 ph;have bF:=(fD.out.below jB fD.out.lt).bM;have JD:=(fD.out.below jB fD.out.lt).lt;have lj:=J (iW.out.later jB)
 go_upto_region 4 with fail
 cases dx
 ·exact QZ
 cases dz
 ·exact QZ
 cases eu
 ·exact QZ
 go_wp2_with fail
 refine (xQ B an ar aj ak aA c0 c1 c2 c3 c4 rs qs af ae sp ws U os ck cl cj iu.out 7 0 0 v1 v2 v3 (⟨#[108,111,115,116]⟩ :ByteArray) _ (by have:=gP.size;omega) lj.out).mono ?_
 rintro e dc ⟨⟨dp,dB,dP,dO,dG,bV,bY,dn,cI,e0,cF,e1,de,e2,df,e3,cJ,e4,nL,rfl,cX,jI⟩,ei⟩
 have mG:=J jI;clear jI;have kY:=ah jB ei;have lW:=ah gP ei;clear bF JD
 go_upto_region 7 with fail
 obtain⟨cA,mO⟩ :∃b,b= dc.heap.size:=⟨_,rfl⟩
 have eL:=aq.new dc 46 #[.slice cI dp e0,.slice cF dB e1,dP,dO,dG,.slice de bV e2,.slice df bY e3,.slice cJ dn e4,ck,cl,cj];have tt:=kY.alloc kY.size (.cells #[.slice cI dp e0,.slice cF dB e1,dP,dO,dG,.slice de bV e2,.slice df bY e3,.slice cJ dn e4,ck,cl,cj] 46)
 have CI:=lW.alloc lW.size (.cells #[.slice cI dp e0,.slice cF dB e1,dP,dO,dG,.slice de bV e2,.slice df bY e3,.slice cJ dn e4,ck,cl,cj] 46);have uj:=mG.out.later (bZ dc (.cells #[.slice cI dp e0,.slice cF dB e1,dP,dO,dG,.slice de bV e2,.slice df bY e3,.slice cJ dn e4,ck,cl,cj] 46))
 rw [← mO] at eL
 generalize dc.alloc (.cells #[.slice cI dp e0,.slice cF dB e1,dP,dO,dG,.slice de bV e2,.slice df bY e3,.slice cJ dn e4,ck,cl,cj] 46)= gZ at *
 rw [← mO]
 clear mO;have oz:=eL.bM;have pf:=eL.lt;have BQ:=J uj;clear mG eL
 cases hm:gF ⟨rs,qs,af,ae,sp,ws,U,os⟩ ⟨7,0,0,v1,v2,v3⟩ with
 | none=>
  have e:=cX.out
  rw [oy,hm] at e
  have Sk:Hid (Bx ⟨rs,qs,af,ae,sp,ws,U,os⟩ x y z= (⟨dp,dB,dP,dO,dG,bV,bY,dn⟩,(⟨#[63]⟩ :ByteArray))):=J (LP.out.trans ((SH hm).trans (by injection e with e1 e2;rw [e1])))
  obtain rfl:(⟨#[63]⟩ :ByteArray)= nL:=(Prod.mk.inj e).2
  clear e hm uj
  have aZ:((⟨#[63]⟩ :ByteArray).toList == [108,111,115,116])= false:=by decide +kernel
  have cD:=eo.out.below tt eo.out.lt;have dr:=J cD;have al:=cD.bM;have eK:=cD.hh;have hs:=cD.lt;clear cD
  go_wp2
  clear al eK hs oz pf aZ
  refine hX 0 fun cS aC=>?_
  have bQ:=aC.hV dr.out;have fH:=(BQ.out).gY dr.out aC.gi;have ez:=aC.aE CI;clear aC
  obtain⟨z0,bw,z2,z3,z4,z5,cy,dh,dm,z9,dk⟩:=bQ.bM
  refine bodyPost_ret (v:= .tuple #[.agg #[.slice cI dp e0,.slice cF dB e1,dP,dO,dG,.slice de bV e2,.slice df bY e3,.slice cJ dn e4,ck,cl,cj],.string (⟨#[63]⟩ :ByteArray)]) (by simp [results,Tryz.results112,go_sem,z0,bw,z2,z3,z4,z5,cy,dh,dm,z9,dk]) rfl ?_
  exact abz
 | some k=>
  have e:=cX.out
  rw [oy,hm] at e
  obtain rfl:(⟨#[108,111,115,116]⟩ :ByteArray)= nL:=(Prod.mk.inj e).2
  have az:=(Prod.mk.inj e).1
  rw [az] at hm
  have wj:0 < dn.length:=XI hm rfl
  have tA:dn.length≤1048576:=by have:=(tE (JZ iu.out hm)).2.2.2.2;simp only at this;omega
  have RE:=J (LP.out.trans (afh hm))
  obtain⟨j,bH⟩ :∃j,j + 1= dn.length:=⟨dn.length - 1,by omega⟩
  obtain⟨kW,off,o,rfl,dU,cY,Vf⟩:=uj.rd.nJ.at_ (Below.refl _ _) (k:=j) (by omega)
  have xE:Hd ⟨dp,dB,dP,dO,dG,bV,bY,dn⟩ =o.hB:=by simp only [Hd,← bH,Nat.add_sub_cancel,cY]
  have u2:=Vf 2 _ rfl (ax.self _)
  simp only [ax.self] at u2
  obtain⟨tI,lb⟩ :∃b,o.hB= b:=⟨_,rfl⟩
  rw [lb] at u2 xE
  rw [xE] at RE
  have CY:((dn.length:Int) - 1)= (j:Int):=by omega
  have ie:j < dn.length:=by omega
  have aZ:((⟨#[108,111,115,116]⟩ :ByteArray).toList == [108,111,115,116])= true:=by decide +kernel
  clear e hm uj az wj bH cY Vf xE lb
  cases tI
  ·skip
   have cD:=eo.out.below tt eo.out.lt;have dr:=J cD;have al:=cD.bM;have eK:=cD.hh;have hs:=cD.lt;clear cD
   go_wp2
   clear al eK hs oz pf aZ u2 CY ie tA
   refine hX 0 fun cS aC=>?_
   have bQ:=aC.hV dr.out;have fH:=(BQ.out).gY dr.out aC.gi;have ez:=aC.aE CI;clear aC
   obtain⟨z0,bw,z2,z3,z4,z5,cy,dh,dm,z9,dk⟩:=bQ.bM
   refine bodyPost_ret (v:= .tuple #[.agg #[.slice cI dp e0,.slice cF dB e1,dP,dO,dG,.slice de bV e2,.slice df bY e3,.slice (some ⟨kW,off,none⟩) dn e4,ck,cl,cj],.string (⟨#[108,111,115,116]⟩ :ByteArray)]) (by simp [results,Tryz.results112,go_sem,z0,bw,z2,z3,z4,z5,cy,dh,dm,z9,dk]) rfl ?_
   exact abh
  ·skip
   have cD:=eo.out.below tt eo.out.lt;have dr:=J cD;have al:=cD.bM;have eK:=cD.hh;have hs:=cD.lt;clear cD
   go_wp2
   clear al eK hs oz pf aZ u2 CY ie tA
   refine hX 0 fun cS aC=>?_
   have bQ:=aC.hV dr.out;have fH:=(BQ.out).gY dr.out aC.gi;have ez:=aC.aE CI;clear aC
   obtain⟨z0,bw,z2,z3,z4,z5,cy,dh,dm,z9,dk⟩:=bQ.bM
   refine bodyPost_ret (v:= .tuple #[.agg #[.slice cI dp e0,.slice cF dB e1,dP,dO,dG,.slice de bV e2,.slice df bY e3,.slice (some ⟨kW,off,none⟩) dn e4,ck,cl,cj],.string (⟨#[97,100,111,112,116,101,100]⟩ :ByteArray)]) (by simp [results,Tryz.results112,go_sem,z0,bw,z2,z3,z4,z5,cy,dh,dm,z9,dk]) rfl ?_
   exact abh
open Go.RowKit Go.G9
def tU (m:cz):Nat→cz×ByteArray
 | 0=>sl m ⟨4,0,0,0,0,0⟩
 | 1=>oy m ⟨6,0,0,0,0,0⟩ (⟨#[111,107]⟩ :ByteArray)
 | 2=>oy m ⟨9,0,0,0,0,0⟩ (⟨#[111,107]⟩ :ByteArray)
 | 3=>(m,lu (m.bD.map (lx m.br)))
 | 4=>(m,lu ((hz m.br m.bD).map (lL m.br)))
 | 5=>(m,pk (kM m.gD))
 | 6=>(m,pk (ko m.bt m.bt.length))
 | _=>(m,(⟨#[63]⟩ :ByteArray))
theorem aai (m:cz) (i:Nat) (h0:i≠0) (h1:i≠1) (h2:i≠2) (h3:i≠3) (h4:i≠4) (h5:i≠5) (h6:i≠6):tU m i= (m,(⟨#[63]⟩ :ByteArray)):=by
 unfold tU
 split <;> first | rfl | (exfalso;omega)
theorem afg {m n:cz} (h:gF m ⟨4,0,0,0,0,0⟩ =some n):sl m ⟨4,0,0,0,0,0⟩ =(n,eQ n.dH):=by
 rw [sl,h]
 show (n,pR n 4)= _
 rw [pR,if_pos rfl]
theorem aaX {p:Prop} (h:p:=by
 rintro e aM ⟨⟨dp,dB,dP,dO,dG,bV,bY,dn,cI,e0,cF,e1,de,e2,df,e3,cJ,e4,y,rfl,cX,jI⟩,aN⟩
 have mG:=J jI;clear jI;have hR:=ah yx aN;have cD:=eo.out.below aN eo.out.lt;have dr:=J cD;have al:=cD.bM;have eK:=cD.hh;have hs:=cD.lt;clear cD
 go_wp2
 clear al eK hs
 refine hX 0 fun cS aC=>?_
 have bQ:=aC.hV dr.out;have fH:=(mG.out).gY dr.out aC.gi;have ez:=aC.aE hR;clear aC
 obtain⟨z0,bw,z2,z3,z4,z5,cy,dh,dm,z9,dk⟩:=bQ.bM
 refine bodyPost_ret (v:= .tuple #[.agg #[.slice cI dp e0,.slice cF dB e1,dP,dO,dG,.slice de bV e2,.slice df bY e3,.slice cJ dn e4,ck,cl,cj],y]) (by simp [results,Tryz.results110,go_sem,z0,bw,z2,z3,z4,z5,cy,dh,dm,z9,dk]) rfl ?_
 exact⟨⟨dp,dB,dP,dO,dG,bV,bY,dn,cI,e0,cF,e1,de,e2,df,e3,cJ,e4,_,rfl,J (cX.out),fH⟩,ez⟩):p:=h
theorem amu (B:Nat) (an ar aj ak aA:Option Addr) (c0 c1 c2 c3 c4:Nat) (rs:List aJ) (qs:List aL) (af ae sp:Int) (ws:List Int) (U:List aI) (os:List Out) (ck cl:ByteArray) (cj:Int) (h:gM ⟨rs,qs,af,ae,sp,ws,U,os⟩) (s:ByteArray) (w:World) (oi:B≤w.heap.size) (bP:gA B w an c0 ar c1 aj c2 ak c3 aA c4 rs qs ws U os):
 Calls Tryz.prog 110 #[.agg #[.slice an rs c0,.slice ar qs c1,af,ae,sp,.slice aj ws c2,.slice ak U c3,.slice aA os c4,ck,cl,cj],s] w fun e ag=>Ck B ck cl cj (tU ⟨rs,qs,af,ae,sp,ws,U,os⟩ (eF s)) e ag∧Below w w ag:=by
 have cB:=Ct s
 generalize eF s= i at *
 obtain⟨f0,f1,f2,f3,f4,f5,f6,-,-,-,-,-,-,-,-⟩:=cB
 have Z:=Hh bP h;have aS:=tE h
 simp only at aS
 obtain⟨Oe,wi,Gt,Gu,Gv⟩:=aS
 have LG:=J (fun W (h1:aH 7 aJ.cells W an rs) (h2:aH 3 aL.cells W ar qs)=>apY an c0 rs Z.h0 ar c1 qs Z.h1 h.hq W h1 h2);have aeo:=J (fun W (h1:aH 7 aJ.cells W an rs) (h2:aH 3 aL.cells W ar qs)=>apI an c0 ar c1 aj c2 ak c3 aA c4 rs qs af ae sp ws U os (by omega) Z.h1 h.hq W h1 h2);have qB:=J (fun W (h1:aH 1 bR W aj ws) (h2:aH 3 aI.cells W ak U)=>aqb af ae sp aj c2 ws ak c3 U Z.h2 Z.h3 Z.n2 Z.n3 Z.cp h.gD W h1 h2)
 have lZ:=Dv.2 h;have zR:=J (fun W (du:ea W an ar aj ak aA rs qs ws U os)=>aph ⟨rs,qs,af,ae,sp,ws,U,os⟩ an ar aj ak aA c0 c1 c2 c3 c4 Z.h0 Z.h1 Z.h2 Z.h3 Z.h4 W du.fF du.dJ du.r2 du.hr du.nJ Z.dY Z.eB Z.cp Z.ed Z.hp)
 rw [lZ,show pa ⟨rs,qs,af,ae,sp,ws,U,os⟩ =ko os os.length by rw [pa,if_pos lZ]] at zR
 have qj:(qs.map (lx rs)).length≤1000:=by rw [List.length_map];omega
 have LL:=J (show∀x ∈ qs.map (lx rs),x.size≤1000 from fun x ay=>by obtain⟨q,_,rfl⟩:=List.mem_map.1 ay;have:=Kh (nr h.hq).1 q.fW;unfold lx;simp only at this;omega);have jE:=Po (rs:=rs) (qs:=qs)
 have Gx:((hz rs qs).map (lL rs)).length≤1000:=by rw [List.length_map];omega
 have aeK:=J (show∀x ∈ (hz rs qs).map (lL rs),x.size≤1000 from fun x ay=>by obtain⟨q,_,rfl⟩:=List.mem_map.1 ay;have:=Kh (nr h.hq).1 q;simp only at this;omega);have Ir:=J (ZD h);have zn:=DO (cz.gD ⟨rs,qs,af,ae,sp,ws,U,os⟩);have Se:=J (SM h);have NI:=Ak os os.length;have aeN:Hid (tU ⟨rs,qs,af,ae,sp,ws,U,os⟩ 3= (⟨rs,qs,af,ae,sp,ws,U,os⟩,lu (qs.map (lx rs)))):=J rfl
 have LR:Hid (tU ⟨rs,qs,af,ae,sp,ws,U,os⟩ 4= (⟨rs,qs,af,ae,sp,ws,U,os⟩,lu ((hz rs qs).map (lL rs)))):=J rfl;have aeO:Hid (tU ⟨rs,qs,af,ae,sp,ws,U,os⟩ 5= (⟨rs,qs,af,ae,sp,ws,U,os⟩,pk (kM ⟨af,ae,sp,ws,U⟩))):=J rfl;have Iu:Hid (tU ⟨rs,qs,af,ae,sp,ws,U,os⟩ 6= (⟨rs,qs,af,ae,sp,ws,U,os⟩,pk (ko os os.length))):=J rfl
 simp only [cz.gD] at Ir zn
 simp only at Se zR
 generalize qs.map (lx rs)= HT at *
 generalize (hz rs qs).map (lL rs)= KS at *
 generalize kM ⟨af,ae,sp,ws,U⟩ =QF at *
 generalize ko os os.length= QG at *
 have ajA:QF.length≤100:=by omega
 have VT:QG.length≤100:=by omega
 have iu:=J h;have dq:=J bP;clear h bP Z lZ jE zn NI Oe wi Gt Gu Gv
 go_in
 go_upto_region 1 with fail
 refine fm fun aF au aQ ad=>?_
 have I:=au;have bF:=aQ.bM;obtain⟨z0,bw,z2,z3,z4,z5,cy,dh,dm,z9,dk⟩:=ad.bM;have LW:=J ad;have LS:=J aQ;have qp:=aQ.lt
 have sG:=ad.lt;have Sb:=J (dq.out.later I);clear z0 bw z2 z3 z4 z5 cy dh dm z9 dk ad aQ dq
 go_upto_region 2 with fail
 obtain⟨sJ,lZ⟩ :∃b,b= aF.heap.size:=⟨_,rfl⟩
 have aW:=aq.new aF 44 #[.slice an rs c0,.slice ar qs c1,af,ae,sp,.slice aj ws c2,.slice ak U c3,.slice aA os c4];have bz:Below aF aF (aF.alloc (.cells #[.slice an rs c0,.slice ar qs c1,af,ae,sp,.slice aj ws c2,.slice ak U c3,.slice aA os c4] 44)):=bZ _ _
 rw [← lZ] at aW
 generalize aF.alloc (.cells #[.slice an rs c0,.slice ar qs c1,af,ae,sp,.slice aj ws c2,.slice ak U c3,.slice aA os c4] 44)= bd at *
 rw [← lZ]
 have sE:sJ≠w.heap.size + 1:=by omega
 clear lZ bF qp sG;have yx:=ah I bz;have fD:=J (LS.out.below bz LS.out.lt);have eo:=J (LW.out.below bz LW.out.lt);have iW:=J (Sb.out.later bz);have sf:=J aW
 have vZ:B≤bd.heap.size:=by have:=yx.size;omega
 have qp:=fD.out.lt;have jE:=sf.out.lt;have bF:=fD.out.bM;have hN:=sf.out.aG;clear LS LW Sb aW bz
 by_cases h0:i= 0
 ·subst h0
  simp only [Nat.reduceBEq] at f0 f1 f2 f3 f4 f5 f6
  clear hN jE
  go_wp2_with fail
  refine (xQ B an ar aj ak aA c0 c1 c2 c3 c4 rs qs af ae sp ws U os ck cl cj iu.out 4 0 0 0 0 0 (⟨#[111,107]⟩ :ByteArray) _ vZ iW.out).mono ?_
  rintro e dc ⟨⟨dp,dB,dP,dO,dG,bV,bY,dn,cI,e0,cF,e1,de,e2,df,e3,cJ,e4,nL,rfl,cX,jI⟩,kY⟩
  have mG:=J jI;clear jI;have lW:=ah yx kY;clear bF qp
  go_upto_region 5 with fail
  obtain⟨cA,mO⟩ :∃b,b= dc.heap.size:=⟨_,rfl⟩
  have eL:=aq.new dc 46 #[.slice cI dp e0,.slice cF dB e1,dP,dO,dG,.slice de bV e2,.slice df bY e3,.slice cJ dn e4,ck,cl,cj];have tt:=kY.alloc kY.size (.cells #[.slice cI dp e0,.slice cF dB e1,dP,dO,dG,.slice de bV e2,.slice df bY e3,.slice cJ dn e4,ck,cl,cj] 46)
  have CI:=lW.alloc lW.size (.cells #[.slice cI dp e0,.slice cF dB e1,dP,dO,dG,.slice de bV e2,.slice df bY e3,.slice cJ dn e4,ck,cl,cj] 46);have uj:=mG.out.later (bZ dc (.cells #[.slice cI dp e0,.slice cF dB e1,dP,dO,dG,.slice de bV e2,.slice df bY e3,.slice cJ dn e4,ck,cl,cj] 46))
  rw [← mO] at eL
  generalize dc.alloc (.cells #[.slice cI dp e0,.slice cF dB e1,dP,dO,dG,.slice de bV e2,.slice df bY e3,.slice cJ dn e4,ck,cl,cj] 46)= gZ at *
  rw [← mO]
  clear mO;have oz:=eL.bM;have pf:=eL.lt;have BQ:=J uj;have yA:=J eL;clear mG eL uj
  cases hm:gF ⟨rs,qs,af,ae,sp,ws,U,os⟩ ⟨4,0,0,0,0,0⟩ with
  | none=>
   have e:=cX.out
   rw [oy,hm] at e
   have Sk:Hid (tU ⟨rs,qs,af,ae,sp,ws,U,os⟩ 0= (⟨dp,dB,dP,dO,dG,bV,bY,dn⟩,(⟨#[63]⟩ :ByteArray))):=J ((SH hm).trans (by injection e with e1 e2;rw [e1]))
   obtain rfl:(⟨#[63]⟩ :ByteArray)= nL:=(Prod.mk.inj e).2
   clear e hm
   have aZ:((⟨#[63]⟩ :ByteArray).toList == [111,107])= false:=by decide +kernel
   have cD:=eo.out.below tt eo.out.lt;have dr:=J cD;have al:=cD.bM;have eK:=cD.hh;have hs:=cD.lt;clear cD
   go_wp2
   clear al eK hs oz pf aZ
   refine hX 0 fun cS aC=>?_
   have bQ:=aC.hV dr.out;have fH:=(BQ.out).gY dr.out aC.gi;have ez:=aC.aE CI;clear aC
   obtain⟨z0,bw,z2,z3,z4,z5,cy,dh,dm,z9,dk⟩:=bQ.bM
   refine bodyPost_ret (v:= .tuple #[.agg #[.slice cI dp e0,.slice cF dB e1,dP,dO,dG,.slice de bV e2,.slice df bY e3,.slice cJ dn e4,ck,cl,cj],.string (⟨#[63]⟩ :ByteArray)]) (by simp [results,Tryz.results110,go_sem,z0,bw,z2,z3,z4,z5,cy,dh,dm,z9,dk]) rfl ?_
   exact abz
  | some k=>
   have e:=cX.out
   rw [oy,hm] at e
   obtain rfl:(⟨#[111,107]⟩ :ByteArray)= nL:=(Prod.mk.inj e).2
   have az:=(Prod.mk.inj e).1
   rw [az] at hm
   have ou:-999999≤dG∧dG≤999999:=XJ iu.out hm;have adQ:Hid (tU ⟨rs,qs,af,ae,sp,ws,U,os⟩ 0= (⟨dp,dB,dP,dO,dG,bV,bY,dn⟩,eQ dG)):=J (afg hm)
   have aZ:((⟨#[111,107]⟩ :ByteArray).toList == [111,107])= true:=by decide +kernel
   clear e hm az
   go_wp2_with fail
   refine (rl dG (by omega) (by omega) _).mono ?_
   rintro e zG ⟨rfl,uL⟩
   have NB:=ah tt uL;have Ar:=ah CI uL;clear oz pf;have oz:=(yA.out.below uL yA.out.lt).bM;have pf:=(yA.out.below uL yA.out.lt).lt;have cD:=eo.out.below NB eo.out.lt;have dr:=J cD;have al:=cD.bM;have eK:=cD.hh;have hs:=cD.lt;clear cD
   go_wp2
   clear al eK hs oz pf aZ
   refine hX 0 fun cS aC=>?_
   have bQ:=aC.hV dr.out;have fH:=(BQ.out.later uL).gY dr.out aC.gi;have ez:=aC.aE Ar;clear aC
   obtain⟨z0,bw,z2,z3,z4,z5,cy,dh,dm,z9,dk⟩:=bQ.bM
   refine bodyPost_ret (v:= .tuple #[.agg #[.slice cI dp e0,.slice cF dB e1,dP,dO,dG,.slice de bV e2,.slice df bY e3,.slice cJ dn e4,ck,cl,cj],.string (eQ dG)]) (by simp [results,Tryz.results110,go_sem,z0,bw,z2,z3,z4,z5,cy,dh,dm,z9,dk]) rfl ?_
   exact⟨⟨dp,dB,dP,dO,dG,bV,bY,dn,cI,e0,cF,e1,de,e2,df,e3,cJ,e4,_,rfl,J (adQ.out),fH⟩,ez⟩
 by_cases h1:i= 1
 ·subst h1
  simp only [Nat.reduceBEq] at f0 f1 f2 f3 f4 f5 f6
  clear hN jE
  go_wp2_with fail
  refine (xQ B an ar aj ak aA c0 c1 c2 c3 c4 rs qs af ae sp ws U os ck cl cj iu.out 6 0 0 0 0 0 (⟨#[111,107]⟩ :ByteArray) _ vZ iW.out).mono ?_
  exact aaX
 by_cases h2:i= 2
 ·subst h2
  simp only [Nat.reduceBEq] at f0 f1 f2 f3 f4 f5 f6
  clear hN jE
  go_wp2_with fail
  refine (xQ B an ar aj ak aA c0 c1 c2 c3 c4 rs qs af ae sp ws U os ck cl cj iu.out 9 0 0 0 0 0 (⟨#[111,107]⟩ :ByteArray) _ vZ iW.out).mono ?_
  exact aaX
 by_cases h3:i= 3
 ·subst h3
  simp only [Nat.reduceBEq] at f0 f1 f2 f3 f4 f5 f6
  go_wp2_with fail
  refine (LG.out _ iW.out.rd.fF iW.out.rd.dJ).mono ?_
  rintro e aM ⟨D,d,rfl,gN,aN⟩
  have hR:=ah yx aN;have hx:=J (iW.out.later aN);have kC:=J gN;clear gN hN jE
  go_upto_region 14 with fail
  have ix:=fD.out.below aN fD.out.lt
  obtain⟨eX,gV⟩ :∃X:World→Prop,∀V,X V↔aq V (w.heap.size) 46 #[.slice an rs c0,.slice ar qs c1,af,ae,sp,.slice aj ws c2,.slice ak U c3,.slice aA os c4,ck,cl,cj]:=⟨_,fun _=>Iff.rfl⟩
  have di:=J gV;clear gV
  haveI:Nonempty (cN eX):=⟨⟨aM,(di.out _).2 ix⟩⟩
  refine oU eX [([0,1],2),([],3)] [4] (by kernel_rfl) (by kernel_rfl) ((di.out _).2 ix) ?_
  clear bF;have bF:=aq.sr (fun K:cN eX=>(di.out _).1 K.holds);have hl:Below w w aM.drew:=ah hR (Below.refl _ _).drew;have om:aq aM.drew (w.heap.size) 46 #[.slice an rs c0,.slice ar qs c1,af,ae,sp,.slice aj ws c2,.slice ak U c3,.slice aA os c4,ck,cl,cj]:=ix;have pE:=eo.out.below aN eo.out.lt
  have mm:Hid (aq aM.drew (w.heap.size + 1) 46 #[.slice none 0 0,.slice none 0 0,(0:Int),(0:Int),(0:Int),.slice none 0 0,.slice none 0 0,.slice none 0 0,.string ⟨#[]⟩,.string ⟨#[]⟩,(0:Int)]):=J pE;have oL:=J (hx.out.later (Below.refl _ _).drew);clear ix pE;have Ei:=J (kC.out.later (Below.refl _ _).drew)
  generalize aM.drew= wd at *
  refine ha fun gz dZ=>?_
  change wpQuiet _ _ _ _ (_ ::_ ::[]) _
  repeat (go_big_quiet_step (fail))
  refine wpQuiet_nil ?_
  change wpList _ _ _ (_ ::[]) _ _
  go_wp2_with fail
  refine (Pg D d HT qj LL.out _ (Ei.out.dE (hf:=kD))).mono ?_
  rintro e bB ⟨rfl,bG⟩
  have jz:=ah hl bG;have gl:=om.to bG
  go_wp2
  refine hn ((di.out _).2 gl) (dZ _ _ ?_)
  refine ha fun gz dZ=>?_
  change wpQuiet _ _ _ _ ([]) _
  refine wpQuiet_nil ?_
  change wpList _ _ _ (_ ::[]) _ _
  have dr:=J (mm.out.below bG mm.out.lt);have al:=dr.out.bM;have eK:=dr.out.hh;have hs:=dr.out.lt
  go_wp2
  clear al eK hs
  refine hX 0 fun cS aC=>?_
  have er:=aC.dM (gl);have bQ:=aC.hV dr.out;have fH:=(oL.out.later bG).gY dr.out aC.gi;have ez:=aC.aE jz;clear aC
  refine hn ((di.out _).2 er) (dZ _ _ ?_)
  refine mA ?_
  change wpQuiet _ _ _ _ (_ ::[]) _
  repeat (go_big_quiet_step (fail))
  refine wpQuiet_nil ?_
  clear bF
  go_wp2
  obtain⟨z0,bw,z2,z3,z4,z5,cy,dh,dm,z9,dk⟩:=bQ.bM
  refine bodyPost_ret (v:= .tuple #[.agg #[.slice an rs c0,.slice ar qs c1,af,ae,sp,.slice aj ws c2,.slice ak U c3,.slice aA os c4,ck,cl,cj],.string (lu HT)]) (by simp [results,Tryz.results110,go_sem,z0,bw,z2,z3,z4,z5,cy,dh,dm,z9,dk]) rfl ?_
  exact⟨⟨rs,qs,af,ae,sp,ws,U,os,an,c0,ar,c1,aj,c2,ak,c3,aA,c4,_,rfl,J (aeN.out),fH⟩,ez⟩
 by_cases h4:i= 4
 ·subst h4
  simp only [Nat.reduceBEq] at f0 f1 f2 f3 f4 f5 f6
  clear hN jE
  go_upto_region 16 with fail
  have ix:=And.intro sf.out fD.out
  obtain⟨eX,gV⟩ :∃X:World→Prop,∀V,X V↔aq V sJ 44 #[.slice an rs c0,.slice ar qs c1,af,ae,sp,.slice aj ws c2,.slice ak U c3,.slice aA os c4]∧aq V (w.heap.size) 46 #[.slice an rs c0,.slice ar qs c1,af,ae,sp,.slice aj ws c2,.slice ak U c3,.slice aA os c4,ck,cl,cj]:=⟨_,fun _=>Iff.rfl⟩
  have di:=J gV;clear gV
  haveI:Nonempty (cN eX):=⟨⟨bd,(di.out _).2 ix⟩⟩
  refine oU eX [([0,1],2),([],3),([],4)] [5] (by kernel_rfl) (by kernel_rfl) ((di.out _).2 ix) ?_
  clear bF;have bF:=aq.sr (fun K:cN eX=>((di.out _).1 K.holds).2)
  obtain⟨m0,m1,m2,m3,m4,m5,m6,m7⟩:=aq.qd (fun K:cN eX=>((di.out _).1 K.holds).1)
  have hl:Below w w bd.drew:=ah yx (Below.refl _ _).drew;have aii:aq bd.drew sJ 44 #[.slice an rs c0,.slice ar qs c1,af,ae,sp,.slice aj ws c2,.slice ak U c3,.slice aA os c4]:=ix.1;have om:aq bd.drew (w.heap.size) 46 #[.slice an rs c0,.slice ar qs c1,af,ae,sp,.slice aj ws c2,.slice ak U c3,.slice aA os c4,ck,cl,cj]:=ix.2
  have pE:=eo.out;have mm:Hid (aq bd.drew (w.heap.size + 1) 46 #[.slice none 0 0,.slice none 0 0,(0:Int),(0:Int),(0:Int),.slice none 0 0,.slice none 0 0,.slice none 0 0,.string ⟨#[]⟩,.string ⟨#[]⟩,(0:Int)]):=J pE;have oL:=J (iW.out.later (Below.refl _ _).drew);clear ix pE qp
  generalize bd.drew= wd at *
  refine ha fun gz dZ=>?_
  change wpQuiet _ _ _ _ (_ ::_ ::[]) _
  repeat (go_big_quiet_step (fail))
  refine wpQuiet_nil ?_
  change wpList _ _ _ (_ ::[]) _ _
  go_wp2_with fail
  refine (aeo.out _ oL.out.rd.fF oL.out.rd.dJ).mono ?_
  rintro e aM ⟨D,d,rfl,gN,aN⟩
  have hR:=ah hl aN;have jA:=om.to aN;have UE:=aii.to aN;have kC:=J gN;clear gN
  go_wp2
  refine hn ((di.out _).2 ⟨UE,jA⟩) (dZ _ _ ?_)
  refine ha fun gz dZ=>?_
  change wpQuiet _ _ _ _ ([]) _
  refine wpQuiet_nil ?_
  change wpList _ _ _ (_ ::[]) _ _
  go_wp2_with fail
  refine (Pg D d KS Gx aeK.out _ (kC.out.dE (hf:=kD))).mono ?_
  rintro e bB ⟨rfl,bG⟩
  have jz:=ah hR bG;have gl:=jA.to bG;have UF:=UE.to bG;have Va:=ah aN bG
  go_wp2
  refine hn ((di.out _).2 ⟨UF,gl⟩) (dZ _ _ ?_)
  refine ha fun gz dZ=>?_
  change wpQuiet _ _ _ _ ([]) _
  refine wpQuiet_nil ?_
  change wpList _ _ _ (_ ::[]) _ _
  have dr:=J (mm.out.below Va mm.out.lt);have al:=dr.out.bM;have eK:=dr.out.hh;have hs:=dr.out.lt
  go_wp2
  clear al eK hs
  refine hX 0 fun cS aC=>?_
  have aih:=aC.dM UF sE;have er:=aC.dM (gl);have bQ:=aC.hV dr.out;have fH:=(oL.out.later Va).gY dr.out aC.gi;have ez:=aC.aE jz;clear aC
  refine hn ((di.out _).2 ⟨aih,er⟩) (dZ _ _ ?_)
  refine mA ?_
  change wpQuiet _ _ _ _ (_ ::[]) _
  repeat (go_big_quiet_step (fail))
  refine wpQuiet_nil ?_
  clear bF m0 m1 m2 m3 m4 m5 m6 m7
  go_wp2
  obtain⟨z0,bw,z2,z3,z4,z5,cy,dh,dm,z9,dk⟩:=bQ.bM
  refine bodyPost_ret (v:= .tuple #[.agg #[.slice an rs c0,.slice ar qs c1,af,ae,sp,.slice aj ws c2,.slice ak U c3,.slice aA os c4,ck,cl,cj],.string (lu KS)]) (by simp [results,Tryz.results110,go_sem,z0,bw,z2,z3,z4,z5,cy,dh,dm,z9,dk]) rfl ?_
  exact⟨⟨rs,qs,af,ae,sp,ws,U,os,an,c0,ar,c1,aj,c2,ak,c3,aA,c4,_,rfl,J (LR.out),fH⟩,ez⟩
 by_cases h5:i= 5
 ·subst h5
  simp only [Nat.reduceBEq] at f0 f1 f2 f3 f4 f5 f6
  go_wp2_with fail
  refine (qB.out _ iW.out.rd.r2 iW.out.rd.hr).mono ?_
  rintro e aM ⟨D,d,rfl,gN,aN⟩
  have hR:=ah yx aN;have hx:=J (iW.out.later aN);have kC:=J gN;clear gN hN jE
  go_upto_region 19 with fail
  have ix:=fD.out.below aN fD.out.lt
  obtain⟨eX,gV⟩ :∃X:World→Prop,∀V,X V↔aq V (w.heap.size) 46 #[.slice an rs c0,.slice ar qs c1,af,ae,sp,.slice aj ws c2,.slice ak U c3,.slice aA os c4,ck,cl,cj]:=⟨_,fun _=>Iff.rfl⟩
  have di:=J gV;clear gV
  haveI:Nonempty (cN eX):=⟨⟨aM,(di.out _).2 ix⟩⟩
  refine oU eX [([0,1],2),([],3)] [4] (by kernel_rfl) (by kernel_rfl) ((di.out _).2 ix) ?_
  clear bF;have bF:=aq.sr (fun K:cN eX=>(di.out _).1 K.holds);have hl:Below w w aM.drew:=ah hR (Below.refl _ _).drew;have om:aq aM.drew (w.heap.size) 46 #[.slice an rs c0,.slice ar qs c1,af,ae,sp,.slice aj ws c2,.slice ak U c3,.slice aA os c4,ck,cl,cj]:=ix;have pE:=eo.out.below aN eo.out.lt
  have mm:Hid (aq aM.drew (w.heap.size + 1) 46 #[.slice none 0 0,.slice none 0 0,(0:Int),(0:Int),(0:Int),.slice none 0 0,.slice none 0 0,.slice none 0 0,.string ⟨#[]⟩,.string ⟨#[]⟩,(0:Int)]):=J pE;have oL:=J (hx.out.later (Below.refl _ _).drew);clear ix pE;have Ei:=J (kC.out.later (Below.refl _ _).drew)
  generalize aM.drew= wd at *
  refine ha fun gz dZ=>?_
  change wpQuiet _ _ _ _ (_ ::_ ::[]) _
  repeat (go_big_quiet_step (fail))
  refine wpQuiet_nil ?_
  change wpList _ _ _ (_ ::[]) _ _
  go_wp2_with fail
  refine (Xe D d QF ajA Ir.out _ (Ei.out.dE (hf:=fZ))).mono ?_
  rintro e bB ⟨rfl,bG⟩
  have jz:=ah hl bG;have gl:=om.to bG
  go_wp2
  refine hn ((di.out _).2 gl) (dZ _ _ ?_)
  refine ha fun gz dZ=>?_
  change wpQuiet _ _ _ _ ([]) _
  refine wpQuiet_nil ?_
  change wpList _ _ _ (_ ::[]) _ _
  have dr:=J (mm.out.below bG mm.out.lt);have al:=dr.out.bM;have eK:=dr.out.hh;have hs:=dr.out.lt
  go_wp2
  clear al eK hs
  refine hX 0 fun cS aC=>?_
  have er:=aC.dM (gl);have bQ:=aC.hV dr.out;have fH:=(oL.out.later bG).gY dr.out aC.gi;have ez:=aC.aE jz;clear aC
  refine hn ((di.out _).2 er) (dZ _ _ ?_)
  refine mA ?_
  change wpQuiet _ _ _ _ (_ ::[]) _
  repeat (go_big_quiet_step (fail))
  refine wpQuiet_nil ?_
  clear bF
  go_wp2
  obtain⟨z0,bw,z2,z3,z4,z5,cy,dh,dm,z9,dk⟩:=bQ.bM
  refine bodyPost_ret (v:= .tuple #[.agg #[.slice an rs c0,.slice ar qs c1,af,ae,sp,.slice aj ws c2,.slice ak U c3,.slice aA os c4,ck,cl,cj],.string (pk QF)]) (by simp [results,Tryz.results110,go_sem,z0,bw,z2,z3,z4,z5,cy,dh,dm,z9,dk]) rfl ?_
  exact⟨⟨rs,qs,af,ae,sp,ws,U,os,an,c0,ar,c1,aj,c2,ak,c3,aA,c4,_,rfl,J (aeO.out),fH⟩,ez⟩
 by_cases h6:i= 6
 ·subst h6
  simp only [Nat.reduceBEq] at f0 f1 f2 f3 f4 f5 f6
  go_wp2_with fail
  refine (zR.out _ iW.out.rd).mono ?_
  rintro e aM ⟨D,d,rfl,gN,aN⟩
  have hR:=ah yx aN;have hx:=J (iW.out.later aN);have kC:=J gN;clear gN hN jE
  go_upto_region 22 with fail
  have ix:=fD.out.below aN fD.out.lt
  obtain⟨eX,gV⟩ :∃X:World→Prop,∀V,X V↔aq V (w.heap.size) 46 #[.slice an rs c0,.slice ar qs c1,af,ae,sp,.slice aj ws c2,.slice ak U c3,.slice aA os c4,ck,cl,cj]:=⟨_,fun _=>Iff.rfl⟩
  have di:=J gV;clear gV
  haveI:Nonempty (cN eX):=⟨⟨aM,(di.out _).2 ix⟩⟩
  refine oU eX [([0,1],2),([],3)] [4] (by kernel_rfl) (by kernel_rfl) ((di.out _).2 ix) ?_
  clear bF;have bF:=aq.sr (fun K:cN eX=>(di.out _).1 K.holds);have hl:Below w w aM.drew:=ah hR (Below.refl _ _).drew;have om:aq aM.drew (w.heap.size) 46 #[.slice an rs c0,.slice ar qs c1,af,ae,sp,.slice aj ws c2,.slice ak U c3,.slice aA os c4,ck,cl,cj]:=ix;have pE:=eo.out.below aN eo.out.lt
  have mm:Hid (aq aM.drew (w.heap.size + 1) 46 #[.slice none 0 0,.slice none 0 0,(0:Int),(0:Int),(0:Int),.slice none 0 0,.slice none 0 0,.slice none 0 0,.string ⟨#[]⟩,.string ⟨#[]⟩,(0:Int)]):=J pE;have oL:=J (hx.out.later (Below.refl _ _).drew);clear ix pE;have Ei:=J (kC.out.later (Below.refl _ _).drew)
  generalize aM.drew= wd at *
  refine ha fun gz dZ=>?_
  change wpQuiet _ _ _ _ (_ ::_ ::[]) _
  repeat (go_big_quiet_step (fail))
  refine wpQuiet_nil ?_
  change wpList _ _ _ (_ ::[]) _ _
  go_wp2_with fail
  refine (Xe D d QG VT Se.out _ (Ei.out.dE (hf:=fZ))).mono ?_
  rintro e bB ⟨rfl,bG⟩
  have jz:=ah hl bG;have gl:=om.to bG
  go_wp2
  refine hn ((di.out _).2 gl) (dZ _ _ ?_)
  refine ha fun gz dZ=>?_
  change wpQuiet _ _ _ _ ([]) _
  refine wpQuiet_nil ?_
  change wpList _ _ _ (_ ::[]) _ _
  have dr:=J (mm.out.below bG mm.out.lt);have al:=dr.out.bM;have eK:=dr.out.hh;have hs:=dr.out.lt
  go_wp2
  clear al eK hs
  refine hX 0 fun cS aC=>?_
  have er:=aC.dM (gl);have bQ:=aC.hV dr.out;have fH:=(oL.out.later bG).gY dr.out aC.gi;have ez:=aC.aE jz;clear aC
  refine hn ((di.out _).2 er) (dZ _ _ ?_)
  refine mA ?_
  change wpQuiet _ _ _ _ (_ ::[]) _
  repeat (go_big_quiet_step (fail))
  refine wpQuiet_nil ?_
  clear bF
  go_wp2
  obtain⟨z0,bw,z2,z3,z4,z5,cy,dh,dm,z9,dk⟩:=bQ.bM
  refine bodyPost_ret (v:= .tuple #[.agg #[.slice an rs c0,.slice ar qs c1,af,ae,sp,.slice aj ws c2,.slice ak U c3,.slice aA os c4,ck,cl,cj],.string (pk QG)]) (by simp [results,Tryz.results110,go_sem,z0,bw,z2,z3,z4,z5,cy,dh,dm,z9,dk]) rfl ?_
  exact⟨⟨rs,qs,af,ae,sp,ws,U,os,an,c0,ar,c1,aj,c2,ak,c3,aA,c4,_,rfl,J (Iu.out),fH⟩,ez⟩
 have Sj:=J (aai ⟨rs,qs,af,ae,sp,ws,U,os⟩ i h0 h1 h2 h3 h4 h5 h6);have f0:=f0.trans (beq_eq_false_iff_ne.2 h0);have f1:=f1.trans (beq_eq_false_iff_ne.2 h1);have f2:=f2.trans (beq_eq_false_iff_ne.2 h2);have f3:=f3.trans (beq_eq_false_iff_ne.2 h3);have f4:=f4.trans (beq_eq_false_iff_ne.2 h4);have f5:=f5.trans (beq_eq_false_iff_ne.2 h5);have f6:=f6.trans (beq_eq_false_iff_ne.2 h6)
 clear hN jE;have cD:=eo.out.below (Below.refl _ _) eo.out.lt;have dr:=J cD;have al:=cD.bM;have eK:=cD.hh;have hs:=cD.lt;clear cD
 go_wp2
 clear al eK hs
 refine hX 0 fun cS aC=>?_
 have bQ:=aC.hV dr.out;have fH:=(iW.out).gY dr.out aC.gi;have ez:=aC.aE yx;clear aC
 obtain⟨z0,bw,z2,z3,z4,z5,cy,dh,dm,z9,dk⟩:=bQ.bM
 refine bodyPost_ret (v:= .tuple #[.agg #[.slice an rs c0,.slice ar qs c1,af,ae,sp,.slice aj ws c2,.slice ak U c3,.slice aA os c4,ck,cl,cj],.string (⟨#[63]⟩ :ByteArray)]) (by simp [results,Tryz.results110,go_sem,z0,bw,z2,z3,z4,z5,cy,dh,dm,z9,dk]) rfl ?_
 exact abD
end Go.Proofs.YtlaaemmmbodaaaaGreatDoor
namespace Go.G9
theorem ZI (c:UInt8):∀{l u:List UInt8},lg c l= [u]→u= l
 | [],u,h=>by simp [lg] at h;exact h
 | x ::l,u,h=>by
  unfold lg at h
  split at h
  ·have h2:=(List.cons.inj h).2
   exact absurd h2 (Qj c l)
  ·split at h
   ·rename_i h0;exact absurd h0 (Qj c l)
   ·rename_i w ws h0
    obtain⟨h1,h2⟩:=List.cons.inj h
    subst h2
    rw [← h1,ZI c h0]
end Go.G9
namespace Go.Proofs.YtlaaemmmbodaaaaGreatDoor
open Go.RowKit Go.G9
theorem aqz {c:UInt8} {s a:ByteArray} (h:jk c s= [a]):a= s:=by
 unfold jk at h
 obtain⟨u,hu⟩ :∃u,lg c s.data.toList= [u]:=by
  match aX:lg c s.data.toList,h with
  | [u],_=>exact⟨u,rfl⟩
 rw [hu] at h
 have h1:=(List.cons.inj h).1
 rw [← h1,ZI c hu,IQ]
theorem II {m:cz} {a:oG} (h4:a.kind≠4) (h7:a.kind≠7):sl m a= oy m a (⟨#[111,107]⟩ :ByteArray):=by
 unfold sl oy
 cases gF m a with
 | none=>rfl
 | some n=>simp only [pR,if_neg h4,if_neg h7]
theorem Ja {m:cz} {w:ByteArray} {r:List ByteArray} (h:∀p,my (eF w)= some p→r.length≠p.size):jy m (w ::r)= (m,(⟨#[63]⟩ :ByteArray)):=by
 cases aO:my (eF w) with
 | none=>exact agW aO
 | some p=>exact agU aO (h p aO)
theorem Kl {i:Nat} {p:ByteArray} (h:my i= some p):(i≤6∧p.size= 0)∨(7≤i∧i≤12∧p.size= 1)∨(i= 13∧p.size= 2)∨(i= 14∧p.size= 3):=by
 unfold my at h
 split at h <;> first | (cases h;done) | (injection h with h;subst h;first | exact Or.inl ⟨by decide,rfl⟩ | exact Or.inr (Or.inl ⟨by decide,by decide,rfl⟩) | exact Or.inr (Or.inr (Or.inl ⟨rfl,rfl⟩)) | exact Or.inr (Or.inr (Or.inr ⟨rfl,rfl⟩)))
theorem KX {p:Prop} (h:p:=by
 rw [TR (p:=⟨#[]⟩) (l:=[]) (by rw [h];rfl) (Kr _) (by rw [h];rfl) rfl,h];rfl):p:=h
theorem agP (m:cz) (w:ByteArray):jy m [w]= tU m (eF w):=by
 have hw:=Fu w
 have no:7≤eF w→jy m [w]= tU m (eF w):=fun h7=>by
  rw [Ja (fun p aO e=>by rcases Kl aO with h | h | h | h <;> simp at e <;> omega),aai] <;> omega
 rcases Kc hw with h | h | h | h | h | h | h | h | h | h | h | h | h | h | h | h
 ·rw [CA (p:=⟨#[]⟩) (l:=[]) (a:=⟨4,0,0,0,0,0⟩) (by rw [h];rfl) (Kr _) (by rw [h];rfl),h];rfl
 ·rw [CA (p:=⟨#[]⟩) (l:=[]) (a:=⟨6,0,0,0,0,0⟩) (by rw [h];rfl) (Kr _) (by rw [h];rfl),h];exact II (by decide) (by decide)
 ·rw [CA (p:=⟨#[]⟩) (l:=[]) (a:=⟨9,0,0,0,0,0⟩) (by rw [h];rfl) (Kr _) (by rw [h];rfl),h];exact II (by decide) (by decide)
 ·exact KX
 ·exact KX
 ·exact KX
 ·exact KX
 all_goals exact no (by omega)
theorem agQ (m:cz) (w x:ByteArray):jy m [w,x]= if fg x then sL m (eF w) (hk x.data.toList) else (m,(⟨#[63]⟩ :ByteArray)):=by
 have hw:=Fu w
 have no:¬(7≤eF w∧eF w≤12)→jy m [w,x]= if fg x then sL m (eF w) (hk x.data.toList) else (m,(⟨#[63]⟩ :ByteArray)):=fun h7=>by
  rw [Ja (fun p aO e=>by rcases Kl aO with h | h | h | h <;> simp at e <;> omega),XW]
  ·simp
  all_goals omega
 have one:=aoh m.br x
 have bad:my (eF w)= some (⟨#[110]⟩ :ByteArray)→fg x= false→jy m [w,x]= if fg x then sL m (eF w) (hk x.data.toList) else (m,(⟨#[63]⟩ :ByteArray)):=fun aO ay=>by
  rw [ay] at one ⊢
  exact Jb aO one
 have act:∀a:Int→oG,my (eF w)= some (⟨#[110]⟩ :ByteArray)→(∀n,sk (eF w) [n]= some (a n))→(∀n,(a n).kind≠4)→(∀n,(a n).kind≠7)→(∀n,sL m (eF w) n= oy m (a n) (⟨#[111,107]⟩ :ByteArray))→jy m [w,x]= if fg x then sL m (eF w) (hk x.data.toList) else (m,(⟨#[63]⟩ :ByteArray)):=fun a aO cT h4 h7 aY=>by
  cases ay:fg x
  ·have:=bad aO ay;rwa [ay] at this
  ·rw [ay] at one
   rw [if_pos rfl,CA aO one (cT _),aY]
   exact II (h4 _) (h7 _)
 have ask:my (eF w)= some (⟨#[110]⟩ :ByteArray)→(∀n,sk (eF w) [n]= none)→(∀n,sL m (eF w) n= (m,(jU m (eF w) [n]).getD (⟨#[63]⟩ :ByteArray)))→jy m [w,x]= if fg x then sL m (eF w) (hk x.data.toList) else (m,(⟨#[63]⟩ :ByteArray)):=fun aO cT aY=>by
  cases ay:fg x
  ·have:=bad aO ay;rwa [ay] at this
  ·rw [ay] at one
   rw [if_pos rfl,TR aO one (cT _) rfl,aY]
 rcases Kc hw with h | h | h | h | h | h | h | h | h | h | h | h | h | h | h | h
 all_goals first
  | exact no (by omega)
  | exact act (fun n=>⟨2,n,0,0,0,0⟩) (by rw [h];rfl) (fun n=>by rw [h];rfl) (fun _=>(by decide:(2:Int)≠4)) (fun _=>(by decide:(2:Int)≠7)) (fun n=>by rw [h];rfl)
  | exact act (fun n=>⟨3,n,0,0,0,0⟩) (by rw [h];rfl) (fun n=>by rw [h];rfl) (fun _=>(by decide:(3:Int)≠4)) (fun _=>(by decide:(3:Int)≠7)) (fun n=>by rw [h];rfl)
  | exact act (fun n=>⟨5,0,n,0,0,0⟩) (by rw [h];rfl) (fun n=>by rw [h];rfl) (fun _=>(by decide:(5:Int)≠4)) (fun _=>(by decide:(5:Int)≠7)) (fun n=>by rw [h];rfl)
  | exact act (fun n=>⟨8,n,0,0,0,0⟩) (by rw [h];rfl) (fun n=>by rw [h];rfl) (fun _=>(by decide:(8:Int)≠4)) (fun _=>(by decide:(8:Int)≠7)) (fun n=>by rw [h];rfl)
  | exact ask (by rw [h];rfl) (fun n=>by rw [h];rfl) (fun n=>by rw [h];rfl)
theorem abM {p:Prop} (h:p:=by
 rw [if_neg h]
 exact Ja (fun p aO e=>by rcases Kl aO with h | h | h | h <;> simp at e <;> omega)):p:=h
theorem agR (m:cz) (w x y:ByteArray):jy m [w,x,y]= if eF w= 13 then Dw m x y else (m,(⟨#[63]⟩ :ByteArray)):=by
 by_cases h:eF w= 13
 ·rw [if_pos h]
  have two:=aoj m.br x y
  unfold Dw
  cases hf:uE m.br x with
  | none=>rw [hf] at two;rw [Jb (p:=(⟨#[114,110]⟩ :ByteArray)) (by rw [h];rfl) two];rfl
  | some r=>
   rw [hf] at two
   cases hy:fg y
   ·rw [hy] at two;rw [Jb (p:=(⟨#[114,110]⟩ :ByteArray)) (by rw [h];rfl) two];rfl
   ·rw [hy] at two
    rw [XO,CA (p:=(⟨#[114,110]⟩ :ByteArray)) (l:=[r.id,hk y.data.toList]) (by rw [h];rfl) two (by rw [h];rfl)]
    exact II (show (1:Int)≠4 by decide) (show (1:Int)≠7 by decide)
 ·exact abM
theorem agS (m:cz) (w x y z:ByteArray):jy m [w,x,y,z]= if eF w= 14 then Bx m x y z else (m,(⟨#[63]⟩ :ByteArray)):=by
 by_cases h:eF w= 14
 ·rw [if_pos h]
  have three:=aoi m.br x y z
  unfold Bx
  cases aw:(fg x && (fg y && fg z))
  ·rw [aw] at three;rw [Jb (p:=(⟨#[110,110,110]⟩ :ByteArray)) (by rw [h];rfl) three];rfl
  ·rw [aw] at three
   exact CA (p:=(⟨#[110,110,110]⟩ :ByteArray)) (l:=[hk x.data.toList,hk y.data.toList,hk z.data.toList]) (by rw [h];rfl) three (by rw [h];rfl)
 ·exact abM
theorem agT (m:cz) (w:ByteArray) (r:List ByteArray) (h:4≤r.length):jy m (w ::r)= (m,(⟨#[63]⟩ :ByteArray)):=Ja (fun p aO e=>by rcases Kl aO with h | h | h | h <;> omega)
theorem ahF {ws:List ByteArray} (h:ws≠[]):(∃a,ws= [a])∨(∃a b,ws= [a,b])∨(∃a b c,ws= [a,b,c])∨(∃a b c d,ws= [a,b,c,d])∨(∃a r,ws= a ::r∧4≤r.length):=
 match ws,h with
 | [a],_=>Or.inl ⟨a,rfl⟩
 | [a,b],_=>Or.inr (Or.inl ⟨a,b,rfl⟩)
 | [a,b,c],_=>Or.inr (Or.inr (Or.inl ⟨a,b,c,rfl⟩))
 | [a,b,c,d],_=>Or.inr (Or.inr (Or.inr (Or.inl ⟨a,b,c,d,rfl⟩)))
 | a ::b ::c ::d ::e ::r,_=>Or.inr (Or.inr (Or.inr (Or.inr ⟨a,b ::c ::d ::e ::r,rfl,by simp⟩)))
end Go.Proofs.YtlaaemmmbodaaaaGreatDoor
