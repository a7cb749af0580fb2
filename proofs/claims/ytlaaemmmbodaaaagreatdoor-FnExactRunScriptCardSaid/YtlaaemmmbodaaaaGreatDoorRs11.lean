/- Parts. -/
import Derived.Test.YtlaaemmmbodaaaaGreatDoorRs10
set_option maxHeartbeats 16000000
set_option maxRecDepth 100000
set_option linter.unnecessarySimpa false
set_option linter.unusedSimpArgs false
set_option linter.unusedVariables false
namespace Go.Proofs.YtlaaemmmbodaaaaGreatDoor
open Go.RowKit Go.G9
theorem KU (x:et) (an ar ak al aA:Option Addr) (c0 au c2 c3 c4:Nat) (h0:x.bx.length≤1048576) (h1:x.bH.length≤1048576) (h2:x.bJ.length≤1048576) (h3:x.bM.length≤1048576) (h4:x.bt.length≤1048576) (asA:x.ef.size + x.eo.size≤1048576) (w:World) (aW:aJ 7 aM.cells w an x.bx) (aV:aJ 3 aN.cells w ar x.bH) (bm:aJ 1 bU w ak x.bJ) (bl:aJ 3 aK.cells w al x.bM) (bZ:aJ 3 Out.cells w aA x.bt):
 Calls Tryz.prog 36 #[.agg #[.slice an x.bx c0,.slice ar x.bH au,x.de,x.cU,x.dH,.slice ak x.bJ c2,.slice al x.bM c3,.slice aA x.bt c4,x.ef,x.eo,x.dR]] w fun e ah=>∃nk ff fw kM nn,e= .returned (.agg #[.slice nk x.bx x.bx,.slice ff x.bH x.bH,x.de,x.cU,x.dH,.slice fw x.bJ x.bJ,.slice kM x.bM x.bM,.slice nn x.bt x.bt,x.ef,x.eo,x.dR])∧aX w 89 7 aM.cells ah (.slice nk x.bx x.bx) x.bx∧aX w 115 3 aN.cells ah (.slice ff x.bH x.bH) x.bH∧aX w 3 1 bU ah (.slice fw x.bJ x.bJ) x.bJ∧aX w 214 3 aK.cells ah (.slice kM x.bM x.bM) x.bM∧aX w 163 3 Out.cells ah (.slice nn x.bt x.bt) x.bt∧rY [.slice nk x.bx x.bx,.slice ff x.bH x.bH,.slice fw x.bJ x.bJ,.slice kM x.bM x.bM,.slice nn x.bt x.bt]∧Below w w ah:=by
 have bL:=J (show dL w an ar ak al aA x.bx x.bH x.bJ x.bM x.bt from⟨aW,aV,bm,bl,bZ⟩);clear aW aV bm bl bZ
 go_in
 go_upto_region 2 with fail
 refine fv fun aH av aO ae bW=>?_
 have I:=av
 obtain⟨a0,a1,a2,a3,a4,a5,a6,a7,a8,a9,a10⟩:=aO.bQ
 obtain⟨z0,ch,z2,z3,z4,z5,fl,iH,iQ,z9,iP⟩:=ae.bQ;obtain⟨g0,g1,g2,g3,g4,g5,g6,g7,g8,g9,g10⟩:=bW.bQ;clear z0 g0 ch g1 z2 g2 z3 g3 z4 g4 z5 g5 fl g6 iH g7 iQ g8 z9 g9 iP g10;have vq:=I.size;have Lc:=aO.lt
 go_wp2_with fail
 refine (arw x an ar ak al aA c0 au c2 c3 c4 h0 h1 h2 h3 h4 _ (bL.out.ft.U I) (bL.out.dz.U I) (bL.out.r2.U I) (bL.out.gG.U I) (bL.out.lF.U I)).mono ?_
 rintro e aQ ⟨nk,ff,fw,kM,nn,rfl,cq,cv,bF,bw,cz,ap,aP⟩
 have ky:Hid (gi w aQ nk x.bx.length ff x.bH.length fw x.bJ.length kM x.bM.length nn x.bt.length x.bx x.bH x.bJ x.bM x.bt):=J ⟨cq.base vq,cv.base vq,bF.base vq,bw.base vq,cz.base vq⟩;clear cq cv bF bw cz a0 a1 a2 a3 a4 a5 a6 a7 a8 a9 a10;have jr:=aO.to aP;have tk:=ae.to aP;have Cq:=bW.to aP;have mS:=ai I aP;have oy:=J ap
 have br:=Cq.bQ;have MO:=Cq.gS;have Ck:=Cq.lt;clear aO ae bW I aP ap
 go_upto_region 3 with fail
 clear br MO Ck
 refine iE 0 fun wX gJ=>?_
 have UH:=gJ.PT Cq;have fQ:=gJ.dJ jr;have Ve:=gJ.dJ tk
 have aeL:=J (ky.out.gw Cq gJ.fG);have BA:=gJ.aG mS;clear gJ jr tk Cq mS;have a':=fQ.bQ;have afD:=fQ.lt
 go_wp2_with fail
 refine (aru x.ef x.eo x.dR _).mono ?_
 rintro e cf ⟨rfl,cZ⟩
 clear a' afD;have Cr:=UH.to cZ;have yS:=Ve.to cZ;have BB:=ai BA cZ;have aeM:=J (aeL.out.bh cZ);have br:=Cr.bQ;have MO:=Cr.gS;have Ck:=Cr.lt;clear fQ UH Ve BA cZ
 go_upto_region 4 with fail
 clear br MO Ck
 refine sP 8 fun ui gf=>?_
 have UI:=gf.PX Cr;have cM:=gf.dJ yS;have aeN:=J (aeM.out.gw Cr gf.fG)
 have wR:=gf.aG BB;clear gf Cr yS BB;have br:=UI.bQ;have Ck:=UI.lt;have aq:=cM.bQ;have eM:=cM.gS;have asj:=cM.lt
 go_wp2
 clear br Ck aq eM asj
 refine hE 0 fun cQ aD=>?_
 have bT:=aD.hV cM;have mY:=aeN.out.gw cM aD.fG;have eE:=aD.aG wR
 clear aD
 have z0:=bT.bQ
 exact hc ⟨nk,ff,fw,kM,nn,rfl,mY.kp,mY.hO,mY.fg,mY.fF,mY.lE,oy.out,eE⟩ (by simp [results,Tryz.results36,go_sem,z0])
open Go.RowKit Go.G9
theorem amK {m n:cF} {l x:ByteArray} {b:Bool} (h:ns m (gO 32 l)= if b= true then some (n,x) else none) (aE:b= false→n= m):qk m l= (n,if b then x else (⟨#[63]⟩ :ByteArray)):=by
 unfold qk jq
 rw [h]
 cases b
 ·rw [aE rfl];rfl
 ·rfl
theorem DL {p:Prop} (h:p:=by
 exact⟨rs,qs,ag,af,sp,ws,ad,os,ct,cu,cr,cl,d0,cN,d1,bk,d2,bo,d3,cn,d4,_,rfl,J (by rw [(cD.out).1,(cD.out).2]),fE,eE⟩):p:=h
theorem abe {p:Prop} (h:p:=by
 by_cases h2:200 < y.size
 ·go_wp2_with fail
  go_meet
  exact⟨_,rfl,J (by rw [oM,if_pos h2]),rfl⟩
 ·go_wp2_with fail
  go_meet
  exact⟨_,rfl,J (by rw [oM,if_neg h2]),rfl⟩):p:=h
theorem akE (an ar ak al aA:Option Addr) (c0 au c2 c3 c4:Nat) (rs:List aM) (qs:List aN) (ag af sp:Int) (ws:List Int) (ad:List aK) (os:List Out) (ct cu:ByteArray) (cr:Int) (Z:ed an ar ak al aA c0 au c2 c3 c4 rs qs ws ad os) (cb:ct.size + cu.size≤1048576) (l:ByteArray) (aT:l.size≤1048576) (w:World) (R:dL w an ar ak al aA rs qs ws ad os) (bP:ov w):
 Calls Tryz.prog 18 #[.agg #[.slice an rs c0,.slice ar qs au,ag,af,sp,.slice ak ws c2,.slice al ad c3,.slice aA os c4,ct,cu,cr],l] w fun e ah=>∃(dn:List aM) (dB:List aN) (dO dN dG:Int) (bX:List Int) (cc:List aK) (dm:List Out) (qF qW:ByteArray) (qA:Int) (cI:Option Addr) (e0:Nat) (cC:Option Addr) (e1:Nat) (cV:Option Addr) (e2:Nat) (cW:Option Addr) (e3:Nat) (cL:Option Addr) (e4:Nat) (y:ByteArray),e= .returned (.tuple #[.agg #[.slice cI dn e0,.slice cC dB e1,dO,dN,dG,.slice cV bX e2,.slice cW cc e3,.slice cL dm e4,qF,qW,qA],.string y])∧Hid ((qa (⟨rs,qs,ag,af,sp,ws,ad,os,ct,cu,cr⟩ :et) l,qB (⟨rs,qs,ag,af,sp,ws,ad,os,ct,cu,cr⟩ :et) l)= ((⟨dn,dB,dO,dN,dG,bX,cc,dm,qF,qW,qA⟩ :et),y))∧gi w ah cI e0 cC e1 cV e2 cW e3 cL e4 dn dB bX cc dm∧Below w w ah:=by
 have cB:=J Z;clear Z;have Es:=bP
 cases aG:hR (⟨rs,qs,ag,af,sp,ws,ad,os,ct,cu,cr⟩ :et)
 ·have bD:=J aG
  have cD:=J (Tu (l:=l) aG);clear aG
  go_in
  go_upto_region 1 with fail
  refine fp fun aH av aO ae=>?_
  replace R:=R.U av;replace bP:=bP.U av;have I:=av
  obtain⟨dj,dY,dV,er,eA,fJ,fK,fL,fM,fN,fI⟩:=aO.bQ
  obtain⟨z0,ch,z2,z3,z4,z5,fl,iH,iQ,z9,iP⟩:=ae.bQ;clear z0 ch z2 z3 z4 z5 fl iH iQ z9 iP
  have ev:=J ae;clear ae Es
  go_wp2_with fail
  refine (AJ (⟨rs,qs,ag,af,sp,ws,ad,os,ct,cu,cr⟩ :et) an ar ak al aA c0 au c2 c3 c4 cB.out.h0 cB.out.h1 cB.out.h2 cB.out.h3 cB.out.h4 cb _ bD.out _ ((R.U aw)).ft ((R.U aw)).dz ((R.U aw)).r2 ((R.U aw)).gG ((R.U aw)).lF cB.out.dP cB.out.eh cB.out.cm cB.out.dS cB.out.gD ((bP.U aw)).t).mono ?_
  rintro e aQ ⟨rfl,aP⟩
  have ao:=be aH aP;replace I:=ai I ao;replace R:=R.U ao;replace aO:=aO.to ao;clear dj dY dV er eA fJ fK fL fM fN fI
  obtain⟨dj,dY,dV,er,eA,fJ,fK,fL,fM,fN,fI⟩:=aO.bQ
  have qS:=I.size;have rA:=ao
  go_wp2_with fail
  refine (Kj an ar ak al aA c0 au c2 c3 c4 rs qs ag af sp ws ad os ct cu cr cB.out aQ R).mono ?_
  rintro e bA ⟨cl,d0,cN,d1,bk,d2,bo,d3,cn,d4,rfl,gQ,bC⟩
  have aL:=be aQ bC;replace I:=ai I aL;replace aO:=aO.to aL;clear dj dY dV er eA fJ fK fL fM fN fI;have ky:=J (gQ.base (B':=w.heap.size) qS);clear gQ;have bT:=ev.out.U (ai rA aL) ev.out.lt;have aq:=bT.bQ;have eM:=bT.gS;have jf:=J bT;clear bT R
  go_wp2
  clear aq eM
  refine hE 0 fun cQ aD=>?_
  have bT:=aD.hV jf.out;have fE:=ky.out.gw jf.out aD.fG;have eE:=aD.aG I;clear aD I
  have z0:=bT.bQ
  refine bodyPost_ret (v:= .tuple #[.agg #[.slice cl rs d0,.slice cN qs d1,ag,af,sp,.slice bk ws d2,.slice bo ad d3,.slice cn os d4,ct,cu,cr],.string (⟨#[110,111]⟩ :ByteArray)]) (by simp [results,Tryz.results18,go_sem,z0]) rfl ?_
  exact DL
 ·have bD:=J aG
  obtain⟨sK,jl⟩ :∃b,lG l ⟨#[]⟩ =b:=⟨_,rfl⟩
  have zZ:=J jl
  cases sK
  ·have cD:=J (Tr aG jl)
   clear aG jl
   go_in
   go_upto_region 1 with fail
   refine fp fun aH av aO ae=>?_
   replace R:=R.U av;replace bP:=bP.U av;have I:=av
   obtain⟨dj,dY,dV,er,eA,fJ,fK,fL,fM,fN,fI⟩:=aO.bQ
   obtain⟨z0,ch,z2,z3,z4,z5,fl,iH,iQ,z9,iP⟩:=ae.bQ;clear z0 ch z2 z3 z4 z5 fl iH iQ z9 iP
   have ev:=J ae;clear ae Es
   go_wp2_with fail
   refine (AJ (⟨rs,qs,ag,af,sp,ws,ad,os,ct,cu,cr⟩ :et) an ar ak al aA c0 au c2 c3 c4 cB.out.h0 cB.out.h1 cB.out.h2 cB.out.h3 cB.out.h4 cb _ bD.out _ ((R.U aw)).ft ((R.U aw)).dz ((R.U aw)).r2 ((R.U aw)).gG ((R.U aw)).lF cB.out.dP cB.out.eh cB.out.cm cB.out.dS cB.out.gD ((bP.U aw)).t).mono ?_
   rintro e aQ ⟨rfl,aP⟩
   have ao:=be aH aP;replace I:=ai I ao;replace R:=R.U ao;replace aO:=aO.to ao;clear dj dY dV er eA fJ fK fL fM fN fI
   obtain⟨dj,dY,dV,er,eA,fJ,fK,fL,fM,fN,fI⟩:=aO.bQ
   have rA:=ao
   go_wp2_with fail
   refine (xO l ⟨#[]⟩ aT (Nat.zero_le _) _ zZ.out _).mono ?_
   rintro e bA ⟨rfl,bC⟩
   have aL:=be aQ bC;replace I:=ai I aL;replace R:=R.U aL;replace aO:=aO.to aL;clear dj dY dV er eA fJ fK fL fM fN fI
   obtain⟨dj,dY,dV,er,eA,fJ,fK,fL,fM,fN,fI⟩:=aO.bQ
   have qS:=I.size;replace rA:=ai rA aL
   go_wp2_with fail
   refine (Kj an ar ak al aA c0 au c2 c3 c4 rs qs ag af sp ws ad os ct cu cr cB.out bA R).mono ?_
   rintro e cf ⟨cl,d0,cN,d1,bk,d2,bo,d3,cn,d4,rfl,gQ,cZ⟩
   have bV:=be bA cZ;replace I:=ai I bV;replace aO:=aO.to bV;clear dj dY dV er eA fJ fK fL fM fN fI;have ky:=J (gQ.base (B':=w.heap.size) qS);clear gQ;have bT:=ev.out.U (ai rA bV) ev.out.lt;have aq:=bT.bQ;have eM:=bT.gS;have jf:=J bT;clear bT R
   go_wp2
   clear aq eM
   refine hE 0 fun cQ aD=>?_
   have bT:=aD.hV jf.out;have fE:=ky.out.gw jf.out aD.fG;have eE:=aD.aG I;clear aD I
   have z0:=bT.bQ
   refine bodyPost_ret (v:= .tuple #[.agg #[.slice cl rs d0,.slice cN qs d1,ag,af,sp,.slice bk ws d2,.slice bo ad d3,.slice cn os d4,ct,cu,cr],.string (⟨#[98,97,100]⟩ :ByteArray)]) (by simp [results,Tryz.results18,go_sem,z0]) rfl ?_
   exact DL
  ·obtain⟨MQ,xw⟩ :∃b,(cr == 60)= b:=⟨_,rfl⟩
   cases MQ
   rotate_left
   ·have cD:=J (Ts aG jl xw)
    clear aG jl
    go_in
    go_upto_region 1 with fail
    refine fp fun aH av aO ae=>?_
    replace R:=R.U av;replace bP:=bP.U av;have I:=av
    obtain⟨dj,dY,dV,er,eA,fJ,fK,fL,fM,fN,fI⟩:=aO.bQ
    obtain⟨z0,ch,z2,z3,z4,z5,fl,iH,iQ,z9,iP⟩:=ae.bQ;clear z0 ch z2 z3 z4 z5 fl iH iQ z9 iP
    have ev:=J ae;clear ae Es
    go_wp2_with fail
    refine (AJ (⟨rs,qs,ag,af,sp,ws,ad,os,ct,cu,cr⟩ :et) an ar ak al aA c0 au c2 c3 c4 cB.out.h0 cB.out.h1 cB.out.h2 cB.out.h3 cB.out.h4 cb _ bD.out _ ((R.U aw)).ft ((R.U aw)).dz ((R.U aw)).r2 ((R.U aw)).gG ((R.U aw)).lF cB.out.dP cB.out.eh cB.out.cm cB.out.dS cB.out.gD ((bP.U aw)).t).mono ?_
    rintro e aQ ⟨rfl,aP⟩
    have ao:=be aH aP;replace I:=ai I ao;replace R:=R.U ao;replace aO:=aO.to ao;clear dj dY dV er eA fJ fK fL fM fN fI
    obtain⟨dj,dY,dV,er,eA,fJ,fK,fL,fM,fN,fI⟩:=aO.bQ
    have rA:=ao
    go_wp2_with fail
    refine (xO l ⟨#[]⟩ aT (Nat.zero_le _) _ zZ.out _).mono ?_
    rintro e bA ⟨rfl,bC⟩
    have aL:=be aQ bC;replace I:=ai I aL;replace R:=R.U aL;replace aO:=aO.to aL;clear dj dY dV er eA fJ fK fL fM fN fI
    obtain⟨dj,dY,dV,er,eA,fJ,fK,fL,fM,fN,fI⟩:=aO.bQ
    have qS:=I.size;replace rA:=ai rA aL
    go_wp2_with fail
    refine (Kj an ar ak al aA c0 au c2 c3 c4 rs qs ag af sp ws ad os ct cu cr cB.out bA R).mono ?_
    rintro e cf ⟨cl,d0,cN,d1,bk,d2,bo,d3,cn,d4,rfl,gQ,cZ⟩
    have bV:=be bA cZ;replace I:=ai I bV;replace aO:=aO.to bV;clear dj dY dV er eA fJ fK fL fM fN fI;have ky:=J (gQ.base (B':=w.heap.size) qS);clear gQ;have bT:=ev.out.U (ai rA bV) ev.out.lt;have aq:=bT.bQ;have eM:=bT.gS;have jf:=J bT;clear bT R
    go_wp2
    clear aq eM
    refine hE 0 fun cQ aD=>?_
    have bT:=aD.hV jf.out;have fE:=ky.out.gw jf.out aD.fG;have eE:=aD.aG I;clear aD I
    have z0:=bT.bQ
    refine bodyPost_ret (v:= .tuple #[.agg #[.slice cl rs d0,.slice cN qs d1,ag,af,sp,.slice bk ws d2,.slice bo ad d3,.slice cn os d4,ct,cu,cr],.string (⟨#[102,117,108,108]⟩ :ByteArray)]) (by simp [results,Tryz.results18,go_sem,z0]) rfl ?_
    exact DL
   ·have cD:=J (Tv aG jl xw)
    have VT:=(YU jl).2;have iu:Hid (gP ⟨rs,qs,ag,af,sp,ws,ad,os⟩):=J (Fl aG);have LG:=J (show (⟨ct,cu,cr⟩ :hY).ef.size + (⟨ct,cu,cr⟩ :hY).eo.size≤1048576 from cb);clear aG jl
    go_in
    go_upto_region 1 with fail
    refine fp fun aH av aO ae=>?_
    replace R:=R.U av;replace bP:=bP.U av;have I:=av
    obtain⟨dj,dY,dV,er,eA,fJ,fK,fL,fM,fN,fI⟩:=aO.bQ
    obtain⟨z0,ch,z2,z3,z4,z5,fl,iH,iQ,z9,iP⟩:=ae.bQ;have Ih:=J Es;have hb:=J aO
    have auP:=ae.lt;clear z0 ch z2 z3 z4 z5 fl iH iQ z9 iP;have ev:=J ae;clear ae Es
    go_wp2_with fail
    refine (AJ (⟨rs,qs,ag,af,sp,ws,ad,os,ct,cu,cr⟩ :et) an ar ak al aA c0 au c2 c3 c4 cB.out.h0 cB.out.h1 cB.out.h2 cB.out.h3 cB.out.h4 cb _ bD.out _ ((R.U aw)).ft ((R.U aw)).dz ((R.U aw)).r2 ((R.U aw)).gG ((R.U aw)).lF cB.out.dP cB.out.eh cB.out.cm cB.out.dS cB.out.gD ((bP.U aw)).t).mono ?_
    rintro e aQ ⟨rfl,aP⟩
    have ao:=be aH aP;replace I:=ai I ao;replace R:=R.U ao;replace aO:=aO.to ao;clear dj dY dV er eA fJ fK fL fM fN fI
    obtain⟨dj,dY,dV,er,eA,fJ,fK,fL,fM,fN,fI⟩:=aO.bQ
    have rA:=ao
    go_wp2_with fail
    refine (xO l ⟨#[]⟩ aT (Nat.zero_le _) _ zZ.out _).mono ?_
    rintro e bA ⟨rfl,bC⟩
    have aL:=be aQ bC;replace I:=ai I aL;replace R:=R.U aL;replace aO:=aO.to aL;clear dj dY dV er eA fJ fK fL fM fN fI
    obtain⟨dj,dY,dV,er,eA,fJ,fK,fL,fM,fN,fI⟩:=aO.bQ
    have qS:=I.size;replace rA:=ai rA aL
    go_wp2_with fail
    refine (Kj an ar ak al aA c0 au c2 c3 c4 rs qs ag af sp ws ad os ct cu cr cB.out bA R).mono ?_
    rintro e cf ⟨cl,d0,cN,d1,bk,d2,bo,d3,cn,d4,rfl,gQ,cZ⟩
    have bV:=be bA cZ;replace I:=ai I bV;replace aO:=aO.to bV;clear dj dY dV er eA fJ fK fL fM fN fI;have NK:=ai rA bV;have ky:=J (gQ.base (B':=w.heap.size) qS);clear gQ
    go_upto_region 8 with fail
    obtain⟨tx,kT⟩ :∃b,b= cf.heap.size:=⟨_,rfl⟩
    have Nw:=aC.new cf 46 #[.slice cl rs d0,.slice cN qs d1,ag,af,sp,.slice bk ws d2,.slice bo ad d3,.slice cn os d4,ct,cu,cr];have Jt:Below cf cf (cf.alloc (.cells #[.slice cl rs d0,.slice cN qs d1,ag,af,sp,.slice bk ws d2,.slice bo ad d3,.slice cn os d4,ct,cu,cr] 46)):=ca _ _
    rw [← kT] at Nw
    have atX:aH.heap.size≤tx:=by rw [kT];exact NK.size
    generalize cf.alloc (.cells #[.slice cl rs d0,.slice cN qs d1,ag,af,sp,.slice bk ws d2,.slice bo ad d3,.slice cn os d4,ct,cu,cr] 46)= QN at *
    rw [← kT]
    have Vd:=ai NK Jt;have FP:=ai I Jt;have aeO:=J (ky.out.bh Jt);have Ep:Hid (∀W,QN.grownBy W (some tx)→ov W):=J (fun W bK=>Ih.out.U (FP.grown bK FP.size (fun q bf=>by have ao:=Option.some.inj bf;omega)));have sb:=J Nw;have ajZ:=FP.size;clear kT Nw R bP aO I Jt rA NK
    go_wp2_with fail
    refine (ahn w.heap.size tx cl cN bk bo cn d0 d1 d2 d3 d4 rs qs ag af sp ws ad os ct cu cr iu.out l VT QN (by omega) ajZ sb.out aeO.out Ep.out).mono ?_
    rintro e om ⟨dn,dB,dO,dN,dG,bX,cc,dm,cI,e0,cC,e1,cV,e2,cW,e3,cL,e4,x,b,rfl,nz,kZ,qI,jy,Ns⟩
    have uA:=Vd.grown Ns Vd.size (fun q bf=>by have ao:=Option.some.inj bf;omega);have Jq:=FP.grown Ns FP.size (fun q bf=>by have ao:=Option.some.inj bf;omega);have Io:=J qI;have mq:=J jy;clear qI jy Ns
    go_upto_if 37 with fail
    go_cut [7] (fun lU W=>∃y,lU= .string y∧Hid (qk ⟨rs,qs,ag,af,sp,ws,ad,os⟩ l= (⟨dn,dB,dO,dN,dG,bX,cc,dm⟩,y))∧om= W)
    case first=>
     have cJ:=J (amK nz.out kZ.out)
     cases b
     ·go_wp2_with fail
      go_meet
      exact⟨_,rfl,cJ,rfl⟩
     ·go_wp2_with fail
      go_meet
      exact⟨_,rfl,cJ,rfl⟩
    case rest=>
     obtain⟨y,rfl,Ij,hw⟩:=hcut
     subst hw
     clear nz kZ
     go_upto_if 40 with fail
     go_cut [7] (fun lU W=>∃kt,lU= .string kt∧Hid (oM y= kt)∧om= W)
     case first=>
      exact abe
     case rest=>
      obtain⟨kt,rfl,BJ,hw⟩:=hcut
      subst hw
      have xK:kt.size≤1048576:=by
       rw [← BJ.out]
       unfold oM
       split
       ·decide
       ·omega
      have oy:=fun W (h:lf W)=>akp ⟨ct,cu,cr⟩ LG.out ⟨l,kt⟩ aT xK W h
      obtain⟨g,ck⟩ :∃g,iL ⟨ct,cu,cr⟩ ⟨l,kt⟩ =g:=⟨_,rfl⟩
      rw [ck] at oy
      have hx:=J ck;clear ck
      obtain⟨qF,qW,qA⟩:=g
      have sR:=J oy;clear oy
      simp only at sR
      have bG:=(hb.out.U uA hb.out.lt).bQ
      go_wp2_with fail
      refine (sR.out om (Ih.out.U Jq).t).mono ?_
      rintro e mP ⟨rfl,fR⟩
      have kP:=Io.out.U fR Io.out.lt;have zW:=J kP;have mL:=kP.bQ;have Fx:=kP.gS;clear bG kP
      go_upto_region 14 with fail
      clear mL Fx
      refine sP 8 fun wX gJ=>?_
      have nu:=gJ.PX zW.out;have bw:=(mq.out.bh fR).gw zW.out gJ.fG;have ec:=gJ.aG (ai uA fR);have NI:=gJ.aG (ai Jq fR);have bT:=ev.out.U ec ev.out.lt
      have jf:=J bT;have jV:=J bw;have mL:=nu.bQ;have aq:=bT.bQ;have eM:=bT.gS;clear bT bw gJ nu
      go_wp2
      clear mL aq eM
      refine hE 0 fun WF yk=>?_
      have NM:=yk.hV jf.out;have mY:=jV.out.gw jf.out yk.fG;have Lw:=yk.aG NI;clear yk
      have z0:=NM.bQ
      refine bodyPost_ret (v:= .tuple #[.agg #[.slice cI dn e0,.slice cC dB e1,dO,dN,dG,.slice cV bX e2,.slice cW cc e3,.slice cL dm e4,qF,qW,qA],.string kt]) (by simp [results,Tryz.results18,go_sem,z0]) rfl ?_
      exact⟨dn,dB,dO,dN,dG,bX,cc,dm,qF,qW,qA,cI,e0,cC,e1,cV,e2,cW,e3,cL,e4,kt,rfl,J (by
       rw [cD.out.1,cD.out.2]
       unfold Ab
       rw [show qk (et.kX (⟨rs,qs,ag,af,sp,ws,ad,os,ct,cu,cr⟩ :et)) l= (⟨dn,dB,dO,dN,dG,bX,cc,dm⟩,y) from Ij.out]
       simp only
       rw [BJ.out,show iL (et.log (⟨rs,qs,ag,af,sp,ws,ad,os,ct,cu,cr⟩ :et)) ⟨l,kt⟩ =⟨qF,qW,qA⟩ from hx.out]
       rfl),mY,Lw⟩
open Go.RowKit Go.G9
def BS (B:Nat) (ct cu:ByteArray) (cr:Int) (r:cF×ByteArray) (e:Ending) (ah:World):Prop:=∃(dn:List aM) (dB:List aN) (dO dN dG:Int) (bX:List Int) (cc:List aK) (dm:List Out) (cI:Option Addr) (e0:Nat) (cC:Option Addr) (e1:Nat) (cV:Option Addr) (e2:Nat) (cW:Option Addr) (e3:Nat) (cL:Option Addr) (e4:Nat) (y:ByteArray),e= .returned (.tuple #[.agg #[.slice cI dn.length e0,.slice cC dB.length e1,.int .i64 dO,.int .i64 dN,.int .i64 dG,.slice cV bX.length e2,.slice cW cc.length e3,.slice cL dm.length e4,.string ct,.string cu,.int .i64 cr],.string y])∧Hid (r= (⟨dn,dB,dO,dN,dG,bX,cc,dm⟩,y))∧gi B ah cI e0 cC e1 cV e2 cW e3 cL e4 dn dB bX cc dm
theorem Hh {B:Nat} {w:World} {cl:Option Addr} {d0:Nat} {cN:Option Addr} {d1:Nat} {bk:Option Addr} {d2:Nat} {bo:Option Addr} {d3:Nat} {cn:Option Addr} {d4:Nat} {rs:List aM} {qs:List aN} {ag af sp:Int} {ws:List Int} {ad:List aK} {os:List Out} (h:gi B w cl d0 cN d1 bk d2 bo d3 cn d4 rs qs ws ad os) (hm:gP ⟨rs,qs,ag,af,sp,ws,ad,os⟩):ed cl cN bk bo cn d0 d1 d2 d3 d4 rs qs ws ad os:=by
 obtain⟨a0,a1,a2,a3,a4⟩:=tv hm
 simp only at a0 a1 a2 a3 a4
 exact h.JQ (by omega) (by omega) (by omega) (by omega) (by omega)
theorem aqe (an ar ak al aA:Option Addr) (c0 au c2 c3 c4:Nat) (rs:List aM) (qs:List aN) (ag af sp:Int) (ws:List Int) (ad:List aK) (os:List Out) (Z:ed an ar ak al aA c0 au c2 c3 c4 rs qs ws ad os) (kind mem val yes no bB:Int) (h:gP ⟨rs,qs,ag,af,sp,ws,ad,os⟩) (w:World) (R:dL w an ar ak al aA rs qs ws ad os):
 Calls Tryz.prog 154 #[.agg #[.slice an rs c0,.slice ar qs au,ag,af,sp,.slice ak ws c2,.slice al ad c3,.slice aA os c4],.agg #[kind,mem,val,yes,no,bB]] w fun e ah=>∃(dn:List aM) (dB:List aN) (dO dN dG:Int) (bX:List Int) (cc:List aK) (dm:List Out) (cI:Option Addr) (e0:Nat) (cC:Option Addr) (e1:Nat) (cV:Option Addr) (e2:Nat) (cW:Option Addr) (e3:Nat) (cL:Option Addr) (e4:Nat) (b:Bool),e= .returned (.tuple #[.agg #[.slice cI dn e0,.slice cC dB e1,dO,dN,dG,.slice cV bX e2,.slice cW cc e3,.slice cL dm e4],b])∧Hid (gE ⟨rs,qs,ag,af,sp,ws,ad,os⟩ ⟨kind,mem,val,yes,no,bB⟩ =if b= true then some ⟨dn,dB,dO,dN,dG,bX,cc,dm⟩ else none)∧gi w ah cI e0 cC e1 cV e2 cW e3 cL e4 dn dB bX cc dm∧Below w w ah:=by
 have H:=apS an ar ak al aA c0 au c2 c3 c4 rs qs ag af sp ws ad os Z kind mem val yes no bB h w R
 cases hm:gE ⟨rs,qs,ag,af,sp,ws,ad,os⟩ ⟨kind,mem,val,yes,no,bB⟩ with
 | none=>
  exact abp
 | some n=>
  exact adS
theorem xP (B:Nat) (an ar ak al aA:Option Addr) (c0 au c2 c3 c4:Nat) (rs:List aM) (qs:List aN) (ag af sp:Int) (ws:List Int) (ad:List aK) (os:List Out) (ct cu:ByteArray) (cr:Int) (h:gP ⟨rs,qs,ag,af,sp,ws,ad,os⟩) (kind mem val yes no bB:Int) (s:ByteArray) (w:World) (nV:B≤w.heap.size) (bR:gi B w an c0 ar au ak c2 al c3 aA c4 rs qs ws ad os):
 Calls Tryz.prog 187 #[.agg #[.slice an rs c0,.slice ar qs au,ag,af,sp,.slice ak ws c2,.slice al ad c3,.slice aA os c4,ct,cu,cr],.agg #[kind,mem,val,yes,no,bB],s] w fun e ah=>BS B ct cu cr (og ⟨rs,qs,ag,af,sp,ws,ad,os⟩ ⟨kind,mem,val,yes,no,bB⟩ s) e ah∧Below w w ah:=by
 have cB:=J (Hh bR h);have iu:=J h;have dp:=J bR;have R:=bR.rd;clear h bR
 go_in
 go_upto_region 1 with fail
 refine fv fun aH av aO gg ae=>?_
 replace R:=R.U av;have I:=av
 obtain⟨dj,dY,dV,er,eA,fJ,fK,fL,fM,fN,fI⟩:=aO.bQ
 have hT:=gg.df;obtain⟨z0,ch,z2,z3,z4,z5,fl,iH,iQ,z9,iP⟩:=ae.bQ;have ev:=J ae;have fu:=J aO;have qj:=aO.lt
 have qO:=gg.lt;have sD:=ae.lt;clear z0 ch z2 z3 z4 z5 fl iH iQ z9 iP ae
 go_wp2_with fail
 refine (aqe an ar ak al aA c0 au c2 c3 c4 rs qs ag af sp ws ad os cB.out kind mem val yes no bB iu.out _ R).mono ?_
 rintro e aQ ⟨dn,dB,dO,dN,dG,bX,cc,dm,cI,e0,cC,e1,cV,e2,cW,e3,cL,e4,b,rfl,yt,jy,aP⟩
 have CN:=aP.size;have mq:=J (jy.base (B':=B) (by have:=I.size;omega));clear jy
 cases b
 ·have lj:og ⟨rs,qs,ag,af,sp,ws,ad,os⟩ ⟨kind,mem,val,yes,no,bB⟩ s= (⟨rs,qs,ag,af,sp,ws,ad,os⟩,(⟨#[63]⟩ :ByteArray)):=by
   have e:gE ⟨rs,qs,ag,af,sp,ws,ad,os⟩ ⟨kind,mem,val,yes,no,bB⟩ =none:=by simpa using yt.out
   rw [og,e]
  have vK:=J lj;clear lj
  go_upto_region 2 with fail
  have bC:=aP.alloc aP.size (.cells #[.slice cI dn e0,.slice cC dB e1,dO,dN,dG,.slice cV bX e2,.slice cW cc e3,.slice cL dm e4] 44)
  generalize aQ.alloc (.cells #[.slice cI dn e0,.slice cC dB e1,dO,dN,dG,.slice cV bX e2,.slice cW cc e3,.slice cL dm e4] 44)= bA at *
  have hB:=ai I bC;clear dj dY dV er eA fJ fK fL fM fN fI hT;have bG:=(fu.out.U bC fu.out.lt).bQ;have Wz:=(fu.out.U bC fu.out.lt).lt;have cM:=ev.out.U bC ev.out.lt;have dq:=J cM;have aq:=cM.bQ;have eM:=cM.gS;have hp:=cM.lt;clear cM
  go_wp2
  clear aq eM hp bG
  refine hE 0 fun cQ aD=>?_
  have bT:=aD.hV dq.out;have fE:=(dp.out.bh hB).gw dq.out aD.fG;have eE:=aD.aG hB;clear aD
  have z0:=bT.bQ
  refine bodyPost_ret (v:= .tuple #[.agg #[.slice an rs c0,.slice ar qs au,ag,af,sp,.slice ak ws c2,.slice al ad c3,.slice aA os c4,ct,cu,cr],.string (⟨#[63]⟩ :ByteArray)]) (by simp [results,Tryz.results187,go_sem,z0]) rfl ?_
  exact⟨⟨rs,qs,ag,af,sp,ws,ad,os,an,c0,ar,au,ak,c2,al,c3,aA,c4,_,rfl,J (vK.out),fE⟩,eE⟩
 ·have lj:og ⟨rs,qs,ag,af,sp,ws,ad,os⟩ ⟨kind,mem,val,yes,no,bB⟩ s= (⟨dn,dB,dO,dN,dG,bX,cc,dm⟩,s):=by
   have e:gE ⟨rs,qs,ag,af,sp,ws,ad,os⟩ ⟨kind,mem,val,yes,no,bB⟩ =some ⟨dn,dB,dO,dN,dG,bX,cc,dm⟩:=by simpa using yt.out
   rw [og,e]
  have vK:=J lj;clear lj
  go_upto_region 4 with fail
  obtain⟨cH,mF⟩ :∃b,b= aQ.heap.size:=⟨_,rfl⟩
  have eO:=aC.new aQ 44 #[.slice cI dn e0,.slice cC dB e1,dO,dN,dG,.slice cV bX e2,.slice cW cc e3,.slice cL dm e4];have bC:=aP.alloc aP.size (.cells #[.slice cI dn e0,.slice cC dB e1,dO,dN,dG,.slice cV bX e2,.slice cW cc e3,.slice cL dm e4] 44)
  have Ge:Below aQ aQ (aQ.alloc (.cells #[.slice cI dn e0,.slice cC dB e1,dO,dN,dG,.slice cV bX e2,.slice cW cc e3,.slice cL dm e4] 44)):=ca _ _
  rw [← mF] at eO
  generalize aQ.alloc (.cells #[.slice cI dn e0,.slice cC dB e1,dO,dN,dG,.slice cV bX e2,.slice cW cc e3,.slice cL dm e4] 44)= bA at *
  rw [← mF]
  clear mF;have hB:=ai I bC;have aeP:=J (mq.out.bh Ge);clear dj dY dV er eA fJ fK fL fM fN fI hT;have bG:=(fu.out.U bC fu.out.lt).bQ;have Wz:=(fu.out.U bC fu.out.lt).lt;have oh:=eO.aI;have pa:=eO.lt
  go_upto_region 5 with fail
  obtain⟨QH,OZ⟩ :∃b,b= bA.heap.size:=⟨_,rfl⟩
  have dt:=aC.new bA 46 #[.slice an rs c0,.slice ar qs au,ag,af,sp,.slice ak ws c2,.slice al ad c3,.slice aA os c4,ct,cu,cr];have Gh:Below bA bA (bA.alloc (.cells #[.slice an rs c0,.slice ar qs au,ag,af,sp,.slice ak ws c2,.slice al ad c3,.slice aA os c4,ct,cu,cr] 46)):=ca _ _
  rw [← OZ] at dt
  generalize bA.alloc (.cells #[.slice an rs c0,.slice ar qs au,ag,af,sp,.slice ak ws c2,.slice al ad c3,.slice aA os c4,ct,cu,cr] 46)= cf at *
  rw [← OZ]
  have ajL:=Gh.size
  have auf:w.heap.size≤QH:=by have:=hB.size;omega
  have aug:aH.heap.size≤QH:=by have:=bC.size;omega
  have gu:=ai hB Gh;have jc:=ai bC Gh;have Cs:=eO.to Gh;have aeQ:=J (aeP.out.bh Gh)
  have atW:cH≠QH:=by have:=eO.lt;omega
  clear bG oh Wz pa eO OZ;have bP:=J dt;have oh:=Cs.aI;have fo:=dt.bQ;have aho:=dt.gS;have pa:=Cs.lt;have uW:=dt.lt;clear dt
  go_upto_region 6 with fail
  clear oh fo aho pa uW
  refine iE 0 fun ui gf=>?_
  have Jp:=gf.PT bP.out;have iw:=aeQ.out.gw bP.out gf.fG;have kQ:=gf.aG jc;have lO:=gf.aG gu;have asq:=J Jp;have mU:=J iw;have fo:=Jp.bQ
  have uW:=Jp.lt;clear gf Jp iw Cs;have cM:=ev.out.U kQ ev.out.lt;have dq:=J cM;have aq:=cM.bQ;have eM:=cM.gS;have hp:=cM.lt;clear cM
  go_wp2
  clear aq eM hp fo uW
  refine hE 0 fun cQ aD=>?_
  have bT:=aD.hV dq.out;have fE:=(mU.out).gw dq.out aD.fG;have eE:=aD.aG lO;clear aD
  have z0:=bT.bQ
  refine bodyPost_ret (v:= .tuple #[.agg #[.slice cI dn e0,.slice cC dB e1,dO,dN,dG,.slice cV bX e2,.slice cW cc e3,.slice cL dm e4,ct,cu,cr],s]) (by simp [results,Tryz.results187,go_sem,z0]) rfl ?_
  exact⟨⟨dn,dB,dO,dN,dG,bX,cc,dm,cI,e0,cC,e1,cV,e2,cW,e3,cL,e4,_,rfl,J (vK.out),fE⟩,eE⟩
open Go.RowKit Go.G9
def sH (m:cF):Nat→Int→cF×ByteArray
 | 7,n=>og m ⟨2,n,0,0,0,0⟩ (⟨#[111,107]⟩ :ByteArray)
 | 8,n=>og m ⟨3,n,0,0,0,0⟩ (⟨#[111,107]⟩ :ByteArray)
 | 9,n=>og m ⟨5,0,n,0,0,0⟩ (⟨#[111,107]⟩ :ByteArray)
 | 10,n=>og m ⟨8,n,0,0,0,0⟩ (⟨#[111,107]⟩ :ByteArray)
 | 11,n=>(m,(jL m 11 [n]).getD (⟨#[63]⟩ :ByteArray))
 | 12,n=>(m,(jL m 12 [n]).getD (⟨#[63]⟩ :ByteArray))
 | _,_=>(m,(⟨#[63]⟩ :ByteArray))
theorem Yg (m:cF) (i:Nat) (n:Int) (h7:i≠7) (h8:i≠8) (h9:i≠9) (h10:i≠10) (h11:i≠11) (h12:i≠12):sH m i n= (m,(⟨#[63]⟩ :ByteArray)):=by
 unfold sH
 split <;> first | rfl | (exfalso;omega)
theorem Lf {p:Prop} (h:p:=by
 rintro e aQ ⟨⟨dn,dB,dO,dN,dG,bX,cc,dm,cI,e0,cC,e1,cV,e2,cW,e3,cL,e4,y,rfl,da,jy⟩,aP⟩
 have mq:=J jy;clear jy;have hS:=ai I aP;have cM:=ev.out.U aP ev.out.lt;have dq:=J cM;have aq:=cM.bQ;have eM:=cM.gS;clear cM
 go_wp2
 clear aq eM
 refine hE 0 fun cQ aD=>?_
 have bT:=aD.hV dq.out;have fE:=(mq.out).gw dq.out aD.fG;have eE:=aD.aG hS;clear aD
 have z0:=bT.bQ
 refine bodyPost_ret (v:= .tuple #[.agg #[.slice cI dn e0,.slice cC dB e1,dO,dN,dG,.slice cV bX e2,.slice cW cc e3,.slice cL dm e4,ct,cu,cr],y]) (by simp [results,Tryz.results114,go_sem,z0]) rfl ?_
 exact⟨⟨dn,dB,dO,dN,dG,bX,cc,dm,cI,e0,cC,e1,cV,e2,cW,e3,cL,e4,_,rfl,J (da.out),fE⟩,eE⟩):p:=h
theorem abS {p:Prop} (h:p:=by
 exact⟨⟨rs,qs,ag,af,sp,ws,ad,os,an,c0,ar,au,ak,c2,al,c3,aA,c4,_,rfl,J (RR.out),fE⟩,eE⟩):p:=h
theorem abT {p:Prop} (h:p:=by
 exact⟨⟨rs,qs,ag,af,sp,ws,ad,os,an,c0,ar,au,ak,c2,al,c3,aA,c4,_,rfl,J (aen.out),fE⟩,eE⟩):p:=h
theorem abU {p:Prop} (h:p:=by
 exact⟨⟨rs,qs,ag,af,sp,ws,ad,os,an,c0,ar,au,ak,c2,al,c3,aA,c4,_,rfl,J (Sr.out),fE⟩,eE⟩):p:=h
theorem amm (B:Nat) (an ar ak al aA:Option Addr) (c0 au c2 c3 c4:Nat) (rs:List aM) (qs:List aN) (ag af sp:Int) (ws:List Int) (ad:List aK) (os:List Out) (ct cu:ByteArray) (cr:Int) (h:gP ⟨rs,qs,ag,af,sp,ws,ad,os⟩) (s:ByteArray) (n:Int) (w:World) (nV:B≤w.heap.size) (bR:gi B w an c0 ar au ak c2 al c3 aA c4 rs qs ws ad os):
 Calls Tryz.prog 114 #[.agg #[.slice an rs c0,.slice ar qs au,ag,af,sp,.slice ak ws c2,.slice al ad c3,.slice aA os c4,ct,cu,cr],s,n] w fun e ah=>BS B ct cu cr (sH ⟨rs,qs,ag,af,sp,ws,ad,os⟩ (eG s) n) e ah∧Below w w ah:=by
 have cD:=Cb s
 generalize eG s= i at *
 obtain⟨-,-,-,-,-,-,-,f7,f8,f9,f10,f11,f12,-,-⟩:=cD
 have oH:gl ag af sp ws ad= true:=h.gz;have Z:=Hh bR h;have Il:=J (fun W (h1:aJ 1 bU W ak ws) (h2:aJ 3 aK.cells W al ad)=>apR ag af sp ak c2 ws al c3 ad Z.h2 Z.h3 Z.cm oH n W h1 h2)
 have rB:-1000000000 < (if eH n then af - (eB ad n).cU else 0)∧(if eH n then af - (eB ad n).cU else 0) < 1000000000:=by
  split
  ·rename_i hm
   have:=KI oH hm
   omega
  ·omega
 have RR:Hid (sH ⟨rs,qs,ag,af,sp,ws,ad,os⟩ 11 n= (⟨rs,qs,ag,af,sp,ws,ad,os⟩,if eH n then eT (if eH n then af - (eB ad n).cU else 0) else (⟨#[63]⟩ :ByteArray))):=J (by
  show (_,((if eH n then some (eT (af - (eB ad n).cU)) else none:Option ByteArray).getD (⟨#[63]⟩ :ByteArray)))= _
  cases eH n <;> rfl)
 have lQ:=Dc.2 h;have ajs:=PD os n os.length;have tq:=(tv h).2.2.2.2
 simp only at tq
 obtain⟨b,aE⟩ :∃b,eH n= b:=⟨_,rfl⟩
 obtain⟨v1,tr⟩ :∃v,v= if b then (hD os n os.length).1 else 0:=⟨_,rfl⟩
 obtain⟨v2,pI⟩ :∃v,v= if b then (hD os n os.length).2 else 0:=⟨_,rfl⟩
 have LK:=J (fun W (dv:dL W an ar ak al aA rs qs ws ad os)=>aqg ⟨rs,qs,ag,af,sp,ws,ad,os⟩ an ar ak al aA c0 au c2 c3 c4 Z.h0 Z.h1 Z.h2 Z.h3 Z.h4 n (.tuple #[v1,v2,.bool b]) (by rw [wm,lQ,aE,tr,pI];cases b <;> rfl) W dv.ft dv.dz dv.r2 dv.gG dv.lF Z.dP Z.eh Z.cm Z.dS Z.gD)
 have aen:Hid (sH ⟨rs,qs,ag,af,sp,ws,ad,os⟩ 12 n= (⟨rs,qs,ag,af,sp,ws,ad,os⟩,if b then eT v1 ++ (⟨#[32]⟩ :ByteArray) ++ eT v2 else (⟨#[63]⟩ :ByteArray))):=J (by
  show (_,((if eH n then some (pe [(hD os n os.length).1,(hD os n os.length).2]) else none:Option ByteArray).getD (⟨#[63]⟩ :ByteArray)))= _
  rw [aE,tr,pI]
  cases b <;> rfl)
 have xD:(-1000000000 < v1∧v1 < 1000000000)∧-1000000000 < v2∧v2 < 1000000000:=by
  rw [tr,pI]
  cases b
  ·simp
  ·simp only [if_true];omega
 rw [aE] at Il RR rB
 generalize (if b then af - (eB ad n).cU else 0)= v at *
 have iu:=J h;have dp:=J bR;clear h bR Z lQ ajs tq oH aE tr pI
 go_in
 go_upto_region 1 with fail
 refine fp fun aH av aO ae=>?_
 have I:=av
 obtain⟨dj,dY,dV,er,eA,fJ,fK,fL,fM,fN,fI⟩:=aO.bQ
 obtain⟨z0,ch,z2,z3,z4,z5,fl,iH,iQ,z9,iP⟩:=ae.bQ;have ev:=J ae;have fu:=J aO;have sD:=ae.lt
 have vV:B≤aH.heap.size:=by have:=I.size;omega
 have iS:=J (dp.out.bh I);clear z0 ch z2 z3 z4 z5 fl iH iQ z9 iP ae aO dp
 by_cases h7:i= 7
 ·subst h7
  simp only [Nat.reduceBEq] at f7 f8 f9 f10 f11 f12
  go_wp2_with fail
  refine (xP B an ar ak al aA c0 au c2 c3 c4 rs qs ag af sp ws ad os ct cu cr iu.out 2 n 0 0 0 0 (⟨#[111,107]⟩ :ByteArray) _ vV iS.out).mono ?_
  exact Lf
 by_cases h8:i= 8
 ·subst h8
  simp only [Nat.reduceBEq] at f7 f8 f9 f10 f11 f12
  go_wp2_with fail
  refine (xP B an ar ak al aA c0 au c2 c3 c4 rs qs ag af sp ws ad os ct cu cr iu.out 3 n 0 0 0 0 (⟨#[111,107]⟩ :ByteArray) _ vV iS.out).mono ?_
  exact Lf
 by_cases h9:i= 9
 ·subst h9
  simp only [Nat.reduceBEq] at f7 f8 f9 f10 f11 f12
  go_wp2_with fail
  refine (xP B an ar ak al aA c0 au c2 c3 c4 rs qs ag af sp ws ad os ct cu cr iu.out 5 0 n 0 0 0 (⟨#[111,107]⟩ :ByteArray) _ vV iS.out).mono ?_
  exact Lf
 by_cases h10:i= 10
 ·subst h10
  simp only [Nat.reduceBEq] at f7 f8 f9 f10 f11 f12
  go_wp2_with fail
  refine (xP B an ar ak al aA c0 au c2 c3 c4 rs qs ag af sp ws ad os ct cu cr iu.out 8 n 0 0 0 0 (⟨#[111,107]⟩ :ByteArray) _ vV iS.out).mono ?_
  exact Lf
 by_cases h11:i= 11
 ·subst h11
  simp only [Nat.reduceBEq] at f7 f8 f9 f10 f11 f12
  go_wp2_with fail
  refine (Il.out _ iS.out.rd.r2 iS.out.rd.gG).mono ?_
  rintro e aQ ⟨rfl,aP⟩
  have hS:=ai I aP;have hs:=J (iS.out.bh aP)
  cases b
  ·skip
   have cM:=ev.out.U aP ev.out.lt;have dq:=J cM;have aq:=cM.bQ;have eM:=cM.gS;clear cM;have bG:=(fu.out.U aP fu.out.lt).bQ;clear dj dY dV er eA fJ fK fL fM fN fI
   go_wp2
   clear aq eM bG
   refine hE 0 fun cQ aD=>?_
   have bT:=aD.hV dq.out;have fE:=(hs.out).gw dq.out aD.fG;have eE:=aD.aG hS;clear aD
   have z0:=bT.bQ
   refine bodyPost_ret (v:= .tuple #[.agg #[.slice an rs c0,.slice ar qs au,ag,af,sp,.slice ak ws c2,.slice al ad c3,.slice aA os c4,ct,cu,cr],.string (⟨#[63]⟩ :ByteArray)]) (by simp [results,Tryz.results114,go_sem,z0]) rfl ?_
   exact abS
  ·go_upto_region 13 with fail
   have ix:=fu.out.U aP fu.out.lt
   obtain⟨eL,gB⟩ :∃X:World→Prop,∀V,X V↔aC V (w.heap.size) 46 #[.slice an rs c0,.slice ar qs au,ag,af,sp,.slice ak ws c2,.slice al ad c3,.slice aA os c4,ct,cu,cr]:=⟨_,fun _=>Iff.rfl⟩
   have db:=J gB;clear gB
   haveI:Nonempty (cP eL):=⟨⟨aQ,(db.out _).2 ix⟩⟩
   refine oP eL [([0,1],2),([],3)] [4] (by kernel_rfl) (by kernel_rfl) ((db.out _).2 ix) ?_
   clear dj dY dV er eA fJ fK fL fM fN fI
   obtain⟨dj,dY,dV,er,eA,fJ,fK,fL,fM,fN,fI⟩:=aC.ru (fun K:cP eL=>(db.out _).1 K.holds)
   have gL:Below w w aQ.drew:=ai hS (Below.refl _ _).drew;have nX:aC aQ.drew (w.heap.size) 46 #[.slice an rs c0,.slice ar qs au,ag,af,sp,.slice ak ws c2,.slice al ad c3,.slice aA os c4,ct,cu,cr]:=ix;have pD:=ev.out.U aP ev.out.lt;have lZ:Hid (aC aQ.drew (w.heap.size + 1) 46 #[.slice none 0 0,.slice none 0 0,(0:Int),(0:Int),(0:Int),.slice none 0 0,.slice none 0 0,.slice none 0 0,.string ⟨#[]⟩,.string ⟨#[]⟩,(0:Int)]):=J pD
   have oA:=J (hs.out.bh (Below.refl _ _).drew);clear ix pD
   generalize aQ.drew= wd at *
   refine gZ fun gr dX=>?_
   change wpQuiet _ _ _ _ (_ ::_ ::[]) _
   repeat (go_big_quiet_step (fail))
   refine wpQuiet_nil ?_
   change wpList _ _ _ (_ ::[]) _ _
   go_wp2_with fail
   refine (qT v rB.1 rB.2 _).mono ?_
   rintro e bA ⟨rfl,bC⟩
   have hB:=ai gL bC;have fQ:=nX.to bC
   go_wp2
   refine hh ((db.out _).2 fQ) (dX _ _ ?_)
   refine gZ fun gr dX=>?_
   change wpQuiet _ _ _ _ ([]) _
   refine wpQuiet_nil ?_
   change wpList _ _ _ (_ ::[]) _ _
   have dq:=J (lZ.out.U bC lZ.out.lt);have aq:=dq.out.bQ;have eM:=dq.out.gS
   go_wp2
   clear aq eM
   refine hE 0 fun cQ aD=>?_
   have ec:=aD.dJ (fQ);have bT:=aD.hV dq.out;have fE:=(oA.out.bh bC).gw dq.out aD.fG;have eE:=aD.aG hB;clear aD
   refine hh ((db.out _).2 ec) (dX _ _ ?_)
   refine mg ?_
   change wpQuiet _ _ _ _ (_ ::[]) _
   repeat (go_big_quiet_step (fail))
   refine wpQuiet_nil ?_
   clear dj dY dV er eA fJ fK fL fM fN fI
   go_wp2
   have z0:=bT.bQ
   refine bodyPost_ret (v:= .tuple #[.agg #[.slice an rs c0,.slice ar qs au,ag,af,sp,.slice ak ws c2,.slice al ad c3,.slice aA os c4,ct,cu,cr],.string (eT v)]) (by simp [results,Tryz.results114,go_sem,z0]) rfl ?_
   exact abS
 by_cases h12:i= 12
 ·subst h12
  simp only [Nat.reduceBEq] at f7 f8 f9 f10 f11 f12
  go_wp2_with fail
  refine (LK.out _ iS.out.rd).mono ?_
  rintro e aQ ⟨rfl,aP⟩
  have hS:=ai I aP;have hs:=J (iS.out.bh aP)
  cases b
  ·skip
   have cM:=ev.out.U aP ev.out.lt;have dq:=J cM;have aq:=cM.bQ;have eM:=cM.gS;clear cM;have bG:=(fu.out.U aP fu.out.lt).bQ;clear dj dY dV er eA fJ fK fL fM fN fI
   go_wp2
   clear aq eM bG
   refine hE 0 fun cQ aD=>?_
   have bT:=aD.hV dq.out;have fE:=(hs.out).gw dq.out aD.fG;have eE:=aD.aG hS;clear aD
   have z0:=bT.bQ
   refine bodyPost_ret (v:= .tuple #[.agg #[.slice an rs c0,.slice ar qs au,ag,af,sp,.slice ak ws c2,.slice al ad c3,.slice aA os c4,ct,cu,cr],.string (⟨#[63]⟩ :ByteArray)]) (by simp [results,Tryz.results114,go_sem,z0]) rfl ?_
   exact abT
  ·have xA:=xY v1 (by omega)
   have CN:=xY v2 (by omega)
   go_upto_region 17 with fail
   have ix:=fu.out.U aP fu.out.lt
   obtain⟨eL,gB⟩ :∃X:World→Prop,∀V,X V↔aC V (w.heap.size) 46 #[.slice an rs c0,.slice ar qs au,ag,af,sp,.slice ak ws c2,.slice al ad c3,.slice aA os c4,ct,cu,cr]:=⟨_,fun _=>Iff.rfl⟩
   have db:=J gB;clear gB
   haveI:Nonempty (cP eL):=⟨⟨aQ,(db.out _).2 ix⟩⟩
   refine oP eL [([0,1,4],2),([3],5),([6],7)] [8] (by kernel_rfl) (by kernel_rfl) ((db.out _).2 ix) ?_
   clear dj dY dV er eA fJ fK fL fM fN fI
   obtain⟨dj,dY,dV,er,eA,fJ,fK,fL,fM,fN,fI⟩:=aC.ru (fun K:cP eL=>(db.out _).1 K.holds)
   have gL:Below w w aQ.drew:=ai hS (Below.refl _ _).drew;have nX:aC aQ.drew (w.heap.size) 46 #[.slice an rs c0,.slice ar qs au,ag,af,sp,.slice ak ws c2,.slice al ad c3,.slice aA os c4,ct,cu,cr]:=ix;have pD:=ev.out.U aP ev.out.lt;have lZ:Hid (aC aQ.drew (w.heap.size + 1) 46 #[.slice none 0 0,.slice none 0 0,(0:Int),(0:Int),(0:Int),.slice none 0 0,.slice none 0 0,.slice none 0 0,.string ⟨#[]⟩,.string ⟨#[]⟩,(0:Int)]):=J pD
   have oA:=J (hs.out.bh (Below.refl _ _).drew);clear ix pD
   generalize aQ.drew= wd at *
   refine gZ fun gr dX=>?_
   change wpQuiet _ _ _ _ (_ ::_ ::_ ::[]) _
   repeat (go_big_quiet_step (fail))
   refine wpQuiet_nil ?_
   change wpList _ _ _ (_ ::[]) _ _
   go_wp2_with fail
   refine (qT v1 xD.1.1 xD.1.2 _).mono ?_
   rintro e bA ⟨rfl,bC⟩
   have hB:=ai gL bC;have fQ:=nX.to bC;have Sx:=J (lZ.out.U bC lZ.out.lt)
   go_wp2
   refine hh ((db.out _).2 fQ) (dX _ _ ?_)
   refine gZ fun gr dX=>?_
   change wpQuiet _ _ _ _ (_ ::[]) _
   repeat (go_big_quiet_step (fail))
   refine wpQuiet_nil ?_
   change wpList _ _ _ (_ ::[]) _ _
   go_wp2_with fail
   refine (qT v2 xD.2.1 xD.2.2 _).mono ?_
   rintro e cf ⟨rfl,cZ⟩
   have gu:=ai hB cZ;have jc:=fQ.to cZ
   go_wp2
   refine hh ((db.out _).2 jc) (dX _ _ ?_)
   refine gZ fun gr dX=>?_
   change wpQuiet _ _ _ _ (_ ::[]) _
   repeat (go_big_quiet_step (fail))
   refine wpQuiet_nil ?_
   change wpList _ _ _ (_ ::[]) _ _
   have dq:=J (Sx.out.U cZ Sx.out.lt);have aq:=dq.out.bQ;have eM:=dq.out.gS
   go_wp2
   clear aq eM
   refine hE 0 fun cQ aD=>?_
   have ec:=aD.dJ (jc);have bT:=aD.hV dq.out;have fE:=((oA.out.bh bC).bh cZ).gw dq.out aD.fG;have eE:=aD.aG gu;clear aD
   refine hh ((db.out _).2 ec) (dX _ _ ?_)
   refine mg ?_
   change wpQuiet _ _ _ _ (_ ::[]) _
   repeat (go_big_quiet_step (fail))
   refine wpQuiet_nil ?_
   clear dj dY dV er eA fJ fK fL fM fN fI
   go_wp2
   have z0:=bT.bQ
   refine bodyPost_ret (v:= .tuple #[.agg #[.slice an rs c0,.slice ar qs au,ag,af,sp,.slice ak ws c2,.slice al ad c3,.slice aA os c4,ct,cu,cr],.string (eT v1 ++ (⟨#[32]⟩ :ByteArray) ++ eT v2)]) (by simp [results,Tryz.results114,go_sem,z0]) rfl ?_
   exact abT
 have Sr:=J (Yg ⟨rs,qs,ag,af,sp,ws,ad,os⟩ i n h7 h8 h9 h10 h11 h12);have cM:=ev.out.U (Below.refl _ _) ev.out.lt;have dq:=J cM;have aq:=cM.bQ;have eM:=cM.gS;clear cM
 go_wp2
 clear aq eM
 refine hE 0 fun cQ aD=>?_
 have bT:=aD.hV dq.out;have fE:=(iS.out).gw dq.out aD.fG;have eE:=aD.aG I;clear aD
 have z0:=bT.bQ
 refine bodyPost_ret (v:= .tuple #[.agg #[.slice an rs c0,.slice ar qs au,ag,af,sp,.slice ak ws c2,.slice al ad c3,.slice aA os c4,ct,cu,cr],.string (⟨#[63]⟩ :ByteArray)]) (by simp [results,Tryz.results114,go_sem,z0]) rfl ?_
 exact abU
open Go.RowKit Go.G9
theorem Hx (s:ByteArray):∃v b,fh s= b∧Go.G9.jF s= .tuple #[.int .i64 v,.bool b]∧(b= true→hg s.data.toList= v):=by
 cases h:fh s
 ·exact⟨0,false,rfl,YN h,fun e=>by cases e⟩
 ·exact⟨_,true,rfl,YO h,fun _=>rfl⟩
theorem HG (s:ByteArray) (aZ:s.size≤1048576) (v:Int) (b:Bool) (h:Go.G9.jF s= .tuple #[v,b]) (w:World):Calls Tryz.prog 113 #[s] w fun e ah=>e= .returned (.tuple #[v,b])∧Below w w ah:=by
 have bL:=J (fun W=>ame s (by unfold maxLen;omega) W)
 rw [h] at bL
 clear h
 go_in
 go_wp2_with fail
 refine (bL.out _).mono ?_
 rintro e bg ⟨rfl,bE⟩
 have av:=be w bE;have I:Below w w bg:=av
 go_wp2
 go_ret2
 exact⟨rfl,(ai I aw)⟩
def Kd (m:cF) (b:Bool) (v:Int):Option aM→cF×ByteArray
 | some r=>if b then og m ⟨1,v,r.id,0,0,0⟩ (⟨#[111,107]⟩ :ByteArray) else (m,(⟨#[63]⟩ :ByteArray))
 | none=>(m,(⟨#[63]⟩ :ByteArray))
theorem XY {m:cF} {v:Int} {r:aM}:Kd m true v (some r)= og m ⟨1,v,r.id,0,0,0⟩ (⟨#[111,107]⟩ :ByteArray):=by rw [Kd,if_pos rfl]
def Dd (m:cF) (x y:ByteArray):cF×ByteArray:=Kd m (fh y) (hg y.data.toList) (uu m.bx x)
theorem acT {p:Prop} (h:p:=by
 skip
 go_in
 go_upto_region 1 with fail
 refine fp fun aH av aO ae=>?_
 have I:=av
 obtain⟨dj,dY,dV,er,eA,fJ,fK,fL,fM,fN,fI⟩:=aO.bQ
 obtain⟨z0,ch,z2,z3,z4,z5,fl,iH,iQ,z9,iP⟩:=ae.bQ;have ev:=J ae;have fu:=J aO;have qj:=aO.lt
 have sD:=ae.lt;have iS:=J (dp.out.bh I);clear z0 ch z2 z3 z4 z5 fl iH iQ z9 iP ae aO
 go_wp2_with fail
 refine (El.out _).mono ?_
 rintro e aQ ⟨rfl,aP⟩
 have hS:=ai I aP;have bG:=(fu.out.U aP fu.out.lt).bQ;have ve:=(fu.out.U aP fu.out.lt).lt;clear dj dY dV er eA fJ fK fL fM fN fI
 go_wp2_with fail
 refine (LP.out _ (iS.out.bh aP).rd.ft).mono ?_
 rintro e bA ⟨rfl,bC⟩
 have hB:=ai hS bC;have fQ:=ai aP bC;clear bG ve
 simp only [yf,Option.isSome_some,Option.isSome_none]
 go_upto_region 3 with fail
 obtain⟨sK,jl⟩ :∃b,b= bA.heap.size:=⟨_,rfl⟩
 have eO:=aC.new bA 89 #[(0:Int),.string ⟨#[]⟩,(0:Int),false,false,false,(0:Int)];have jc:=fQ.alloc fQ.size (.cells #[(0:Int),.string ⟨#[]⟩,(0:Int),false,false,false,(0:Int)] 89);have gu:=hB.alloc hB.size (.cells #[(0:Int),.string ⟨#[]⟩,(0:Int),false,false,false,(0:Int)] 89)
 rw [← jl] at eO
 generalize bA.alloc (.cells #[(0:Int),.string ⟨#[]⟩,(0:Int),false,false,false,(0:Int)] 89)= cf at *
 rw [← jl]
 clear jl;have bG:=(fu.out.U jc fu.out.lt).bQ;have JI:=(fu.out.U jc fu.out.lt).lt;have la:=J (iS.out.bh jc);have cM:=ev.out.U jc ev.out.lt;have dq:=J cM;have aq:=cM.bQ;have eM:=cM.gS;have hp:=cM.lt;clear cM
 go_wp2
 clear aq eM hp bG
 refine hE 0 fun cQ aD=>?_
 have bT:=aD.hV dq.out;have fE:=(la.out).gw dq.out aD.fG;have eE:=aD.aG gu;clear aD
 have z0:=bT.bQ
 refine bodyPost_ret (v:= .tuple #[.agg #[.slice an rs c0,.slice ar qs au,ag,af,sp,.slice ak ws c2,.slice al ad c3,.slice aA os c4,ct,cu,cr],.string (⟨#[63]⟩ :ByteArray)]) (by simp [results,Tryz.results111,go_sem,z0]) rfl ?_
 exact⟨⟨rs,qs,ag,af,sp,ws,ad,os,an,c0,ar,au,ak,c2,al,c3,aA,c4,_,rfl,J (zU.out),fE⟩,eE⟩):p:=h
theorem aml (B:Nat) (an ar ak al aA:Option Addr) (c0 au c2 c3 c4:Nat) (rs:List aM) (qs:List aN) (ag af sp:Int) (ws:List Int) (ad:List aK) (os:List Out) (ct cu:ByteArray) (cr:Int) (h:gP ⟨rs,qs,ag,af,sp,ws,ad,os⟩) (x y:ByteArray) (hy:y.size≤1048576) (w:World) (nV:B≤w.heap.size) (bR:gi B w an c0 ar au ak c2 al c3 aA c4 rs qs ws ad os):
 Calls Tryz.prog 111 #[.agg #[.slice an rs c0,.slice ar qs au,ag,af,sp,.slice ak ws c2,.slice al ad c3,.slice aA os c4,ct,cu,cr],x,y] w fun e ah=>BS B ct cu cr (Dd ⟨rs,qs,ag,af,sp,ws,ad,os⟩ x y) e ah∧Below w w ah:=by
 obtain⟨v,b,aE,bz,az⟩:=Hx y
 have El:=J (fun W=>HG y hy v b bz W)
 obtain⟨o,dd⟩ :∃o,uu rs x= o:=⟨_,rfl⟩
 have Z:=Hh bR h;have LP:=J (fun W (h1:aJ 7 aM.cells W an rs)=>apy an c0 rs Z.h0 (nd h.ho).1 x o dd W h1)
 have zU:Hid (Dd ⟨rs,qs,ag,af,sp,ws,ad,os⟩ x y= Kd ⟨rs,qs,ag,af,sp,ws,ad,os⟩ b v o):=J (by
  rw [Dd,aE,show uu (cF.bx ⟨rs,qs,ag,af,sp,ws,ad,os⟩) x= o from dd]
  cases o
  ·rfl
  ·cases b
   ·rfl
   ·rw [az rfl])
 have iu:=J h;have dp:=J bR;clear h bR Z aE bz az dd
 cases b
 ·rcases o with - | r
  ·exact acT
  ·skip
   go_in
   go_upto_region 1 with fail
   refine fp fun aH av aO ae=>?_
   have I:=av
   obtain⟨dj,dY,dV,er,eA,fJ,fK,fL,fM,fN,fI⟩:=aO.bQ
   obtain⟨z0,ch,z2,z3,z4,z5,fl,iH,iQ,z9,iP⟩:=ae.bQ;have ev:=J ae;have fu:=J aO;have qj:=aO.lt
   have sD:=ae.lt;have iS:=J (dp.out.bh I);clear z0 ch z2 z3 z4 z5 fl iH iQ z9 iP ae aO
   go_wp2_with fail
   refine (El.out _).mono ?_
   rintro e aQ ⟨rfl,aP⟩
   have hS:=ai I aP;have bG:=(fu.out.U aP fu.out.lt).bQ;have ve:=(fu.out.U aP fu.out.lt).lt;clear dj dY dV er eA fJ fK fL fM fN fI
   go_wp2_with fail
   refine (LP.out _ (iS.out.bh aP).rd.ft).mono ?_
   rintro e bA ⟨rfl,bC⟩
   have hB:=ai hS bC;have fQ:=ai aP bC;clear bG ve
   simp only [yf,Option.isSome_some,Option.isSome_none]
   go_upto_region 3 with fail
   obtain⟨sK,jl⟩ :∃b,b= bA.heap.size:=⟨_,rfl⟩
   have eO:=aC.new bA 89 #[r.id,r.name,r.gH,r.second,r.lN,r.mr,r.hv];have jc:=fQ.alloc fQ.size (.cells #[r.id,r.name,r.gH,r.second,r.lN,r.mr,r.hv] 89);have gu:=hB.alloc hB.size (.cells #[r.id,r.name,r.gH,r.second,r.lN,r.mr,r.hv] 89)
   rw [← jl] at eO
   generalize bA.alloc (.cells #[r.id,r.name,r.gH,r.second,r.lN,r.mr,r.hv] 89)= cf at *
   rw [← jl]
   clear jl;have bG:=(fu.out.U jc fu.out.lt).bQ;have JI:=(fu.out.U jc fu.out.lt).lt;have la:=J (iS.out.bh jc);have cM:=ev.out.U jc ev.out.lt;have dq:=J cM;have aq:=cM.bQ;have eM:=cM.gS;have hp:=cM.lt;clear cM
   go_wp2
   clear aq eM hp bG
   refine hE 0 fun cQ aD=>?_
   have bT:=aD.hV dq.out;have fE:=(la.out).gw dq.out aD.fG;have eE:=aD.aG gu;clear aD
   have z0:=bT.bQ
   refine bodyPost_ret (v:= .tuple #[.agg #[.slice an rs c0,.slice ar qs au,ag,af,sp,.slice ak ws c2,.slice al ad c3,.slice aA os c4,ct,cu,cr],.string (⟨#[63]⟩ :ByteArray)]) (by simp [results,Tryz.results111,go_sem,z0]) rfl ?_
   exact⟨⟨rs,qs,ag,af,sp,ws,ad,os,an,c0,ar,au,ak,c2,al,c3,aA,c4,_,rfl,J (zU.out),fE⟩,eE⟩
 ·rcases o with - | r
  ·exact acT
  ·skip
   go_in
   go_upto_region 1 with fail
   refine fp fun aH av aO ae=>?_
   have I:=av
   obtain⟨dj,dY,dV,er,eA,fJ,fK,fL,fM,fN,fI⟩:=aO.bQ
   obtain⟨z0,ch,z2,z3,z4,z5,fl,iH,iQ,z9,iP⟩:=ae.bQ;have ev:=J ae;have fu:=J aO;have qj:=aO.lt
   have sD:=ae.lt;have iS:=J (dp.out.bh I);clear z0 ch z2 z3 z4 z5 fl iH iQ z9 iP ae aO
   go_wp2_with fail
   refine (El.out _).mono ?_
   rintro e aQ ⟨rfl,aP⟩
   have hS:=ai I aP;have bG:=(fu.out.U aP fu.out.lt).bQ;have ve:=(fu.out.U aP fu.out.lt).lt;clear dj dY dV er eA fJ fK fL fM fN fI
   go_wp2_with fail
   refine (LP.out _ (iS.out.bh aP).rd.ft).mono ?_
   rintro e bA ⟨rfl,bC⟩
   have hB:=ai hS bC;have fQ:=ai aP bC;clear bG ve
   simp only [yf,Option.isSome_some,Option.isSome_none]
   go_upto_region 3 with fail
   obtain⟨sK,jl⟩ :∃b,b= bA.heap.size:=⟨_,rfl⟩
   have eO:=aC.new bA 89 #[r.id,r.name,r.gH,r.second,r.lN,r.mr,r.hv];have jc:=fQ.alloc fQ.size (.cells #[r.id,r.name,r.gH,r.second,r.lN,r.mr,r.hv] 89);have gu:=hB.alloc hB.size (.cells #[r.id,r.name,r.gH,r.second,r.lN,r.mr,r.hv] 89)
   rw [← jl] at eO
   generalize bA.alloc (.cells #[r.id,r.name,r.gH,r.second,r.lN,r.mr,r.hv] 89)= cf at *
   rw [← jl]
   clear jl;have bG:=(fu.out.U jc fu.out.lt).bQ;have JI:=(fu.out.U jc fu.out.lt).lt;have la:=J (iS.out.bh jc);have n0:=(eO.cell 0).trans (show _= some (.int .i64 r.id) from rfl);have pa:=eO.lt
   go_wp2_with fail
   refine (xP B an ar ak al aA c0 au c2 c3 c4 rs qs ag af sp ws ad os ct cu cr iu.out 1 v r.id 0 0 0 (⟨#[111,107]⟩ :ByteArray) _ (by have:=gu.size;omega) la.out).mono ?_
   rintro e dE ⟨⟨dn,dB,dO,dN,dG,bX,cc,dm,cI,e0,cC,e1,cV,e2,cW,e3,cL,e4,mQ,rfl,da,jy⟩,ek⟩
   have mq:=J jy;clear jy;have kQ:=ai jc ek;have lO:=ai gu ek;clear bG n0 eO pa;have cM:=ev.out.U kQ ev.out.lt;have dq:=J cM;have aq:=cM.bQ;have eM:=cM.gS;have hp:=cM.lt;clear cM
   go_wp2
   clear aq eM hp
   refine hE 0 fun cQ aD=>?_
   have bT:=aD.hV dq.out;have fE:=(mq.out).gw dq.out aD.fG;have eE:=aD.aG lO;clear aD
   have z0:=bT.bQ
   refine bodyPost_ret (v:= .tuple #[.agg #[.slice cI dn e0,.slice cC dB e1,dO,dN,dG,.slice cV bX e2,.slice cW cc e3,.slice cL dm e4,ct,cu,cr],mQ]) (by simp [results,Tryz.results111,go_sem,z0]) rfl ?_
   exact⟨⟨dn,dB,dO,dN,dG,bX,cc,dm,cI,e0,cC,e1,cV,e2,cW,e3,cL,e4,_,rfl,J (zU.out.trans (XY.trans da.out)),fE⟩,eE⟩
theorem aoy {w:World} {A:Option Addr} {x y z:ByteArray} (h:aJ 1 hj w A [x,y,z]):∃b o,A= some ⟨b,o,none⟩∧b < w.heap.size∧w.cell? ⟨b,o,none⟩ =some (.string x)∧w.cell? ⟨b,o + 1,none⟩ =some (.string y)∧w.cell? ⟨b,o + 2,none⟩ =some (.string z):=by
 obtain⟨b,o,e,aE,aG⟩:=h (by simp)
 exact⟨b,o,e,aE,by simpa using aG 0 x rfl 0 _ rfl,by simpa using aG 1 y rfl 0 _ rfl,by simpa using aG 2 z rfl 0 _ rfl⟩
def Bs (m:cF) (x y z:ByteArray):cF×ByteArray:=if fh x && (fh y && fh z) then sh m ⟨7,0,0,hg x.data.toList,hg y.data.toList,hg z.data.toList⟩ else (m,(⟨#[63]⟩ :ByteArray))
theorem SM {m:cF} {a:ou} (h:gE m a= none):sh m a= (m,(⟨#[63]⟩ :ByteArray)):=by rw [sh,h]
theorem afz {m n:cF} {x y z:Int} (h:gE m ⟨7,0,0,x,y,z⟩ =some n):sh m ⟨7,0,0,x,y,z⟩ =(n,if Hd n then (⟨#[97,100,111,112,116,101,100]⟩ :ByteArray) else (⟨#[108,111,115,116]⟩ :ByteArray)):=by
 rw [sh,h]
 show (n,pQ n 7)= _
 rw [pQ,if_neg (by decide),if_pos rfl]
theorem Rn {p:Prop} (h:p:=by
 skip
 have cM:=ev.out.U jc ev.out.lt;have dq:=J cM;have aq:=cM.bQ;have eM:=cM.gS;have hp:=cM.lt;clear cM
 go_wp2
 clear aq eM hp bG
 refine hE 0 fun cQ aD=>?_
 have bT:=aD.hV dq.out;have fE:=(la.out).gw dq.out aD.fG;have eE:=aD.aG gu;clear aD
 have z0:=bT.bQ
 refine bodyPost_ret (v:= .tuple #[.agg #[.slice an rs c0,.slice ar qs au,ag,af,sp,.slice ak ws c2,.slice al ad c3,.slice aA os c4,ct,cu,cr],.string (⟨#[63]⟩ :ByteArray)]) (by simp [results,Tryz.results112,go_sem,z0]) rfl ?_
 exact⟨⟨rs,qs,ag,af,sp,ws,ad,os,an,c0,ar,au,ak,c2,al,c3,aA,c4,_,rfl,J (LY.out),fE⟩,eE⟩):p:=h
theorem abQ {p:Prop} (h:p:=by
 exact⟨⟨dn,dB,dO,dN,dG,bX,cc,dm,cI,e0,cC,e1,cV,e2,cW,e3,cL,e4,_,rfl,J (Ss.out),fE⟩,eE⟩):p:=h
theorem aby {p:Prop} (h:p:=by
 exact⟨⟨dn,dB,dO,dN,dG,bX,cc,dm,cI,e0,cC,e1,cV,e2,cW,e3,some ⟨kN,off,none⟩,e4,_,rfl,J (RO.out),fE⟩,eE⟩):p:=h
theorem amo (B:Nat) (an ar ak al aA:Option Addr) (c0 au c2 c3 c4:Nat) (rs:List aM) (qs:List aN) (ag af sp:Int) (ws:List Int) (ad:List aK) (os:List Out) (ct cu:ByteArray) (cr:Int) (h:gP ⟨rs,qs,ag,af,sp,ws,ad,os⟩) (A:Option Addr) (ur:Nat) (x y z:ByteArray) (ay:x.size≤1048576) (hy:y.size≤1048576) (cb:z.size≤1048576) (w:World) (nV:B≤w.heap.size) (bR:gi B w an c0 ar au ak c2 al c3 aA c4 rs qs ws ad os) (EU:aJ 1 hj w A [x,y,z]):
 Calls Tryz.prog 112 #[.agg #[.slice an rs c0,.slice ar qs au,ag,af,sp,.slice ak ws c2,.slice al ad c3,.slice aA os c4,ct,cu,cr],.slice A 3 ur] w fun e ah=>BS B ct cu cr (Bs ⟨rs,qs,ag,af,sp,ws,ad,os⟩ x y z) e ah∧Below w w ah:=by
 obtain⟨v1,ds,bE,wh,tr⟩:=Hx x
 obtain⟨v2,du,aP,Az,pI⟩:=Hx y
 obtain⟨v3,ew,bC,Wj,Ws⟩:=Hx z
 have Ej:=J (fun W=>HG x ay v1 ds wh W);have Ek:=J (fun W=>HG y hy v2 du Az W);have aeW:=J (fun W=>HG z cb v3 ew Wj W)
 have LY:Hid (Bs ⟨rs,qs,ag,af,sp,ws,ad,os⟩ x y z= if ds && (du && ew) then sh ⟨rs,qs,ag,af,sp,ws,ad,os⟩ ⟨7,0,0,v1,v2,v3⟩ else (⟨rs,qs,ag,af,sp,ws,ad,os⟩,(⟨#[63]⟩ :ByteArray))):=J (by
  rw [Bs,bE,aP,bC]
  cases ds
  ·rfl
  cases du
  ·rfl
  cases ew
  ·rfl
  rw [tr rfl,pI rfl,Ws rfl])
 obtain⟨ly,wo,rfl,Cx,g0,g1,g2⟩:=aoy EU
 have hx:=J (And.intro g0 (And.intro g1 g2));have sS:=J Cx;have iu:=J h;have dp:=J bR;clear h bR bE aP bC wh Az Wj tr pI Ws g0 g1 g2 Cx EU
 go_in
 go_upto_region 1 with fail
 refine fp fun aH av aO ae=>?_
 have I:=av
 obtain⟨dj,dY,dV,er,eA,fJ,fK,fL,fM,fN,fI⟩:=aO.bQ
 obtain⟨z0,ch,z2,z3,z4,z5,fl,iH,iQ,z9,iP⟩:=ae.bQ;have ev:=J ae;have fu:=J aO;have qj:=aO.lt
 have sD:=ae.lt;have iS:=J (dp.out.bh I);clear z0 ch z2 z3 z4 z5 fl iH iQ z9 iP ae aO dj dY dV er eA fJ fK fL fM fN fI;have g0:=(I.cell (p:=⟨ly,_,none⟩) sS.out).trans hx.out.1;have pc:ly < aH.heap.size:=Nat.lt_of_lt_of_le sS.out I.size
 go_wp2_with fail
 refine (Ej.out _).mono ?_
 rintro e aQ ⟨rfl,aP⟩
 have hS:=ai I aP;clear g0 pc;have g1:=(hS.cell (p:=⟨ly,_,none⟩) sS.out).trans hx.out.2.1;have pc:ly < aQ.heap.size:=Nat.lt_of_lt_of_le sS.out hS.size
 go_wp2_with fail
 refine (Ek.out _).mono ?_
 rintro e bA ⟨rfl,bC⟩
 have hB:=ai hS bC;have fQ:=ai aP bC;clear g1 pc;have g2:=(hB.cell (p:=⟨ly,_,none⟩) sS.out).trans hx.out.2.2;have pc:ly < bA.heap.size:=Nat.lt_of_lt_of_le sS.out hB.size
 go_wp2_with fail
 refine (aeW.out _).mono ?_
 rintro e cf ⟨rfl,cZ⟩
 have gu:=ai hB cZ;have jc:=ai fQ cZ;clear g2 pc;have bG:=(fu.out.U jc fu.out.lt).bQ;have JI:=(fu.out.U jc fu.out.lt).lt;have la:=J (iS.out.bh jc)
 go_upto_region 4 with fail
 cases ds
 ·exact Rn
 cases du
 ·exact Rn
 cases ew
 ·exact Rn
 go_wp2_with fail
 refine (xP B an ar ak al aA c0 au c2 c3 c4 rs qs ag af sp ws ad os ct cu cr iu.out 7 0 0 v1 v2 v3 (⟨#[108,111,115,116]⟩ :ByteArray) _ (by have:=gu.size;omega) la.out).mono ?_
 rintro e dE ⟨⟨dn,dB,dO,dN,dG,bX,cc,dm,cI,e0,cC,e1,cV,e2,cW,e3,cL,e4,mQ,rfl,da,jy⟩,ek⟩
 have mq:=J jy;clear jy;have kQ:=ai jc ek;have lO:=ai gu ek;clear bG JI
 go_upto_region 7 with fail
 obtain⟨cH,mF⟩ :∃b,b= dE.heap.size:=⟨_,rfl⟩
 have eO:=aC.new dE 46 #[.slice cI dn e0,.slice cC dB e1,dO,dN,dG,.slice cV bX e2,.slice cW cc e3,.slice cL dm e4,ct,cu,cr];have tj:=kQ.alloc kQ.size (.cells #[.slice cI dn e0,.slice cC dB e1,dO,dN,dG,.slice cV bX e2,.slice cW cc e3,.slice cL dm e4,ct,cu,cr] 46)
 have Cm:=lO.alloc lO.size (.cells #[.slice cI dn e0,.slice cC dB e1,dO,dN,dG,.slice cV bX e2,.slice cW cc e3,.slice cL dm e4,ct,cu,cr] 46);have tZ:=mq.out.bh (ca dE (.cells #[.slice cI dn e0,.slice cC dB e1,dO,dN,dG,.slice cV bX e2,.slice cW cc e3,.slice cL dm e4,ct,cu,cr] 46))
 rw [← mF] at eO
 generalize dE.alloc (.cells #[.slice cI dn e0,.slice cC dB e1,dO,dN,dG,.slice cV bX e2,.slice cW cc e3,.slice cL dm e4,ct,cu,cr] 46)= hX at *
 rw [← mF]
 clear mF;have oh:=eO.bQ;have pa:=eO.lt;have BG:=J tZ;clear mq eO
 cases hm:gE ⟨rs,qs,ag,af,sp,ws,ad,os⟩ ⟨7,0,0,v1,v2,v3⟩ with
 | none=>
  have e:=da.out
  rw [og,hm] at e
  have Ss:Hid (Bs ⟨rs,qs,ag,af,sp,ws,ad,os⟩ x y z= (⟨dn,dB,dO,dN,dG,bX,cc,dm⟩,(⟨#[63]⟩ :ByteArray))):=J (LY.out.trans ((SM hm).trans (by injection e with e1 e2;rw [e1])))
  obtain rfl:(⟨#[63]⟩ :ByteArray)= mQ:=(Prod.mk.inj e).2
  clear e hm tZ
  have bf:((⟨#[63]⟩ :ByteArray).toList == [108,111,115,116])= false:=by decide +kernel
  have cM:=ev.out.U tj ev.out.lt;have dq:=J cM;have aq:=cM.bQ;have eM:=cM.gS;have hp:=cM.lt;clear cM
  go_wp2
  clear aq eM hp oh pa bf
  refine hE 0 fun cQ aD=>?_
  have bT:=aD.hV dq.out;have fE:=(BG.out).gw dq.out aD.fG;have eE:=aD.aG Cm;clear aD
  have z0:=bT.bQ
  refine bodyPost_ret (v:= .tuple #[.agg #[.slice cI dn e0,.slice cC dB e1,dO,dN,dG,.slice cV bX e2,.slice cW cc e3,.slice cL dm e4,ct,cu,cr],.string (⟨#[63]⟩ :ByteArray)]) (by simp [results,Tryz.results112,go_sem,z0]) rfl ?_
  exact abQ
 | some k=>
  have e:=da.out
  rw [og,hm] at e
  obtain rfl:(⟨#[108,111,115,116]⟩ :ByteArray)= mQ:=(Prod.mk.inj e).2
  have ax:=(Prod.mk.inj e).1
  rw [ax] at hm
  have we:0 < dm.length:=XS hm rfl
  have tq:dm.length≤1048576:=by have:=(tv (Kc iu.out hm)).2.2.2.2;simp only at this;omega
  have RO:=J (LY.out.trans (afz hm))
  obtain⟨j,bI⟩ :∃j,j + 1= dm.length:=⟨dm.length - 1,by omega⟩
  obtain⟨kN,off,o,rfl,dU,dd,Vp⟩:=tZ.rd.lF.at_ (Below.refl _ _) (k:=j) (by omega)
  have mE:Hd ⟨dn,dB,dO,dN,dG,bX,cc,dm⟩ =o.hz:=by simp only [Hd,← bI,Nat.add_sub_cancel,dd]
  have u2:=Vp 2 _ rfl (aB.self _)
  simp only [aB.self] at u2
  obtain⟨tx,kT⟩ :∃b,o.hz= b:=⟨_,rfl⟩
  rw [kT] at u2 mE
  rw [mE] at RO
  have CC:((dm.length:Int) - 1)= (j:Int):=by omega
  have ie:j < dm.length:=by omega
  have bf:((⟨#[108,111,115,116]⟩ :ByteArray).toList == [108,111,115,116])= true:=by decide +kernel
  clear e hm tZ ax we bI dd Vp mE kT
  cases tx
  ·skip
   have cM:=ev.out.U tj ev.out.lt;have dq:=J cM;have aq:=cM.bQ;have eM:=cM.gS;have hp:=cM.lt;clear cM
   go_wp2
   clear aq eM hp oh pa bf u2 CC ie tq
   refine hE 0 fun cQ aD=>?_
   have bT:=aD.hV dq.out;have fE:=(BG.out).gw dq.out aD.fG;have eE:=aD.aG Cm;clear aD
   have z0:=bT.bQ
   refine bodyPost_ret (v:= .tuple #[.agg #[.slice cI dn e0,.slice cC dB e1,dO,dN,dG,.slice cV bX e2,.slice cW cc e3,.slice (some ⟨kN,off,none⟩) dm e4,ct,cu,cr],.string (⟨#[108,111,115,116]⟩ :ByteArray)]) (by simp [results,Tryz.results112,go_sem,z0]) rfl ?_
   exact aby
  ·skip
   have cM:=ev.out.U tj ev.out.lt;have dq:=J cM;have aq:=cM.bQ;have eM:=cM.gS;have hp:=cM.lt;clear cM
   go_wp2
   clear aq eM hp oh pa bf u2 CC ie tq
   refine hE 0 fun cQ aD=>?_
   have bT:=aD.hV dq.out;have fE:=(BG.out).gw dq.out aD.fG;have eE:=aD.aG Cm;clear aD
   have z0:=bT.bQ
   refine bodyPost_ret (v:= .tuple #[.agg #[.slice cI dn e0,.slice cC dB e1,dO,dN,dG,.slice cV bX e2,.slice cW cc e3,.slice (some ⟨kN,off,none⟩) dm e4,ct,cu,cr],.string (⟨#[97,100,111,112,116,101,100]⟩ :ByteArray)]) (by simp [results,Tryz.results112,go_sem,z0]) rfl ?_
   exact aby
open Go.RowKit Go.G9
def tK (m:cF):Nat→cF×ByteArray
 | 0=>sh m ⟨4,0,0,0,0,0⟩
 | 1=>og m ⟨6,0,0,0,0,0⟩ (⟨#[111,107]⟩ :ByteArray)
 | 2=>og m ⟨9,0,0,0,0,0⟩ (⟨#[111,107]⟩ :ByteArray)
 | 3=>(m,lk (m.bH.map (ln m.bx)))
 | 4=>(m,lk ((ht m.bx m.bH).map (lD m.bx)))
 | 5=>(m,pe (kF m.gz))
 | 6=>(m,pe (ki m.bt m.bt.length))
 | _=>(m,(⟨#[63]⟩ :ByteArray))
theorem aau (m:cF) (i:Nat) (h0:i≠0) (h1:i≠1) (h2:i≠2) (h3:i≠3) (h4:i≠4) (h5:i≠5) (h6:i≠6):tK m i= (m,(⟨#[63]⟩ :ByteArray)):=by
 unfold tK
 split <;> first | rfl | (exfalso;omega)
theorem afy {m n:cF} (h:gE m ⟨4,0,0,0,0,0⟩ =some n):sh m ⟨4,0,0,0,0,0⟩ =(n,eT n.dH):=by
 rw [sh,h]
 show (n,pQ n 4)= _
 rw [pQ,if_pos rfl]
theorem abl {p:Prop} (h:p:=by
 rintro e aQ ⟨⟨dn,dB,dO,dN,dG,bX,cc,dm,cI,e0,cC,e1,cV,e2,cW,e3,cL,e4,y,rfl,da,jy⟩,aP⟩
 have mq:=J jy;clear jy;have hS:=ai yr aP;have cM:=ev.out.U aP ev.out.lt;have dq:=J cM;have aq:=cM.bQ;have eM:=cM.gS;have hp:=cM.lt;clear cM
 go_wp2
 clear aq eM hp
 refine hE 0 fun cQ aD=>?_
 have bT:=aD.hV dq.out;have fE:=(mq.out).gw dq.out aD.fG;have eE:=aD.aG hS;clear aD
 have z0:=bT.bQ
 refine bodyPost_ret (v:= .tuple #[.agg #[.slice cI dn e0,.slice cC dB e1,dO,dN,dG,.slice cV bX e2,.slice cW cc e3,.slice cL dm e4,ct,cu,cr],y]) (by simp [results,Tryz.results110,go_sem,z0]) rfl ?_
 exact⟨⟨dn,dB,dO,dN,dG,bX,cc,dm,cI,e0,cC,e1,cV,e2,cW,e3,cL,e4,_,rfl,J (da.out),fE⟩,eE⟩):p:=h
theorem amq (B:Nat) (an ar ak al aA:Option Addr) (c0 au c2 c3 c4:Nat) (rs:List aM) (qs:List aN) (ag af sp:Int) (ws:List Int) (ad:List aK) (os:List Out) (ct cu:ByteArray) (cr:Int) (h:gP ⟨rs,qs,ag,af,sp,ws,ad,os⟩) (s:ByteArray) (w:World) (nV:B≤w.heap.size) (bR:gi B w an c0 ar au ak c2 al c3 aA c4 rs qs ws ad os):
 Calls Tryz.prog 110 #[.agg #[.slice an rs c0,.slice ar qs au,ag,af,sp,.slice ak ws c2,.slice al ad c3,.slice aA os c4,ct,cu,cr],s] w fun e ah=>BS B ct cu cr (tK ⟨rs,qs,ag,af,sp,ws,ad,os⟩ (eG s)) e ah∧Below w w ah:=by
 have cD:=Cb s
 generalize eG s= i at *
 obtain⟨f0,f1,f2,f3,f4,f5,f6,-,-,-,-,-,-,-,-⟩:=cD
 have Z:=Hh bR h;have aT:=tv h
 simp only at aT
 obtain⟨Oo,wb,Gs,Gt,Gu⟩:=aT
 have LO:=J (fun W (h1:aJ 7 aM.cells W an rs) (h2:aJ 3 aN.cells W ar qs)=>aqj an c0 rs Z.h0 ar au qs Z.h1 h.ho W h1 h2);have aeG:=J (fun W (h1:aJ 7 aM.cells W an rs) (h2:aJ 3 aN.cells W ar qs)=>apT an c0 ar au ak c2 al c3 aA c4 rs qs ag af sp ws ad os (by omega) Z.h1 h.ho W h1 h2);have lX:=J (fun W (h1:aJ 1 bU W ak ws) (h2:aJ 3 aK.cells W al ad)=>aqo ag af sp ak c2 ws al c3 ad Z.h2 Z.h3 Z.n2 Z.n3 Z.cm h.gz W h1 h2)
 have lQ:=Dc.2 h;have zM:=J (fun W (dv:dL W an ar ak al aA rs qs ws ad os)=>apt ⟨rs,qs,ag,af,sp,ws,ad,os⟩ an ar ak al aA c0 au c2 c3 c4 Z.h0 Z.h1 Z.h2 Z.h3 Z.h4 W dv.ft dv.dz dv.r2 dv.gG dv.lF Z.dP Z.eh Z.cm Z.dS Z.gD)
 rw [lQ,show oW ⟨rs,qs,ag,af,sp,ws,ad,os⟩ =ki os os.length by rw [oW,if_pos lQ]] at zM
 have rE:(qs.map (ln rs)).length≤1000:=by rw [List.length_map];omega
 have LU:=J (show∀x ∈ qs.map (ln rs),x.size≤1000 from fun x ay=>by obtain⟨q,_,rfl⟩:=List.mem_map.1 ay;have:=Kl (nd h.ho).1 q.fU;unfold ln;simp only at this;omega);have ju:=PA (rs:=rs) (qs:=qs)
 have Oy:((ht rs qs).map (lD rs)).length≤1000:=by rw [List.length_map];omega
 have afe:=J (show∀x ∈ (ht rs qs).map (lD rs),x.size≤1000 from fun x ay=>by obtain⟨q,_,rfl⟩:=List.mem_map.1 ay;have:=Kl (nd h.ho).1 q;simp only at this;omega);have Iu:=J (ZP h);have zf:=DA (cF.gz ⟨rs,qs,ag,af,sp,ws,ad,os⟩);have Sl:=J (SR h);have NP:=Aa os os.length;have afh:Hid (tK ⟨rs,qs,ag,af,sp,ws,ad,os⟩ 3= (⟨rs,qs,ag,af,sp,ws,ad,os⟩,lk (qs.map (ln rs)))):=J rfl
 have Ma:Hid (tK ⟨rs,qs,ag,af,sp,ws,ad,os⟩ 4= (⟨rs,qs,ag,af,sp,ws,ad,os⟩,lk ((ht rs qs).map (lD rs)))):=J rfl;have afi:Hid (tK ⟨rs,qs,ag,af,sp,ws,ad,os⟩ 5= (⟨rs,qs,ag,af,sp,ws,ad,os⟩,pe (kF ⟨ag,af,sp,ws,ad⟩))):=J rfl;have Ix:Hid (tK ⟨rs,qs,ag,af,sp,ws,ad,os⟩ 6= (⟨rs,qs,ag,af,sp,ws,ad,os⟩,pe (ki os os.length))):=J rfl
 simp only [cF.gz] at Iu zf
 simp only at Sl zM
 generalize qs.map (ln rs)= HU at *
 generalize (ht rs qs).map (lD rs)= Ld at *
 generalize kF ⟨ag,af,sp,ws,ad⟩ =QU at *
 generalize ki os os.length= QV at *
 have ajt:QU.length≤100:=by omega
 have We:QV.length≤100:=by omega
 have iu:=J h;have dp:=J bR;clear h bR Z lQ ju zf NP Oo wb Gs Gt Gu
 go_in
 go_upto_region 1 with fail
 refine fp fun aH av aO ae=>?_
 have I:=av;have bG:=aO.bQ;obtain⟨z0,ch,z2,z3,z4,z5,fl,iH,iQ,z9,iP⟩:=ae.bQ;have Me:=J ae;have Mb:=J aO;have qj:=aO.lt
 have sD:=ae.lt;have Si:=J (dp.out.bh I);clear z0 ch z2 z3 z4 z5 fl iH iQ z9 iP ae aO dp
 go_upto_region 2 with fail
 obtain⟨sF,lQ⟩ :∃b,b= aH.heap.size:=⟨_,rfl⟩
 have aY:=aC.new aH 44 #[.slice an rs c0,.slice ar qs au,ag,af,sp,.slice ak ws c2,.slice al ad c3,.slice aA os c4];have bE:Below aH aH (aH.alloc (.cells #[.slice an rs c0,.slice ar qs au,ag,af,sp,.slice ak ws c2,.slice al ad c3,.slice aA os c4] 44)):=ca _ _
 rw [← lQ] at aY
 generalize aH.alloc (.cells #[.slice an rs c0,.slice ar qs au,ag,af,sp,.slice ak ws c2,.slice al ad c3,.slice aA os c4] 44)= bg at *
 rw [← lQ]
 have sA:sF≠w.heap.size + 1:=by omega
 clear lQ bG qj sD;have yr:=ai I bE;have fu:=J (Mb.out.U bE Mb.out.lt);have ev:=J (Me.out.U bE Me.out.lt);have iS:=J (Si.out.bh bE);have sa:=J aY
 have vV:B≤bg.heap.size:=by have:=yr.size;omega
 have qj:=fu.out.lt;have ju:=sa.out.lt;have bG:=fu.out.bQ;have hN:=sa.out.aI;clear Mb Me Si aY bE
 by_cases h0:i= 0
 ·subst h0
  simp only [Nat.reduceBEq] at f0 f1 f2 f3 f4 f5 f6
  clear hN ju
  go_wp2_with fail
  refine (xP B an ar ak al aA c0 au c2 c3 c4 rs qs ag af sp ws ad os ct cu cr iu.out 4 0 0 0 0 0 (⟨#[111,107]⟩ :ByteArray) _ vV iS.out).mono ?_
  rintro e dE ⟨⟨dn,dB,dO,dN,dG,bX,cc,dm,cI,e0,cC,e1,cV,e2,cW,e3,cL,e4,mQ,rfl,da,jy⟩,kQ⟩
  have mq:=J jy;clear jy;have lO:=ai yr kQ;clear bG qj
  go_upto_region 5 with fail
  obtain⟨cH,mF⟩ :∃b,b= dE.heap.size:=⟨_,rfl⟩
  have eO:=aC.new dE 46 #[.slice cI dn e0,.slice cC dB e1,dO,dN,dG,.slice cV bX e2,.slice cW cc e3,.slice cL dm e4,ct,cu,cr];have tj:=kQ.alloc kQ.size (.cells #[.slice cI dn e0,.slice cC dB e1,dO,dN,dG,.slice cV bX e2,.slice cW cc e3,.slice cL dm e4,ct,cu,cr] 46)
  have Cm:=lO.alloc lO.size (.cells #[.slice cI dn e0,.slice cC dB e1,dO,dN,dG,.slice cV bX e2,.slice cW cc e3,.slice cL dm e4,ct,cu,cr] 46);have tZ:=mq.out.bh (ca dE (.cells #[.slice cI dn e0,.slice cC dB e1,dO,dN,dG,.slice cV bX e2,.slice cW cc e3,.slice cL dm e4,ct,cu,cr] 46))
  rw [← mF] at eO
  generalize dE.alloc (.cells #[.slice cI dn e0,.slice cC dB e1,dO,dN,dG,.slice cV bX e2,.slice cW cc e3,.slice cL dm e4,ct,cu,cr] 46)= hX at *
  rw [← mF]
  clear mF;have oh:=eO.bQ;have pa:=eO.lt;have BG:=J tZ;have yv:=J eO;clear mq eO tZ
  cases hm:gE ⟨rs,qs,ag,af,sp,ws,ad,os⟩ ⟨4,0,0,0,0,0⟩ with
  | none=>
   have e:=da.out
   rw [og,hm] at e
   have Ss:Hid (tK ⟨rs,qs,ag,af,sp,ws,ad,os⟩ 0= (⟨dn,dB,dO,dN,dG,bX,cc,dm⟩,(⟨#[63]⟩ :ByteArray))):=J ((SM hm).trans (by injection e with e1 e2;rw [e1]))
   obtain rfl:(⟨#[63]⟩ :ByteArray)= mQ:=(Prod.mk.inj e).2
   clear e hm
   have bf:((⟨#[63]⟩ :ByteArray).toList == [111,107])= false:=by decide +kernel
   have cM:=ev.out.U tj ev.out.lt;have dq:=J cM;have aq:=cM.bQ;have eM:=cM.gS;have hp:=cM.lt;clear cM
   go_wp2
   clear aq eM hp oh pa bf
   refine hE 0 fun cQ aD=>?_
   have bT:=aD.hV dq.out;have fE:=(BG.out).gw dq.out aD.fG;have eE:=aD.aG Cm;clear aD
   have z0:=bT.bQ
   refine bodyPost_ret (v:= .tuple #[.agg #[.slice cI dn e0,.slice cC dB e1,dO,dN,dG,.slice cV bX e2,.slice cW cc e3,.slice cL dm e4,ct,cu,cr],.string (⟨#[63]⟩ :ByteArray)]) (by simp [results,Tryz.results110,go_sem,z0]) rfl ?_
   exact abQ
  | some k=>
   have e:=da.out
   rw [og,hm] at e
   obtain rfl:(⟨#[111,107]⟩ :ByteArray)= mQ:=(Prod.mk.inj e).2
   have ax:=(Prod.mk.inj e).1
   rw [ax] at hm
   have oc:-999999≤dG∧dG≤999999:=XT iu.out hm;have aej:Hid (tK ⟨rs,qs,ag,af,sp,ws,ad,os⟩ 0= (⟨dn,dB,dO,dN,dG,bX,cc,dm⟩,eT dG)):=J (afy hm)
   have bf:((⟨#[111,107]⟩ :ByteArray).toList == [111,107])= true:=by decide +kernel
   clear e hm ax
   go_wp2_with fail
   refine (qT dG (by omega) (by omega) _).mono ?_
   rintro e zA ⟨rfl,uB⟩
   have NJ:=ai tj uB;have Ah:=ai Cm uB;clear oh pa;have oh:=(yv.out.U uB yv.out.lt).bQ;have pa:=(yv.out.U uB yv.out.lt).lt;have cM:=ev.out.U NJ ev.out.lt;have dq:=J cM;have aq:=cM.bQ;have eM:=cM.gS;have hp:=cM.lt;clear cM
   go_wp2
   clear aq eM hp oh pa bf
   refine hE 0 fun cQ aD=>?_
   have bT:=aD.hV dq.out;have fE:=(BG.out.bh uB).gw dq.out aD.fG;have eE:=aD.aG Ah;clear aD
   have z0:=bT.bQ
   refine bodyPost_ret (v:= .tuple #[.agg #[.slice cI dn e0,.slice cC dB e1,dO,dN,dG,.slice cV bX e2,.slice cW cc e3,.slice cL dm e4,ct,cu,cr],.string (eT dG)]) (by simp [results,Tryz.results110,go_sem,z0]) rfl ?_
   exact⟨⟨dn,dB,dO,dN,dG,bX,cc,dm,cI,e0,cC,e1,cV,e2,cW,e3,cL,e4,_,rfl,J (aej.out),fE⟩,eE⟩
 by_cases h1:i= 1
 ·subst h1
  simp only [Nat.reduceBEq] at f0 f1 f2 f3 f4 f5 f6
  clear hN ju
  go_wp2_with fail
  refine (xP B an ar ak al aA c0 au c2 c3 c4 rs qs ag af sp ws ad os ct cu cr iu.out 6 0 0 0 0 0 (⟨#[111,107]⟩ :ByteArray) _ vV iS.out).mono ?_
  exact abl
 by_cases h2:i= 2
 ·subst h2
  simp only [Nat.reduceBEq] at f0 f1 f2 f3 f4 f5 f6
  clear hN ju
  go_wp2_with fail
  refine (xP B an ar ak al aA c0 au c2 c3 c4 rs qs ag af sp ws ad os ct cu cr iu.out 9 0 0 0 0 0 (⟨#[111,107]⟩ :ByteArray) _ vV iS.out).mono ?_
  exact abl
 by_cases h3:i= 3
 ·subst h3
  simp only [Nat.reduceBEq] at f0 f1 f2 f3 f4 f5 f6
  go_wp2_with fail
  refine (LO.out _ iS.out.rd.ft iS.out.rd.dz).mono ?_
  rintro e aQ ⟨D,d,rfl,gQ,aP⟩
  have hS:=ai yr aP;have hs:=J (iS.out.bh aP);have ky:=J gQ;clear gQ hN ju
  go_upto_region 14 with fail
  have ix:=fu.out.U aP fu.out.lt
  obtain⟨eL,gB⟩ :∃X:World→Prop,∀V,X V↔aC V (w.heap.size) 46 #[.slice an rs c0,.slice ar qs au,ag,af,sp,.slice ak ws c2,.slice al ad c3,.slice aA os c4,ct,cu,cr]:=⟨_,fun _=>Iff.rfl⟩
  have db:=J gB;clear gB
  haveI:Nonempty (cP eL):=⟨⟨aQ,(db.out _).2 ix⟩⟩
  refine oP eL [([0,1],2),([],3)] [4] (by kernel_rfl) (by kernel_rfl) ((db.out _).2 ix) ?_
  clear bG;have bG:=aC.ru (fun K:cP eL=>(db.out _).1 K.holds);have gL:Below w w aQ.drew:=ai hS (Below.refl _ _).drew;have nX:aC aQ.drew (w.heap.size) 46 #[.slice an rs c0,.slice ar qs au,ag,af,sp,.slice ak ws c2,.slice al ad c3,.slice aA os c4,ct,cu,cr]:=ix;have pD:=ev.out.U aP ev.out.lt
  have lZ:Hid (aC aQ.drew (w.heap.size + 1) 46 #[.slice none 0 0,.slice none 0 0,(0:Int),(0:Int),(0:Int),.slice none 0 0,.slice none 0 0,.slice none 0 0,.string ⟨#[]⟩,.string ⟨#[]⟩,(0:Int)]):=J pD;have oA:=J (hs.out.bh (Below.refl _ _).drew);clear ix pD;have DW:=J (ky.out.bh (Below.refl _ _).drew)
  generalize aQ.drew= wd at *
  refine gZ fun gr dX=>?_
  change wpQuiet _ _ _ _ (_ ::_ ::[]) _
  repeat (go_big_quiet_step (fail))
  refine wpQuiet_nil ?_
  change wpList _ _ _ (_ ::[]) _ _
  go_wp2_with fail
  refine (Pr D d HU rE LU.out _ (DW.out.fk (hf:=jM))).mono ?_
  rintro e bA ⟨rfl,bC⟩
  have hB:=ai gL bC;have fQ:=nX.to bC
  go_wp2
  refine hh ((db.out _).2 fQ) (dX _ _ ?_)
  refine gZ fun gr dX=>?_
  change wpQuiet _ _ _ _ ([]) _
  refine wpQuiet_nil ?_
  change wpList _ _ _ (_ ::[]) _ _
  have dq:=J (lZ.out.U bC lZ.out.lt);have aq:=dq.out.bQ;have eM:=dq.out.gS;have hp:=dq.out.lt
  go_wp2
  clear aq eM hp
  refine hE 0 fun cQ aD=>?_
  have ec:=aD.dJ (fQ);have bT:=aD.hV dq.out;have fE:=(oA.out.bh bC).gw dq.out aD.fG;have eE:=aD.aG hB;clear aD
  refine hh ((db.out _).2 ec) (dX _ _ ?_)
  refine mg ?_
  change wpQuiet _ _ _ _ (_ ::[]) _
  repeat (go_big_quiet_step (fail))
  refine wpQuiet_nil ?_
  clear bG
  go_wp2
  have z0:=bT.bQ
  refine bodyPost_ret (v:= .tuple #[.agg #[.slice an rs c0,.slice ar qs au,ag,af,sp,.slice ak ws c2,.slice al ad c3,.slice aA os c4,ct,cu,cr],.string (lk HU)]) (by simp [results,Tryz.results110,go_sem,z0]) rfl ?_
  exact⟨⟨rs,qs,ag,af,sp,ws,ad,os,an,c0,ar,au,ak,c2,al,c3,aA,c4,_,rfl,J (afh.out),fE⟩,eE⟩
 by_cases h4:i= 4
 ·subst h4
  simp only [Nat.reduceBEq] at f0 f1 f2 f3 f4 f5 f6
  clear hN ju
  go_upto_region 16 with fail
  have ix:=And.intro sa.out fu.out
  obtain⟨eL,gB⟩ :∃X:World→Prop,∀V,X V↔aC V sF 44 #[.slice an rs c0,.slice ar qs au,ag,af,sp,.slice ak ws c2,.slice al ad c3,.slice aA os c4]∧aC V (w.heap.size) 46 #[.slice an rs c0,.slice ar qs au,ag,af,sp,.slice ak ws c2,.slice al ad c3,.slice aA os c4,ct,cu,cr]:=⟨_,fun _=>Iff.rfl⟩
  have db:=J gB;clear gB
  haveI:Nonempty (cP eL):=⟨⟨bg,(db.out _).2 ix⟩⟩
  refine oP eL [([0,1],2),([],3),([],4)] [5] (by kernel_rfl) (by kernel_rfl) ((db.out _).2 ix) ?_
  clear bG;have bG:=aC.ru (fun K:cP eL=>((db.out _).1 K.holds).2)
  obtain⟨m0,m1,m2,m3,m4,m5,m6,m7⟩:=aC.qb (fun K:cP eL=>((db.out _).1 K.holds).1)
  have gL:Below w w bg.drew:=ai yr (Below.refl _ _).drew;have aif:aC bg.drew sF 44 #[.slice an rs c0,.slice ar qs au,ag,af,sp,.slice ak ws c2,.slice al ad c3,.slice aA os c4]:=ix.1;have nX:aC bg.drew (w.heap.size) 46 #[.slice an rs c0,.slice ar qs au,ag,af,sp,.slice ak ws c2,.slice al ad c3,.slice aA os c4,ct,cu,cr]:=ix.2
  have pD:=ev.out;have lZ:Hid (aC bg.drew (w.heap.size + 1) 46 #[.slice none 0 0,.slice none 0 0,(0:Int),(0:Int),(0:Int),.slice none 0 0,.slice none 0 0,.slice none 0 0,.string ⟨#[]⟩,.string ⟨#[]⟩,(0:Int)]):=J pD;have oA:=J (iS.out.bh (Below.refl _ _).drew);clear ix pD qj
  generalize bg.drew= wd at *
  refine gZ fun gr dX=>?_
  change wpQuiet _ _ _ _ (_ ::_ ::[]) _
  repeat (go_big_quiet_step (fail))
  refine wpQuiet_nil ?_
  change wpList _ _ _ (_ ::[]) _ _
  go_wp2_with fail
  refine (aeG.out _ oA.out.rd.ft oA.out.rd.dz).mono ?_
  rintro e aQ ⟨D,d,rfl,gQ,aP⟩
  have hS:=ai gL aP;have jr:=nX.to aP;have UM:=aif.to aP;have ky:=J gQ;clear gQ
  go_wp2
  refine hh ((db.out _).2 ⟨UM,jr⟩) (dX _ _ ?_)
  refine gZ fun gr dX=>?_
  change wpQuiet _ _ _ _ ([]) _
  refine wpQuiet_nil ?_
  change wpList _ _ _ (_ ::[]) _ _
  go_wp2_with fail
  refine (Pr D d Ld Oy afe.out _ (ky.out.fk (hf:=jM))).mono ?_
  rintro e bA ⟨rfl,bC⟩
  have hB:=ai hS bC;have fQ:=jr.to bC;have UN:=UM.to bC;have Vk:=ai aP bC
  go_wp2
  refine hh ((db.out _).2 ⟨UN,fQ⟩) (dX _ _ ?_)
  refine gZ fun gr dX=>?_
  change wpQuiet _ _ _ _ ([]) _
  refine wpQuiet_nil ?_
  change wpList _ _ _ (_ ::[]) _ _
  have dq:=J (lZ.out.U Vk lZ.out.lt);have aq:=dq.out.bQ;have eM:=dq.out.gS;have hp:=dq.out.lt
  go_wp2
  clear aq eM hp
  refine hE 0 fun cQ aD=>?_
  have aie:=aD.dJ UN sA;have ec:=aD.dJ (fQ);have bT:=aD.hV dq.out;have fE:=(oA.out.bh Vk).gw dq.out aD.fG;have eE:=aD.aG hB;clear aD
  refine hh ((db.out _).2 ⟨aie,ec⟩) (dX _ _ ?_)
  refine mg ?_
  change wpQuiet _ _ _ _ (_ ::[]) _
  repeat (go_big_quiet_step (fail))
  refine wpQuiet_nil ?_
  clear bG m0 m1 m2 m3 m4 m5 m6 m7
  go_wp2
  have z0:=bT.bQ
  refine bodyPost_ret (v:= .tuple #[.agg #[.slice an rs c0,.slice ar qs au,ag,af,sp,.slice ak ws c2,.slice al ad c3,.slice aA os c4,ct,cu,cr],.string (lk Ld)]) (by simp [results,Tryz.results110,go_sem,z0]) rfl ?_
  exact⟨⟨rs,qs,ag,af,sp,ws,ad,os,an,c0,ar,au,ak,c2,al,c3,aA,c4,_,rfl,J (Ma.out),fE⟩,eE⟩
 by_cases h5:i= 5
 ·subst h5
  simp only [Nat.reduceBEq] at f0 f1 f2 f3 f4 f5 f6
  go_wp2_with fail
  refine (lX.out _ iS.out.rd.r2 iS.out.rd.gG).mono ?_
  rintro e aQ ⟨D,d,rfl,gQ,aP⟩
  have hS:=ai yr aP;have hs:=J (iS.out.bh aP);have ky:=J gQ;clear gQ hN ju
  go_upto_region 19 with fail
  have ix:=fu.out.U aP fu.out.lt
  obtain⟨eL,gB⟩ :∃X:World→Prop,∀V,X V↔aC V (w.heap.size) 46 #[.slice an rs c0,.slice ar qs au,ag,af,sp,.slice ak ws c2,.slice al ad c3,.slice aA os c4,ct,cu,cr]:=⟨_,fun _=>Iff.rfl⟩
  have db:=J gB;clear gB
  haveI:Nonempty (cP eL):=⟨⟨aQ,(db.out _).2 ix⟩⟩
  refine oP eL [([0,1],2),([],3)] [4] (by kernel_rfl) (by kernel_rfl) ((db.out _).2 ix) ?_
  clear bG;have bG:=aC.ru (fun K:cP eL=>(db.out _).1 K.holds);have gL:Below w w aQ.drew:=ai hS (Below.refl _ _).drew;have nX:aC aQ.drew (w.heap.size) 46 #[.slice an rs c0,.slice ar qs au,ag,af,sp,.slice ak ws c2,.slice al ad c3,.slice aA os c4,ct,cu,cr]:=ix;have pD:=ev.out.U aP ev.out.lt
  have lZ:Hid (aC aQ.drew (w.heap.size + 1) 46 #[.slice none 0 0,.slice none 0 0,(0:Int),(0:Int),(0:Int),.slice none 0 0,.slice none 0 0,.slice none 0 0,.string ⟨#[]⟩,.string ⟨#[]⟩,(0:Int)]):=J pD;have oA:=J (hs.out.bh (Below.refl _ _).drew);clear ix pD;have DW:=J (ky.out.bh (Below.refl _ _).drew)
  generalize aQ.drew= wd at *
  refine gZ fun gr dX=>?_
  change wpQuiet _ _ _ _ (_ ::_ ::[]) _
  repeat (go_big_quiet_step (fail))
  refine wpQuiet_nil ?_
  change wpList _ _ _ (_ ::[]) _ _
  go_wp2_with fail
  refine (Xq D d QU ajt Iu.out _ (DW.out.fk (hf:=fZ))).mono ?_
  rintro e bA ⟨rfl,bC⟩
  have hB:=ai gL bC;have fQ:=nX.to bC
  go_wp2
  refine hh ((db.out _).2 fQ) (dX _ _ ?_)
  refine gZ fun gr dX=>?_
  change wpQuiet _ _ _ _ ([]) _
  refine wpQuiet_nil ?_
  change wpList _ _ _ (_ ::[]) _ _
  have dq:=J (lZ.out.U bC lZ.out.lt);have aq:=dq.out.bQ;have eM:=dq.out.gS;have hp:=dq.out.lt
  go_wp2
  clear aq eM hp
  refine hE 0 fun cQ aD=>?_
  have ec:=aD.dJ (fQ);have bT:=aD.hV dq.out;have fE:=(oA.out.bh bC).gw dq.out aD.fG;have eE:=aD.aG hB;clear aD
  refine hh ((db.out _).2 ec) (dX _ _ ?_)
  refine mg ?_
  change wpQuiet _ _ _ _ (_ ::[]) _
  repeat (go_big_quiet_step (fail))
  refine wpQuiet_nil ?_
  clear bG
  go_wp2
  have z0:=bT.bQ
  refine bodyPost_ret (v:= .tuple #[.agg #[.slice an rs c0,.slice ar qs au,ag,af,sp,.slice ak ws c2,.slice al ad c3,.slice aA os c4,ct,cu,cr],.string (pe QU)]) (by simp [results,Tryz.results110,go_sem,z0]) rfl ?_
  exact⟨⟨rs,qs,ag,af,sp,ws,ad,os,an,c0,ar,au,ak,c2,al,c3,aA,c4,_,rfl,J (afi.out),fE⟩,eE⟩
 by_cases h6:i= 6
 ·subst h6
  simp only [Nat.reduceBEq] at f0 f1 f2 f3 f4 f5 f6
  go_wp2_with fail
  refine (zM.out _ iS.out.rd).mono ?_
  rintro e aQ ⟨D,d,rfl,gQ,aP⟩
  have hS:=ai yr aP;have hs:=J (iS.out.bh aP);have ky:=J gQ;clear gQ hN ju
  go_upto_region 22 with fail
  have ix:=fu.out.U aP fu.out.lt
  obtain⟨eL,gB⟩ :∃X:World→Prop,∀V,X V↔aC V (w.heap.size) 46 #[.slice an rs c0,.slice ar qs au,ag,af,sp,.slice ak ws c2,.slice al ad c3,.slice aA os c4,ct,cu,cr]:=⟨_,fun _=>Iff.rfl⟩
  have db:=J gB;clear gB
  haveI:Nonempty (cP eL):=⟨⟨aQ,(db.out _).2 ix⟩⟩
  refine oP eL [([0,1],2),([],3)] [4] (by kernel_rfl) (by kernel_rfl) ((db.out _).2 ix) ?_
  clear bG;have bG:=aC.ru (fun K:cP eL=>(db.out _).1 K.holds);have gL:Below w w aQ.drew:=ai hS (Below.refl _ _).drew;have nX:aC aQ.drew (w.heap.size) 46 #[.slice an rs c0,.slice ar qs au,ag,af,sp,.slice ak ws c2,.slice al ad c3,.slice aA os c4,ct,cu,cr]:=ix;have pD:=ev.out.U aP ev.out.lt
  have lZ:Hid (aC aQ.drew (w.heap.size + 1) 46 #[.slice none 0 0,.slice none 0 0,(0:Int),(0:Int),(0:Int),.slice none 0 0,.slice none 0 0,.slice none 0 0,.string ⟨#[]⟩,.string ⟨#[]⟩,(0:Int)]):=J pD;have oA:=J (hs.out.bh (Below.refl _ _).drew);clear ix pD;have DW:=J (ky.out.bh (Below.refl _ _).drew)
  generalize aQ.drew= wd at *
  refine gZ fun gr dX=>?_
  change wpQuiet _ _ _ _ (_ ::_ ::[]) _
  repeat (go_big_quiet_step (fail))
  refine wpQuiet_nil ?_
  change wpList _ _ _ (_ ::[]) _ _
  go_wp2_with fail
  refine (Xq D d QV We Sl.out _ (DW.out.fk (hf:=fZ))).mono ?_
  rintro e bA ⟨rfl,bC⟩
  have hB:=ai gL bC;have fQ:=nX.to bC
  go_wp2
  refine hh ((db.out _).2 fQ) (dX _ _ ?_)
  refine gZ fun gr dX=>?_
  change wpQuiet _ _ _ _ ([]) _
  refine wpQuiet_nil ?_
  change wpList _ _ _ (_ ::[]) _ _
  have dq:=J (lZ.out.U bC lZ.out.lt);have aq:=dq.out.bQ;have eM:=dq.out.gS;have hp:=dq.out.lt
  go_wp2
  clear aq eM hp
  refine hE 0 fun cQ aD=>?_
  have ec:=aD.dJ (fQ);have bT:=aD.hV dq.out;have fE:=(oA.out.bh bC).gw dq.out aD.fG;have eE:=aD.aG hB;clear aD
  refine hh ((db.out _).2 ec) (dX _ _ ?_)
  refine mg ?_
  change wpQuiet _ _ _ _ (_ ::[]) _
  repeat (go_big_quiet_step (fail))
  refine wpQuiet_nil ?_
  clear bG
  go_wp2
  have z0:=bT.bQ
  refine bodyPost_ret (v:= .tuple #[.agg #[.slice an rs c0,.slice ar qs au,ag,af,sp,.slice ak ws c2,.slice al ad c3,.slice aA os c4,ct,cu,cr],.string (pe QV)]) (by simp [results,Tryz.results110,go_sem,z0]) rfl ?_
  exact⟨⟨rs,qs,ag,af,sp,ws,ad,os,an,c0,ar,au,ak,c2,al,c3,aA,c4,_,rfl,J (Ix.out),fE⟩,eE⟩
 have Sr:=J (aau ⟨rs,qs,ag,af,sp,ws,ad,os⟩ i h0 h1 h2 h3 h4 h5 h6);have f0:=f0.trans (beq_eq_false_iff_ne.2 h0);have f1:=f1.trans (beq_eq_false_iff_ne.2 h1);have f2:=f2.trans (beq_eq_false_iff_ne.2 h2);have f3:=f3.trans (beq_eq_false_iff_ne.2 h3);have f4:=f4.trans (beq_eq_false_iff_ne.2 h4);have f5:=f5.trans (beq_eq_false_iff_ne.2 h5);have f6:=f6.trans (beq_eq_false_iff_ne.2 h6)
 clear hN ju;have cM:=ev.out.U (Below.refl _ _) ev.out.lt;have dq:=J cM;have aq:=cM.bQ;have eM:=cM.gS;have hp:=cM.lt;clear cM
 go_wp2
 clear aq eM hp
 refine hE 0 fun cQ aD=>?_
 have bT:=aD.hV dq.out;have fE:=(iS.out).gw dq.out aD.fG;have eE:=aD.aG yr;clear aD
 have z0:=bT.bQ
 refine bodyPost_ret (v:= .tuple #[.agg #[.slice an rs c0,.slice ar qs au,ag,af,sp,.slice ak ws c2,.slice al ad c3,.slice aA os c4,ct,cu,cr],.string (⟨#[63]⟩ :ByteArray)]) (by simp [results,Tryz.results110,go_sem,z0]) rfl ?_
 exact abU
end Go.Proofs.YtlaaemmmbodaaaaGreatDoor
namespace Go.G9
theorem ZS (c:UInt8):∀{l u:List UInt8},kY c l= [u]→u= l
 | [],u,h=>by simp [kY] at h;exact h
 | x ::l,u,h=>by
  unfold kY at h
  split at h
  ·have h2:=(List.cons.inj h).2
   exact absurd h2 (Qx c l)
  ·split at h
   ·rename_i h0;exact absurd h0 (Qx c l)
   ·rename_i w ws h0
    obtain⟨h1,h2⟩:=List.cons.inj h
    subst h2
    rw [← h1,ZS c h0]
end Go.G9
namespace Go.Proofs.YtlaaemmmbodaaaaGreatDoor
open Go.RowKit Go.G9
theorem aqN {c:UInt8} {s a:ByteArray} (h:gO c s= [a]):a= s:=by
 unfold gO at h
 obtain⟨u,hu⟩ :∃u,kY c s.data.toList= [u]:=by
  match aZ:kY c s.data.toList,h with
  | [u],_=>exact⟨u,rfl⟩
 rw [hu] at h
 have h1:=(List.cons.inj h).1
 rw [← h1,ZS c hu,IV]
theorem IM {m:cF} {a:ou} (h4:a.kind≠4) (h7:a.kind≠7):sh m a= og m a (⟨#[111,107]⟩ :ByteArray):=by
 unfold sh og
 cases gE m a with
 | none=>rfl
 | some n=>simp only [pQ,if_neg h4,if_neg h7]
theorem Je {m:cF} {w:ByteArray} {r:List ByteArray} (h:∀p,mf (eG w)= some p→r.length≠p.size):jq m (w ::r)= (m,(⟨#[63]⟩ :ByteArray)):=by
 cases aR:mf (eG w) with
 | none=>exact ahj aR
 | some p=>exact ahh aR (h p aR)
theorem Kp {i:Nat} {p:ByteArray} (h:mf i= some p):(i≤6∧p.size= 0)∨(7≤i∧i≤12∧p.size= 1)∨(i= 13∧p.size= 2)∨(i= 14∧p.size= 3):=by
 unfold mf at h
 split at h <;> first | (cases h;done) | (injection h with h;subst h;first | exact Or.inl ⟨by decide,rfl⟩ | exact Or.inr (Or.inl ⟨by decide,by decide,rfl⟩) | exact Or.inr (Or.inr (Or.inl ⟨rfl,rfl⟩)) | exact Or.inr (Or.inr (Or.inr ⟨rfl,rfl⟩)))
theorem Lj {p:Prop} (h:p:=by
 rw [Ua (p:=⟨#[]⟩) (l:=[]) (by rw [h];rfl) (Ky _) (by rw [h];rfl) rfl,h];rfl):p:=h
theorem ahc (m:cF) (w:ByteArray):jq m [w]= tK m (eG w):=by
 have hw:=Fk w
 have no:7≤eG w→jq m [w]= tK m (eG w):=fun h7=>by
  rw [Je (fun p aR e=>by rcases Kp aR with h | h | h | h <;> simp at e <;> omega),aau] <;> omega
 rcases Kf hw with h | h | h | h | h | h | h | h | h | h | h | h | h | h | h | h
 ·rw [Cd (p:=⟨#[]⟩) (l:=[]) (a:=⟨4,0,0,0,0,0⟩) (by rw [h];rfl) (Ky _) (by rw [h];rfl),h];rfl
 ·rw [Cd (p:=⟨#[]⟩) (l:=[]) (a:=⟨6,0,0,0,0,0⟩) (by rw [h];rfl) (Ky _) (by rw [h];rfl),h];exact IM (by decide) (by decide)
 ·rw [Cd (p:=⟨#[]⟩) (l:=[]) (a:=⟨9,0,0,0,0,0⟩) (by rw [h];rfl) (Ky _) (by rw [h];rfl),h];exact IM (by decide) (by decide)
 ·exact Lj
 ·exact Lj
 ·exact Lj
 ·exact Lj
 all_goals exact no (by omega)
theorem ahd (m:cF) (w x:ByteArray):jq m [w,x]= if fh x then sH m (eG w) (hg x.data.toList) else (m,(⟨#[63]⟩ :ByteArray)):=by
 have hw:=Fk w
 have no:¬(7≤eG w∧eG w≤12)→jq m [w,x]= if fh x then sH m (eG w) (hg x.data.toList) else (m,(⟨#[63]⟩ :ByteArray)):=fun h7=>by
  rw [Je (fun p aR e=>by rcases Kp aR with h | h | h | h <;> simp at e <;> omega),Yg]
  ·simp
  all_goals omega
 have one:=aog m.bx x
 have bad:mf (eG w)= some (⟨#[110]⟩ :ByteArray)→fh x= false→jq m [w,x]= if fh x then sH m (eG w) (hg x.data.toList) else (m,(⟨#[63]⟩ :ByteArray)):=fun aR ay=>by
  rw [ay] at one ⊢
  exact Jf aR one
 have act:∀a:Int→ou,mf (eG w)= some (⟨#[110]⟩ :ByteArray)→(∀n,sg (eG w) [n]= some (a n))→(∀n,(a n).kind≠4)→(∀n,(a n).kind≠7)→(∀n,sH m (eG w) n= og m (a n) (⟨#[111,107]⟩ :ByteArray))→jq m [w,x]= if fh x then sH m (eG w) (hg x.data.toList) else (m,(⟨#[63]⟩ :ByteArray)):=fun a aR cX h4 h7 bd=>by
  cases ay:fh x
  ·have:=bad aR ay;rwa [ay] at this
  ·rw [ay] at one
   rw [if_pos rfl,Cd aR one (cX _),bd]
   exact IM (h4 _) (h7 _)
 have ask:mf (eG w)= some (⟨#[110]⟩ :ByteArray)→(∀n,sg (eG w) [n]= none)→(∀n,sH m (eG w) n= (m,(jL m (eG w) [n]).getD (⟨#[63]⟩ :ByteArray)))→jq m [w,x]= if fh x then sH m (eG w) (hg x.data.toList) else (m,(⟨#[63]⟩ :ByteArray)):=fun aR cX bd=>by
  cases ay:fh x
  ·have:=bad aR ay;rwa [ay] at this
  ·rw [ay] at one
   rw [if_pos rfl,Ua aR one (cX _) rfl,bd]
 rcases Kf hw with h | h | h | h | h | h | h | h | h | h | h | h | h | h | h | h
 all_goals first
  | exact no (by omega)
  | exact act (fun n=>⟨2,n,0,0,0,0⟩) (by rw [h];rfl) (fun n=>by rw [h];rfl) (fun _=>(by decide:(2:Int)≠4)) (fun _=>(by decide:(2:Int)≠7)) (fun n=>by rw [h];rfl)
  | exact act (fun n=>⟨3,n,0,0,0,0⟩) (by rw [h];rfl) (fun n=>by rw [h];rfl) (fun _=>(by decide:(3:Int)≠4)) (fun _=>(by decide:(3:Int)≠7)) (fun n=>by rw [h];rfl)
  | exact act (fun n=>⟨5,0,n,0,0,0⟩) (by rw [h];rfl) (fun n=>by rw [h];rfl) (fun _=>(by decide:(5:Int)≠4)) (fun _=>(by decide:(5:Int)≠7)) (fun n=>by rw [h];rfl)
  | exact act (fun n=>⟨8,n,0,0,0,0⟩) (by rw [h];rfl) (fun n=>by rw [h];rfl) (fun _=>(by decide:(8:Int)≠4)) (fun _=>(by decide:(8:Int)≠7)) (fun n=>by rw [h];rfl)
  | exact ask (by rw [h];rfl) (fun n=>by rw [h];rfl) (fun n=>by rw [h];rfl)
theorem acf {p:Prop} (h:p:=by
 rw [if_neg h]
 exact Je (fun p aR e=>by rcases Kp aR with h | h | h | h <;> simp at e <;> omega)):p:=h
theorem ahe (m:cF) (w x y:ByteArray):jq m [w,x,y]= if eG w= 13 then Dd m x y else (m,(⟨#[63]⟩ :ByteArray)):=by
 by_cases h:eG w= 13
 ·rw [if_pos h]
  have two:=aoi m.bx x y
  unfold Dd
  cases hf:uu m.bx x with
  | none=>rw [hf] at two;rw [Jf (p:=(⟨#[114,110]⟩ :ByteArray)) (by rw [h];rfl) two];rfl
  | some r=>
   rw [hf] at two
   cases hy:fh y
   ·rw [hy] at two;rw [Jf (p:=(⟨#[114,110]⟩ :ByteArray)) (by rw [h];rfl) two];rfl
   ·rw [hy] at two
    rw [XY,Cd (p:=(⟨#[114,110]⟩ :ByteArray)) (l:=[r.id,hg y.data.toList]) (by rw [h];rfl) two (by rw [h];rfl)]
    exact IM (show (1:Int)≠4 by decide) (show (1:Int)≠7 by decide)
 ·exact acf
theorem ahf (m:cF) (w x y z:ByteArray):jq m [w,x,y,z]= if eG w= 14 then Bs m x y z else (m,(⟨#[63]⟩ :ByteArray)):=by
 by_cases h:eG w= 14
 ·rw [if_pos h]
  have three:=aoh m.bx x y z
  unfold Bs
  cases az:(fh x && (fh y && fh z))
  ·rw [az] at three;rw [Jf (p:=(⟨#[110,110,110]⟩ :ByteArray)) (by rw [h];rfl) three];rfl
  ·rw [az] at three
   exact Cd (p:=(⟨#[110,110,110]⟩ :ByteArray)) (l:=[hg x.data.toList,hg y.data.toList,hg z.data.toList]) (by rw [h];rfl) three (by rw [h];rfl)
 ·exact acf
theorem ahg (m:cF) (w:ByteArray) (r:List ByteArray) (h:4≤r.length):jq m (w ::r)= (m,(⟨#[63]⟩ :ByteArray)):=Je (fun p aR e=>by rcases Kp aR with h | h | h | h <;> omega)
theorem ahF {ws:List ByteArray} (h:ws≠[]):(∃a,ws= [a])∨(∃a b,ws= [a,b])∨(∃a b c,ws= [a,b,c])∨(∃a b c d,ws= [a,b,c,d])∨(∃a r,ws= a ::r∧4≤r.length):=
 match ws,h with
 | [a],_=>Or.inl ⟨a,rfl⟩
 | [a,b],_=>Or.inr (Or.inl ⟨a,b,rfl⟩)
 | [a,b,c],_=>Or.inr (Or.inr (Or.inl ⟨a,b,c,rfl⟩))
 | [a,b,c,d],_=>Or.inr (Or.inr (Or.inr (Or.inl ⟨a,b,c,d,rfl⟩)))
 | a ::b ::c ::d ::e ::r,_=>Or.inr (Or.inr (Or.inr (Or.inr ⟨a,b ::c ::d ::e ::r,rfl,by simp⟩)))
end Go.Proofs.YtlaaemmmbodaaaaGreatDoor
