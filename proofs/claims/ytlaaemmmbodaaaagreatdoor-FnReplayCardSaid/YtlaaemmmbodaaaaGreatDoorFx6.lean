/- Parts. -/
import Derived.Test.YtlaaemmmbodaaaaGreatDoorFx5
set_option maxHeartbeats 16000000
set_option maxRecDepth 100000
set_option linter.all false
open Go Go.RowKit Go.Proofs.YtlaaemmmbodaaaaGreatDoor
variable {aq au ak al aF:QR} {c0 aw c2 c3 c4:Nat} {rs:List aM} {qs:List aZ} {tu se sp mem val yes bR:Int} {ws:List Int} {ae:List aW} {os:List Out} {P:Program} {O:Array Oper} {C:World->Prop} {Q:Act->Prop} {x0 x1 x2 x3 x4:Oper} {a:Act} {v:Prop} {KL:VG aq au ak al aF c0 aw c2 c3 c4 rs qs ws ae os tu se sp}
namespace Go.Proofs.YtlaaemmmbodaaaaGreatDoor
theorem Yk (h:v:=by simp [maxLen]):v:=h
theorem Zl (h:v:=by have:=U.size;first | omega | (simp;omega)):v:=h
theorem aGA (h:v:=by simp [results,Tryz.results179,go_sem,af]):v:=h
theorem aGB (h:v:=by simp [results,Tryz.results303,go_sem,af]):v:=h
theorem aGC (h:v:=by simp [results,Tryz.results253,go_sem,af]):v:=h
theorem aGD (h:v:=by simp [results,Tryz.results232,go_sem,af]):v:=h
theorem afF (tu se sp:Int) (ak:QR) (c2:Nat) (ws:List Int) (al:QR) (c3:Nat) (ae:List aW) (h2:ws) (h3:ae) (n2:ak= none->ws= []/\c2= 0) (n3:al= none->ae= []/\c3= 0) (cL:ws.length<=c2) (mem:Int) (eD:Int) (cq:List Int) (cw:List aW) (az:qf ⟨tu,se,sp,ws,ae⟩ mem= true) (he:ug ⟨tu,se,sp,ws,ae⟩ mem=⟨tu,se,eD,cq,cw⟩) (w:World) (bp:aX 1 cE w ak ws) (bj:aX 3 aW.cells w al ae):
 Rd 258 #[.agg #[tu,se,sp,ak ws c2,al ae c3],mem] w λe ah=>∃aU d2 bd d3,e= .returned (.tuple #[.agg #[tu,se,eD,.slice aU cq d2,.slice bd cw d3],true])/\kq w ah aU d2 bd d3 cq cw/\Below w w ah:=by
 have e1:=Xc fp.sp he;have e3:=Xc fp.ae he;have e2:=Xc fp.ws he
 simp only [ug,vL] at e1 e2 e3
 subst e1;subst e3;subst e2
 exact auz tu se sp ak c2 ws al c3 ae h2 h3 n2 n3 cL mem az w bp bj
theorem afG (tu se sp:Int) (ak:QR) (c2:Nat) (ws:List Int) (al:QR) (c3:Nat) (ae:List aW) (h2:ws) (h3:ae) (n2:ak= none->ws= []/\c2= 0) (n3:al= none->ae= []/\c3= 0) (cL:ws.length<=c2) (q:Int) (bt:xh ⟨tu,se,sp,ws,ae⟩ =some q) (eD:Int) (cq:List Int) (cw:List aW) (az:oB ⟨tu,se,sp,ws,ae⟩ =true) (he:vL ⟨tu,se,sp,ws,ae⟩ q=⟨tu,se,eD,cq,cw⟩) (w:World) (bp:aX 1 cE w ak ws) (bj:aX 3 aW.cells w al ae):
 Rd 259 #[.agg #[tu,se,sp,ak ws c2,al ae c3]] w λe ah=>∃aU d2 bd d3,e= .returned (.tuple #[.agg #[tu,se,eD,.slice aU cq d2,.slice bd cw d3],q,true])/\kq w ah aU d2 bd d3 cq cw/\Below w w ah:=by
 have e1:=Xc fp.sp he;have e3:=Xc fp.ae he;have e2:=Xc fp.ws he
 simp only [ug,vL] at e1 e2 e3
 subst e1;subst e3;subst e2
 exact avA tu se sp ak c2 ws al c3 ae h2 h3 n2 n3 cL az q bt w bp bj
theorem afH (tu se sp:Int) (ak:QR) (c2:Nat) (ws:List Int) (al:QR) (c3:Nat) (ae:List aW) (h2:ws) (h3:ae) (n2:ak= none->ws= []/\c2= 0) (n3:al= none->ae= []/\c3= 0) (cL:ws.length<=c2) (val:Int) (eD:Int) (cq:List Int) (cw:List aW) (az:qq ⟨tu,se,sp,ws,ae⟩ val= true) (he:lp ⟨tu,se,sp,ws,ae⟩ val=⟨tu,se,eD,cq,cw⟩) (w:World) (bp:aX 1 cE w ak ws) (bj:aX 3 aW.cells w al ae):
 Rd 260 #[.agg #[tu,se,sp,ak ws c2,al ae c3],val] w λe ah=>∃aU d2 bd d3,e= .returned (.tuple #[.agg #[tu,se,eD,.slice aU cq d2,.slice bd cw d3],.int .i64 (yh ⟨tu,se,sp,ws,ae⟩ val),true])/\kq w ah aU d2 bd d3 cq cw/\Below w w ah:=by
 have e1:(lp ⟨tu,se,sp,ws,ae⟩ val).sp= eD:=by rw [he]
 have e3:(lp ⟨tu,se,sp,ws,ae⟩ val).ae= cw:=by rw [he]
 have e2:ws= cq:=by
  exact alS
 subst e1;subst e3;subst e2
 exact avH tu se sp ak c2 ws al c3 ae h2 h3 n2 n3 cL val az w bp bj
theorem afI (tu se sp:Int) (ak:QR) (c2:Nat) (ws:List Int) (al:QR) (c3:Nat) (ae:List aW) (h2:ws) (h3:ae) (n2:ak= none->ws= []/\c2= 0) (n3:al= none->ae= []/\c3= 0) (cL:ws.length<=c2) (eD:Int) (cq:List Int) (cw:List aW) (az:oH ⟨tu,se,sp,ws,ae⟩ =true) (he:oV ⟨tu,se,sp,ws,ae⟩ =⟨tu,se,eD,cq,cw⟩) (w:World) (bp:aX 1 cE w ak ws) (bj:aX 3 aW.cells w al ae):
 Rd 261 #[.agg #[tu,se,sp,ak ws c2,al ae c3]] w λe ah=>∃aU d2 bd d3,e= .returned (.tuple #[.agg #[tu,se,eD,.slice aU cq d2,.slice bd cw d3],true])/\kq w ah aU d2 bd d3 cq cw/\Below w w ah:=by
 have e1:(0:Int)= eD:=Xc fp.sp he
 have e3:(oV ⟨tu,se,sp,ws,ae⟩).ae= cw:=by rw [he]
 have e2:ws= cq:=Xc fp.ws he
 subst e1;subst e3;subst e2
 exact avO tu se sp ak c2 ws al c3 ae h2 h3 n2 n3 cL az w bp bj
theorem To (h:v:=by
 rintro e bw ⟨aU,d2,bd,d3,rfl,dv,bG⟩
 have aY:=be mX bG;replace U:=ai U aY;replace ag:=ag.to aY;replace aJ:=ag.aH;clear a';replace J:=J.to aY;replace af:=J.aH;replace dd:=dd.to aY;replace bS:=dd.aL;have bh:=dv.fc;have bf:=dv.fE;clear dv;have wH:=dd.iW;have eo:=bh.bK dd;have dL:=bf.bK dd
 go_upto_region 11 with fail
 clear aJ af bS
 refine hs 0 λpP gz=>?_
 replace U:=gz.aN U;replace ag:=gz.dj ag;replace J:=gz.dj J;replace dd:=gz.iK dd;replace bh:=bh.cS gz eo;replace bf:=bf.cS gz dL;have aJ:=ag.aH;have af:=J.aH;have bS:=dd.aL;clear eo dL wH;have fI:=dd.lt
 go_wp2_with fail
 refine (JL Z.o.h0 Z.o.h1 Z.o.h2 Z.o.h3 Z.o.h4 aS.o true cr.o (R.o.fC.ad (ai U ao)) (R.o.dM.ad (ai U ao)) (R.o.r2.ad (ai U ao)) (R.o.gS.ad (ai U ao)) (R.o.ll.ad (ai U ao))).mono ?_
 rintro e bH ⟨rfl,db⟩
 have cj:=be pP db;replace U:=ai U cj;replace bh:=bh.aK cj;replace bf:=bf.aK cj;replace ag:=ag.to cj;replace aJ:=ag.aH;replace J:=J.to cj;replace af:=J.aH;replace dd:=dd.to cj;replace bS:=dd.aL;have yj:=cj.size
 go_wp2_with fail
 refine (Sd aq au ak al aF c0 aw c2 c3 c4 rs qs tu se sp ws ae os Z.o _ (R.o.ad (ai U ao))).mono ?_
 rintro e cO ⟨ck,e0,cf,e1,ct,e2,cu,e3,cl,e4,rfl,dv,eM⟩
 have dK:=be bH eM;replace U:=ai U dK;replace bh:=bh.aK dK;replace bf:=bf.aK dK;clear aJ;replace J:=J.to dK;replace af:=J.aH;replace dd:=dd.to dK;replace bS:=dd.aL;have ti:=dK.size;have Ta:=U.size
 go_upto_region 14 with fail
 refine Xi λrb gm aR=>?_;have kC:=dv.aK gm;replace bh:=bh.aK gm;replace bf:=bf.aK gm
 replace U:=ai U gm;have bE:=aR.aH;replace J:=J.to gm;replace af:=J.aH;replace dd:=dd.to gm;replace bS:=dd.aL;have cn:=kC.jg;have cm:=kC.hx;have cx:=kC.kK;clear kC;have uo:=aR.frozen 2;have wI:=aR.frozen 3;have Cr:=aR.frozen 4;have Cs:=aR.frozen 5;have Ct:=aR.frozen 6;have gE:=cn.bK aR;have jf:=cm.bK aR;have eo:=bh.bK aR
 have dL:=bf.bK aR;have gL:=cx.bK aR
 go_upto_region 15 with fail
 clear af bS bE
 refine hs 2 λoL fK=>?_
 replace U:=fK.aN U;replace J:=fK.dj J;replace aR:=fK.Kh aR;replace bh:=bh.cS fK eo;replace bf:=bf.cS fK dL;replace cn:=cn.cS fK gE;replace cm:=cm.cS fK jf
 replace cx:=cx.cS fK gL;have af:=J.aH;have bE:=aR.aH;clear uo wI Cr Cs Ct;replace gE:=cn.bK J;replace jf:=cm.bK J;replace eo:=bh.bK J;replace dL:=bf.bK J;replace gL:=cx.bK J;have eg:=J.iX
 go_wp2
 clear af bE
 refine iO 0 λcP aE=>?_
 replace U:=aE.aN U;replace J:=aE.iV J;replace bh:=bh.cS aE eo;replace bf:=bf.cS aE dL;replace cn:=cn.cS aE gE;replace cm:=cm.cS aE jf;replace cx:=cx.cS aE gL;have af:=J.aH
 exact hV ⟨ck,e0,cf,e1,aU,d2,bd,d3,cl,e4,rfl,⟨cn.base KK,cm.base KK,bh.base KK,bf.base KK,cx.base KK⟩,U⟩ aGA):v:=h
theorem auP (aq au ak al aF:QR) (c0 aw c2 c3 c4:Nat) (rs:List aM) (qs:List aZ) (tu se sp:Int) (ws:List Int) (ae:List aW) (os:List Out) (Z:fa aq au ak al aF c0 aw c2 c3 c4 rs qs ws ae os) (mem val yes no bR:Int) (eD:Int) (cq:List Int) (cw:List aW) (az:qf ⟨tu,se,sp,ws,ae⟩ mem= true) (he:ug ⟨tu,se,sp,ws,ae⟩ mem=⟨tu,se,eD,cq,cw⟩) (aS:ee rs qs= true) (cr:jk rs qs= true) (w:World) (R:eF w aq au ak al aF rs qs ws ae os):
 Rd 179 #[.agg #[aq rs c0,au qs aw,tu,se,sp,ak ws c2,al ae c3,aF os c4],.agg #[(3:Int),mem,val,yes,no,bR]] w λe ah=>∃ck e0 cf e1 aU d2 bd d3 cl e4,e= .returned (.tuple #[.agg #[.slice ck rs e0,.slice cf qs e1,tu,se,eD,.slice aU cq d2,.slice bd cw d3,.slice cl os e4],true])/\fu w ah ck e0 cf e1 aU d2 bd d3 cl e4 rs qs cq cw os/\Below w w ah:=by
 refine Ho ?_ R Z aS cr az he;clear R Z aS cr az he;intro R Z aS cr az he
 go_in
 go_upto_region 1 with fail
 refine gY λaO ar ag bl J=>?_
 have U:=ar;have aJ:=ag.aH;have a':=bl.cX;have af:=J.aH;have hC:=J.lt
 go_upto_region 2 with fail
 refine dh λmX aj dd=>?_
 replace U:=ai U aj;have bS:=dd.aL;replace ag:=ag.to aj;replace aJ:=ag.aH;replace bl:=bl.to aj;replace a':=bl.cX;replace J:=J.to aj;replace af:=J.aH;have wU:=dd.lt
 go_wp2_with fail
 refine (afF tu se sp ak c2 ws al c3 ae Z.o.h2 Z.o.h3 Z.o.n2 Z.o.n3 Z.o.cL mem eD cq cw az.o he.o _ (R.o.r2.ad (ai U ao)) (R.o.gS.ad (ai U ao))).mono ?_
 exact To
theorem auS (aq au ak al aF:QR) (c0 aw c2 c3 c4:Nat) (rs:List aM) (qs:List aZ) (tu se sp:Int) (ws:List Int) (ae:List aW) (os:List Out) (Z:fa aq au ak al aF c0 aw c2 c3 c4 rs qs ws ae os) (mem val yes no bR:Int) (q:Int) (bt:xh ⟨tu,se,sp,ws,ae⟩ =some q) (eD:Int) (cq:List Int) (cw:List aW) (az:oB ⟨tu,se,sp,ws,ae⟩ =true) (he:vL ⟨tu,se,sp,ws,ae⟩ q=⟨tu,se,eD,cq,cw⟩) (aS:ee rs qs= true) (cr:jk rs qs= true) (w:World) (R:eF w aq au ak al aF rs qs ws ae os):
 Rd 179 #[.agg #[aq rs c0,au qs aw,tu,se,sp,ak ws c2,al ae c3,aF os c4],.agg #[(4:Int),mem,val,yes,no,bR]] w λe ah=>∃ck e0 cf e1 aU d2 bd d3 cl e4,e= .returned (.tuple #[.agg #[.slice ck rs e0,.slice cf qs e1,tu,se,eD,.slice aU cq d2,.slice bd cw d3,.slice cl os e4],true])/\fu w ah ck e0 cf e1 aU d2 bd d3 cl e4 rs qs cq cw os/\Below w w ah:=by
 refine XI ?_ R Z aS cr az he bt;clear R Z aS cr az he bt;intro R Z aS cr az he bt
 go_in
 go_upto_region 1 with fail
 refine gY λaO ar ag bl J=>?_
 have U:=ar;have aJ:=ag.aH;have a':=bl.cX;have af:=J.aH;have hC:=J.lt
 go_upto_region 2 with fail
 refine dh λmX aj dd=>?_
 replace U:=ai U aj;have bS:=dd.aL;replace ag:=ag.to aj;replace aJ:=ag.aH;replace bl:=bl.to aj;replace a':=bl.cX;replace J:=J.to aj;replace af:=J.aH;have wU:=dd.lt
 go_wp2_with fail
 refine (afG tu se sp ak c2 ws al c3 ae Z.o.h2 Z.o.h3 Z.o.n2 Z.o.n3 Z.o.cL q bt.o eD cq cw az.o he.o _ (R.o.r2.ad (ai U ao)) (R.o.gS.ad (ai U ao))).mono ?_
 exact To
theorem auV (aq au ak al aF:QR) (c0 aw c2 c3 c4:Nat) (rs:List aM) (qs:List aZ) (tu se sp:Int) (ws:List Int) (ae:List aW) (os:List Out) (Z:fa aq au ak al aF c0 aw c2 c3 c4 rs qs ws ae os) (mem val yes no bR:Int) (eD:Int) (cq:List Int) (cw:List aW) (az:qq ⟨tu,se,sp,ws,ae⟩ val= true) (he:lp ⟨tu,se,sp,ws,ae⟩ val=⟨tu,se,eD,cq,cw⟩) (aS:ee rs qs= true) (cr:jk rs qs= true) (w:World) (R:eF w aq au ak al aF rs qs ws ae os):
 Rd 179 #[.agg #[aq rs c0,au qs aw,tu,se,sp,ak ws c2,al ae c3,aF os c4],.agg #[(5:Int),mem,val,yes,no,bR]] w λe ah=>∃ck e0 cf e1 aU d2 bd d3 cl e4,e= .returned (.tuple #[.agg #[.slice ck rs e0,.slice cf qs e1,tu,se,eD,.slice aU cq d2,.slice bd cw d3,.slice cl os e4],true])/\fu w ah ck e0 cf e1 aU d2 bd d3 cl e4 rs qs cq cw os/\Below w w ah:=by
 refine Ho ?_ R Z aS cr az he;clear R Z aS cr az he;intro R Z aS cr az he
 go_in
 go_upto_region 1 with fail
 refine gY λaO ar ag bl J=>?_
 have U:=ar;have aJ:=ag.aH;have a':=bl.cX;have af:=J.aH;have hC:=J.lt
 go_upto_region 2 with fail
 refine dh λmX aj dd=>?_
 replace U:=ai U aj;have bS:=dd.aL;replace ag:=ag.to aj;replace aJ:=ag.aH;replace bl:=bl.to aj;replace a':=bl.cX;replace J:=J.to aj;replace af:=J.aH;have wU:=dd.lt
 go_wp2_with fail
 refine (afH tu se sp ak c2 ws al c3 ae Z.o.h2 Z.o.h3 Z.o.n2 Z.o.n3 Z.o.cL val eD cq cw az.o he.o _ (R.o.r2.ad (ai U ao)) (R.o.gS.ad (ai U ao))).mono ?_
 exact To
theorem auY (aq au ak al aF:QR) (c0 aw c2 c3 c4:Nat) (rs:List aM) (qs:List aZ) (tu se sp:Int) (ws:List Int) (ae:List aW) (os:List Out) (Z:fa aq au ak al aF c0 aw c2 c3 c4 rs qs ws ae os) (mem val yes no bR:Int) (eD:Int) (cq:List Int) (cw:List aW) (az:oH ⟨tu,se,sp,ws,ae⟩ =true) (he:oV ⟨tu,se,sp,ws,ae⟩ =⟨tu,se,eD,cq,cw⟩) (aS:ee rs qs= true) (cr:jk rs qs= true) (w:World) (R:eF w aq au ak al aF rs qs ws ae os):
 Rd 179 #[.agg #[aq rs c0,au qs aw,tu,se,sp,ak ws c2,al ae c3,aF os c4],.agg #[(6:Int),mem,val,yes,no,bR]] w λe ah=>∃ck e0 cf e1 aU d2 bd d3 cl e4,e= .returned (.tuple #[.agg #[.slice ck rs e0,.slice cf qs e1,tu,se,eD,.slice aU cq d2,.slice bd cw d3,.slice cl os e4],true])/\fu w ah ck e0 cf e1 aU d2 bd d3 cl e4 rs qs cq cw os/\Below w w ah:=by
 refine Ho ?_ R Z aS cr az he;clear R Z aS cr az he;intro R Z aS cr az he
 go_in
 go_upto_region 1 with fail
 refine gY λaO ar ag bl J=>?_
 have U:=ar;have aJ:=ag.aH;have a':=bl.cX;have af:=J.aH;have hC:=J.lt
 go_upto_region 2 with fail
 refine dh λmX aj dd=>?_
 replace U:=ai U aj;have bS:=dd.aL;replace ag:=ag.to aj;replace aJ:=ag.aH;replace bl:=bl.to aj;replace a':=bl.cX;replace J:=J.to aj;replace af:=J.aH;have wU:=dd.lt
 go_wp2_with fail
 refine (afI tu se sp ak c2 ws al c3 ae Z.o.h2 Z.o.h3 Z.o.n2 Z.o.n3 Z.o.cL eD cq cw az.o he.o _ (R.o.r2.ad (ai U ao)) (R.o.gS.ad (ai U ao))).mono ?_
 exact To
theorem Tr (h:v:=by
 rintro e bw ⟨rfl,bG⟩
 have aY:=be mX bG;replace U:=ai U aY;clear aJ;clear a';replace J:=J.to aY;replace af:=J.aH;replace dd:=dd.to aY;replace bS:=dd.aL;have wH:=dd.iW
 go_upto_region 11 with fail
 clear af bS
 refine hs 0 λpP gz=>?_
 replace U:=gz.aN U;replace J:=gz.dj J;have af:=J.aH;clear wH;have eg:=J.iX
 go_wp2
 clear af
 refine iO 0 λcP aE=>?_
 replace U:=aE.aN U;replace J:=aE.iV J;have af:=J.aH
 exact hV ⟨rfl,U⟩ aGA):v:=h
theorem auO (Z:KL) {no:Int} (az:qf ⟨tu,se,sp,ws,ae⟩ mem= false) (aS:ee rs qs= true) {w:World} (R:eF w aq au ak al aF rs qs ws ae os):
 Rd 179 #[.agg KL,.agg #[(3:Int),mem,val,yes,no,bR]] w λe ah=>e= .returned (.tuple #[.agg #[(),(),(0:Int),(0:Int),(0:Int),(),(),()],false])/\Below w w ah:=by
 replace R:=I R;replace Z:=I Z;clear aS;replace az:=I az
 go_in
 go_upto_region 1 with fail
 refine gY λaO ar ag bl J=>?_
 have U:=ar;have aJ:=ag.aH;have a':=bl.cX;have af:=J.aH;have hC:=J.lt
 go_upto_region 2 with fail
 refine dh λmX aj dd=>?_
 replace U:=ai U aj;have bS:=dd.aL;replace ag:=ag.to aj;replace aJ:=ag.aH;replace bl:=bl.to aj;replace a':=bl.cX;replace J:=J.to aj;replace af:=J.aH
 go_wp2_with fail
 refine (auy tu se sp ak c2 ws al c3 ae Z.o.h2 Z.o.h3 Z.o.n2 Z.o.n3 Z.o.cL mem az.o _ (R.o.r2.ad (ai U ao)) (R.o.gS.ad (ai U ao))).mono ?_
 exact Tr
theorem aHl (h:v:=by
 have e1:=Xc fp.tu he;have e2:=Xc fp.se he
 simp only [ug,vL,oV] at e1 e2
 first | exact⟨e1,e2⟩ | (unfold lp at e1 e2;split at e1 <;> rename_i aN <;> (first | rw [XX aN] at e2 | rw [XU aN] at e2) <;> exact⟨e1,e2⟩)):v:=h
theorem Tp (h:v:=by
 rintro e bw ⟨aU,d2,bd,d3,rfl,dv,bG⟩
 have aY:=be mX bG;replace U:=ai U aY;replace ag:=ag.to aY;replace aJ:=ag.aH;clear a';replace J:=J.to aY;replace af:=J.aH;replace dd:=dd.to aY;replace bS:=dd.aL;clear dv;have wH:=dd.iW
 go_upto_region 11 with fail
 clear aJ af bS
 refine hs 0 λpP gz=>?_
 replace U:=gz.aN U;replace ag:=gz.dj ag;replace J:=gz.dj J;have aJ:=ag.aH;have af:=J.aH;clear wH
 go_wp2_with fail
 refine (JL Z.o.h0 Z.o.h1 Z.o.h2 Z.o.h3 Z.o.h4 aS.o false cr.o (R.o.fC.ad (ai U ao)) (R.o.dM.ad (ai U ao)) (R.o.r2.ad (ai U ao)) (R.o.gS.ad (ai U ao)) (R.o.ll.ad (ai U ao))).mono ?_
 rintro e bH ⟨rfl,db⟩
 have cj:=be pP db;replace U:=ai U cj;clear aJ;replace J:=J.to cj;replace af:=J.aH;have eg:=J.iX
 go_wp2
 clear af
 refine iO 0 λcP aE=>?_
 replace U:=aE.aN U;replace J:=aE.iV J;have af:=J.aH
 exact hV ⟨rfl,U⟩ aGA):v:=h
theorem auN (Z:KL) {no:Int} (az:qf ⟨tu,se,sp,ws,ae⟩ mem= true) (cr:jk rs qs= false) (aS:ee rs qs= true) {w:World} (R:eF w aq au ak al aF rs qs ws ae os):
 Rd 179 #[.agg KL,.agg #[(3:Int),mem,val,yes,no,bR]] w λe ah=>e= .returned (.tuple #[.agg #[(),(),(0:Int),(0:Int),(0:Int),(),(),()],false])/\Below w w ah:=by
 replace R:=I R;replace Z:=I Z;replace aS:=I aS;replace az:=I az;replace cr:=I cr
 obtain⟨⟨gr,cT,eD,cq,cw⟩,he⟩ :∃f,ug ⟨tu,se,sp,ws,ae⟩ mem= f:=⟨_,rfl⟩
 obtain⟨rfl,rfl⟩ :tu= gr/\se= cT:=by
  exact aHl
 replace he:=I he
 go_in
 go_upto_region 1 with fail
 refine gY λaO ar ag bl J=>?_
 have U:=ar;have aJ:=ag.aH;have a':=bl.cX;have af:=J.aH;have hC:=J.lt
 go_upto_region 2 with fail
 refine dh λmX aj dd=>?_
 replace U:=ai U aj;have bS:=dd.aL;replace ag:=ag.to aj;replace aJ:=ag.aH;replace bl:=bl.to aj;replace a':=bl.cX;replace J:=J.to aj;replace af:=J.aH
 go_wp2_with fail
 refine (afF tu se sp ak c2 ws al c3 ae Z.o.h2 Z.o.h3 Z.o.n2 Z.o.n3 Z.o.cL mem eD cq cw az.o he.o _ (R.o.r2.ad (ai U ao)) (R.o.gS.ad (ai U ao))).mono ?_
 exact Tp
theorem auR (Z:KL) {no:Int} (az:oB ⟨tu,se,sp,ws,ae⟩ =false) (aS:ee rs qs= true) {w:World} (R:eF w aq au ak al aF rs qs ws ae os):
 Rd 179 #[.agg KL,.agg #[(4:Int),mem,val,yes,no,bR]] w λe ah=>e= .returned (.tuple #[.agg #[(),(),(0:Int),(0:Int),(0:Int),(),(),()],false])/\Below w w ah:=by
 replace R:=I R;replace Z:=I Z;clear aS;replace az:=I az
 go_in
 go_upto_region 1 with fail
 refine gY λaO ar ag bl J=>?_
 have U:=ar;have aJ:=ag.aH;have a':=bl.cX;have af:=J.aH;have hC:=J.lt
 go_upto_region 2 with fail
 refine dh λmX aj dd=>?_
 replace U:=ai U aj;have bS:=dd.aL;replace ag:=ag.to aj;replace aJ:=ag.aH;replace bl:=bl.to aj;replace a':=bl.cX;replace J:=J.to aj;replace af:=J.aH
 go_wp2_with fail
 refine (avz tu se sp ak c2 ws al c3 ae Z.o.h2 Z.o.h3 Z.o.n2 Z.o.n3 Z.o.cL az.o _ (R.o.r2.ad (ai U ao)) (R.o.gS.ad (ai U ao))).mono ?_
 exact Tr
theorem auQ (Z:KL) {no:Int} (az:oB ⟨tu,se,sp,ws,ae⟩ =true) (cr:jk rs qs= false) (aS:ee rs qs= true) {w:World} (R:eF w aq au ak al aF rs qs ws ae os):
 Rd 179 #[.agg KL,.agg #[(4:Int),mem,val,yes,no,bR]] w λe ah=>e= .returned (.tuple #[.agg #[(),(),(0:Int),(0:Int),(0:Int),(),(),()],false])/\Below w w ah:=by
 replace R:=I R;replace Z:=I Z;replace aS:=I aS;replace az:=I az;replace cr:=I cr
 obtain⟨q,bt,_⟩:=Sk (f:=⟨tu,se,sp,ws,ae⟩) (by have:=az.o;simp only [oB,Xa,Xf] at this;exact this.2.2)
 replace bt:=I bt
 obtain⟨cq,he⟩ :∃cq,(vL ⟨tu,se,sp,ws,ae⟩ q)=⟨tu,se,q,cq,ae⟩:=⟨_,rfl⟩
 replace he:=I he
 go_in
 go_upto_region 1 with fail
 refine gY λaO ar ag bl J=>?_
 have U:=ar;have aJ:=ag.aH;have a':=bl.cX;have af:=J.aH;have hC:=J.lt
 go_upto_region 2 with fail
 refine dh λmX aj dd=>?_
 replace U:=ai U aj;have bS:=dd.aL;replace ag:=ag.to aj;replace aJ:=ag.aH;replace bl:=bl.to aj;replace a':=bl.cX;replace J:=J.to aj;replace af:=J.aH
 go_wp2_with fail
 refine (afG tu se sp ak c2 ws al c3 ae Z.o.h2 Z.o.h3 Z.o.n2 Z.o.n3 Z.o.cL q bt.o q cq ae az.o he.o _ (R.o.r2.ad (ai U ao)) (R.o.gS.ad (ai U ao))).mono ?_
 exact Tp
theorem auU (Z:KL) {no:Int} (az:qq ⟨tu,se,sp,ws,ae⟩ val= false) (aS:ee rs qs= true) {w:World} (R:eF w aq au ak al aF rs qs ws ae os):
 Rd 179 #[.agg KL,.agg #[(5:Int),mem,val,yes,no,bR]] w λe ah=>e= .returned (.tuple #[.agg #[(),(),(0:Int),(0:Int),(0:Int),(),(),()],false])/\Below w w ah:=by
 replace R:=I R;replace Z:=I Z;clear aS;replace az:=I az
 go_in
 go_upto_region 1 with fail
 refine gY λaO ar ag bl J=>?_
 have U:=ar;have aJ:=ag.aH;have a':=bl.cX;have af:=J.aH;have hC:=J.lt
 go_upto_region 2 with fail
 refine dh λmX aj dd=>?_
 replace U:=ai U aj;have bS:=dd.aL;replace ag:=ag.to aj;replace aJ:=ag.aH;replace bl:=bl.to aj;replace a':=bl.cX;replace J:=J.to aj;replace af:=J.aH
 go_wp2_with fail
 refine (avG tu se sp ak c2 ws al c3 ae Z.o.h2 Z.o.h3 Z.o.n2 Z.o.n3 Z.o.cL val az.o _ (R.o.r2.ad (ai U ao)) (R.o.gS.ad (ai U ao))).mono ?_
 exact Tr
theorem auT (Z:KL) {no:Int} (az:qq ⟨tu,se,sp,ws,ae⟩ val= true) (cr:jk rs qs= false) (aS:ee rs qs= true) {w:World} (R:eF w aq au ak al aF rs qs ws ae os):
 Rd 179 #[.agg KL,.agg #[(5:Int),mem,val,yes,no,bR]] w λe ah=>e= .returned (.tuple #[.agg #[(),(),(0:Int),(0:Int),(0:Int),(),(),()],false])/\Below w w ah:=by
 replace R:=I R;replace Z:=I Z;replace aS:=I aS;replace az:=I az;replace cr:=I cr
 obtain⟨⟨gr,cT,eD,cq,cw⟩,he⟩ :∃f,lp ⟨tu,se,sp,ws,ae⟩ val= f:=⟨_,rfl⟩
 obtain⟨rfl,rfl⟩ :tu= gr/\se= cT:=by
  exact aHl
 replace he:=I he
 go_in
 go_upto_region 1 with fail
 refine gY λaO ar ag bl J=>?_
 have U:=ar;have aJ:=ag.aH;have a':=bl.cX;have af:=J.aH;have hC:=J.lt
 go_upto_region 2 with fail
 refine dh λmX aj dd=>?_
 replace U:=ai U aj;have bS:=dd.aL;replace ag:=ag.to aj;replace aJ:=ag.aH;replace bl:=bl.to aj;replace a':=bl.cX;replace J:=J.to aj;replace af:=J.aH
 go_wp2_with fail
 refine (afH tu se sp ak c2 ws al c3 ae Z.o.h2 Z.o.h3 Z.o.n2 Z.o.n3 Z.o.cL val eD cq cw az.o he.o _ (R.o.r2.ad (ai U ao)) (R.o.gS.ad (ai U ao))).mono ?_
 exact Tp
theorem auX (Z:KL) {no:Int} (az:oH ⟨tu,se,sp,ws,ae⟩ =false) (aS:ee rs qs= true) {w:World} (R:eF w aq au ak al aF rs qs ws ae os):
 Rd 179 #[.agg KL,.agg #[(6:Int),mem,val,yes,no,bR]] w λe ah=>e= .returned (.tuple #[.agg #[(),(),(0:Int),(0:Int),(0:Int),(),(),()],false])/\Below w w ah:=by
 replace R:=I R;replace Z:=I Z;clear aS;replace az:=I az
 go_in
 go_upto_region 1 with fail
 refine gY λaO ar ag bl J=>?_
 have U:=ar;have aJ:=ag.aH;have a':=bl.cX;have af:=J.aH;have hC:=J.lt
 go_upto_region 2 with fail
 refine dh λmX aj dd=>?_
 replace U:=ai U aj;have bS:=dd.aL;replace ag:=ag.to aj;replace aJ:=ag.aH;replace bl:=bl.to aj;replace a':=bl.cX;replace J:=J.to aj;replace af:=J.aH
 go_wp2_with fail
 refine (avN tu se sp ak c2 ws al c3 ae Z.o.h2 Z.o.h3 Z.o.n2 Z.o.n3 Z.o.cL az.o _ (R.o.r2.ad (ai U ao)) (R.o.gS.ad (ai U ao))).mono ?_
 exact Tr
theorem auW (Z:KL) {no:Int} (az:oH ⟨tu,se,sp,ws,ae⟩ =true) (cr:jk rs qs= false) (aS:ee rs qs= true) {w:World} (R:eF w aq au ak al aF rs qs ws ae os):
 Rd 179 #[.agg KL,.agg #[(6:Int),mem,val,yes,no,bR]] w λe ah=>e= .returned (.tuple #[.agg #[(),(),(0:Int),(0:Int),(0:Int),(),(),()],false])/\Below w w ah:=by
 replace R:=I R;replace Z:=I Z;replace aS:=I aS;replace az:=I az;replace cr:=I cr
 obtain⟨⟨gr,cT,eD,cq,cw⟩,he⟩ :∃f,oV ⟨tu,se,sp,ws,ae⟩ =f:=⟨_,rfl⟩
 obtain⟨rfl,rfl⟩ :tu= gr/\se= cT:=by
  exact aHl
 replace he:=I he
 go_in
 go_upto_region 1 with fail
 refine gY λaO ar ag bl J=>?_
 have U:=ar;have aJ:=ag.aH;have a':=bl.cX;have af:=J.aH;have hC:=J.lt
 go_upto_region 2 with fail
 refine dh λmX aj dd=>?_
 replace U:=ai U aj;have bS:=dd.aL;replace ag:=ag.to aj;replace aJ:=ag.aH;replace bl:=bl.to aj;replace a':=bl.cX;replace J:=J.to aj;replace af:=J.aH
 go_wp2_with fail
 refine (afI tu se sp ak c2 ws al c3 ae Z.o.h2 Z.o.h3 Z.o.n2 Z.o.n3 Z.o.cL eD cq cw az.o he.o _ (R.o.r2.ad (ai U ao)) (R.o.gS.ad (ai U ao))).mono ?_
 exact Tp
theorem amY (h:v:=by
 clear aS
 go_in
 go_wp2_with fail
 refine (nz aq c0 rs h0 au aw qs h1 _ fh.o _ (bk.ad ao) (bg.ad ao)).mono ?_
 rintro e bm ⟨rfl,bD⟩
 have ar:=be w bD;have U:Below w w bm:=ar;replace bk:=bk.ad ar;replace bg:=bg.ad ar
 go_wp2
 go_ret2
 exact⟨some ⟨_,0,none⟩,0,rfl,bn.made _ Zl _,(ai U ao)⟩):v:=h
theorem aiU (aq:QR) (c0:Nat) (rs:List aM) (h0:rs) (au:QR) (aw:Nat) (qs:List aZ) (h1:qs) (hi:qs.length<=aw) (mem:Int) (w:World) (bk:aX 7 aM.cells w aq rs) (bg:aX 3 aZ.cells w au qs):Rd 233 #[aq rs c0,au qs aw,mem] w λe ah=>∃A c,e= .returned (.tuple #[.slice A (jz (mG rs qs mem)).length c,.bool (mG rs qs mem).isSome])/\bn w 115 3 aZ.cells ah (.slice A (jz (mG rs qs mem)).length c) (jz (mG rs qs mem))/\Below w w ah:=by
 obtain⟨i0,bo,dP,dZ,dV⟩:=Xo xd
 cases aS:ee rs qs
 .have fh:=I aS
  rw [ajY aS]
  exact amY
 have fh:=I aS
 rw [ajZ aS]
 clear aS
 go_in
 go_wp2_with fail
 refine (nz aq c0 rs h0 au aw qs h1 _ fh.o _ (bk.ad ao) (bg.ad ao)).mono ?_
 rintro e bm ⟨rfl,bD⟩
 have ar:=be w bD;have U:Below w w bm:=ar;replace bk:=bk.ad ar;replace bg:=bg.ad ar;have yl:=U.size;replace bg:=I bg;clear bk
 go_wp2
 go_loopw [8] (λi wr=>∃k:Nat,k<=qs.length/\i= .int .i64 ((k:Int) - 1)/\rf qs mem qs.length= rf qs mem k/\Below bm bm wr) (λi _=>(intOf i + 1).toNat)
 case atStart=>exact⟨qs.length,XZ _,rfl,rfl,Wt _ _⟩
 case round=>
  obtain⟨k,ax,rfl,hw,aB⟩:=hrel
  replace hw:=I hw;have np:=aB.size
  by_cases h0:0 < k
  .exact akq
  .obtain rfl:k= 0:=KK
   have gj:Hid (rf qs mem qs.length= none):=I hw.o
   go_wp2
   go_ret2
   rw [gj.o]
   exact⟨some ⟨_,0,none⟩,0,rfl,bn.made _ KK _,ai U (ai aB (bP _ _))⟩
theorem amd (h:v:=by
 have CA:=fW.base (by omega:w.heap.size<=_)
 simp only [jz,Yf]
 exact CA):v:=h
theorem azG (aq:QR) (c0:Nat) (rs:List aM) (h0:rs) (au:QR) (aw:Nat) (qs:List aZ) (h1:qs) (bl:au= none->qs= []/\aw= 0) (hi:qs.length<=aw) (w:World) (bk:aX 7 aM.cells w aq rs) (bg:aX 3 aZ.cells w au qs):Rd 234 #[aq rs c0,au qs aw] w λe ah=>∃A c,e= .returned (.tuple #[.slice A (jz (nP rs qs)).length c,.bool (nP rs qs).isSome])/\bn w 115 3 aZ.cells ah (.slice A (jz (nP rs qs)).length c) (jz (nP rs qs))/\Below w w ah:=by
 obtain⟨i0,bo,dP,dZ,dV⟩:=Xo xd
 have ub:=I bl;clear bl
 cases aS:ee rs qs
 .have fh:=I aS
  rw [acU aS]
  exact amY
 by_cases jW:qs.length= 0
 .obtain rfl:=YD.1 jW
  rw [Ve aS (RN rfl)]
  have fh:=I aS;clear aS jW hi
  cases au with
  | none=>
   obtain⟨_,rfl⟩:=ub.o rfl
   go_in
   go_wp2_with fail
   refine (nz aq c0 rs h0 none 0 [] h1 _ fh.o _ (bk.ad ao) (bg.ad ao)).mono ?_
   rintro e bm ⟨rfl,bD⟩
   have ar:=be w bD;have U:Below w w bm:=ar;replace bk:=bk.ad ar;replace bg:=bg.ad ar
   go_wp2
   go_ret2
   exact⟨some ⟨_,0,none⟩,0,rfl,bn.made _ (by have:=U.size;omega) _,(ai U ao)⟩
  | some eH=>
   obtain⟨ab,UR,US⟩:=eH
   go_in
   go_wp2_with fail
   refine (nz aq c0 rs h0 (some ⟨ab,UR,US⟩) aw [] h1 _ fh.o _ (bk.ad ao) (bg.ad ao)).mono ?_
   rintro e bm ⟨rfl,bD⟩
   have ar:=be w bD;have U:Below w w bm:=ar;replace bk:=bk.ad ar;replace bg:=bg.ad ar;have yl:=U.size;have sw:=I (λe u=>(bg.ad (bP bm (.cells #[] e))):∀(e:TypeId) (u:Unit),aX 3 aZ.cells (bm.alloc (.cells #[] e)) (some ⟨ab,UR,US⟩) ([]:List aZ))
   go_wp2_with ((at_builtin;refine va rfl _ _ 37 rfl bm 115 i0 _ 3 24 Tryz.underlying37 bo dP dZ dV rfl WG aZ.cells iT vQ bm rfl (ay.new _ _ _) (XZ _) (some ⟨ab,UR,US⟩) aw ([]:List aZ) 0 rfl rfl (sw.o _ ()) (λh=>by cases h) Yk Wn ?_;intro bS dq iB fW fM))
   go_wp2
   go_ret2
   exact⟨some ⟨bS,0,none⟩,dq,rfl,fW.base KK,ai U (ai (bP _ _) fM)⟩
 obtain⟨j,cc⟩ :∃j,qs.length= j + 1:=⟨qs.length - 1,by omega⟩
 obtain⟨eV,iA,⟨qr,cQ,ei⟩,yV,_,bt,_⟩:=bg.at_ (Wt _ _) (k:=j) KK
 obtain⟨t,cJ⟩:=pB aS bt
 have fT:=I cc;have eS:=I bt;have bX:=I cJ;have fh:=I aS
 have iy:j<=1048576:=KK
 have WN:j + 1<=aw:=KK
 have aat:=I yV;have fl:=I (λW h ez=>nz aq c0 rs h0 au aw qs h1 _ aS W h ez)
 cases ax:mC t ⟨qr,cQ,ei⟩
 case false=>
  have gF:=I ax
  rw [Ve aS ((Dh cc bt cJ).trans ax)]
  skip
  rw [cc] at fl
  rw [show qs.length= j + 1 from cc]
  have atn:j<=aw:=KK
  clear aS ax bt cJ cc jW h1 yV hi
  go_in
  go_wp2_with fail
  refine (fl.o _ (bk.ad ao) (bg.ad ao)).mono ?_
  rintro e bm ⟨rfl,bD⟩
  have ar:=be w bD;have U:Below w w bm:=ar;replace bk:=bk.ad ar;replace bg:=bg.ad ar
  obtain⟨_,_,y,e9,eJ,hy,dC⟩:=bg.at_ (Wt _ _) (k:=j) YG
  obtain rfl:(⟨qr,cQ,ei⟩ :aZ)= y:=Wx (eS.o.symm.trans hy)
  have e8:=aat.o
  rw [e8] at e9
  cases e9
  subst e8
  clear hy;have cG:=dC 0 _ rfl;have dJ:=dC 1 _ rfl;have dt:=dC 2 _ rfl
  simp only [XW] at cG
  have g0:=cG (aD.self _);have g1:=dJ (aD.self _);have g2:=dt (aD.self _)
  simp only [aD.self] at g0
  simp only [aD.self] at g1
  simp only [aD.self] at g2
  clear dC cG dJ dt
  go_wp2_with fail
  refine (sT h0 ⟨qr,cQ,ei⟩ t bX.o false gF.o (bk.ad ao)).mono ?_
  rintro e aI ⟨rfl,aQ⟩
  have aj:=be bm aQ;replace U:=ai U aj;replace bk:=bk.ad aj;replace bg:=bg.ad aj;have bl:=ub.o;have yl:=U.size;clear g0 g1 g2;have sw:=I (λe u=>(bg.ad (bP aI (.cells #[] e))):∀(e:TypeId) (u:Unit),aX 3 aZ.cells (aI.alloc (.cells #[] e)) (some ⟨eV,iA,none⟩) qs)
  go_wp2_with ((at_builtin;refine va rfl _ _ 37 rfl aI 115 i0 _ 3 24 Tryz.underlying37 bo dP dZ dV rfl WG aZ.cells iT vQ aI rfl (ay.new _ _ _) (XZ _) (some ⟨eV,iA,none⟩) aw qs (j + 1) fT.o.symm rfl (sw.o _ ()) bl (by have:=fT.o.symm;unfold maxLen;omega) (by have:=fT.o.symm;omega) ?_;intro bS dq iB fW fM;clear bl))
  go_wp2
  go_ret2
  refine⟨some ⟨bS,0,none⟩,dq,by simp only [jz,Yf,fT.o];rfl,?_,ai U (ai (bP _ _) fM)⟩
  exact amd
 case true=>
  have gF:=I ax
  rw [acT aS ((Dh cc bt cJ).trans ax),show qs.length - 1= j by omega]
  have su:=I (show (qs.take j).length= j by rw [YA];omega)
  rw [cc] at fl
  rw [show qs.length= j + 1 from cc]
  have atn:j<=aw:=KK
  clear aS ax bt cJ cc jW h1 yV hi
  go_in
  go_wp2_with fail
  refine (fl.o _ (bk.ad ao) (bg.ad ao)).mono ?_
  rintro e bm ⟨rfl,bD⟩
  have ar:=be w bD;have U:Below w w bm:=ar;replace bk:=bk.ad ar;replace bg:=bg.ad ar
  obtain⟨_,_,y,e9,eJ,hy,dC⟩:=bg.at_ (Wt _ _) (k:=j) YG
  obtain rfl:(⟨qr,cQ,ei⟩ :aZ)= y:=Wx (eS.o.symm.trans hy)
  have e8:=aat.o
  rw [e8] at e9
  cases e9
  subst e8
  clear hy;have cG:=dC 0 _ rfl;have dJ:=dC 1 _ rfl;have dt:=dC 2 _ rfl
  simp only [XW] at cG
  have g0:=cG (aD.self _);have g1:=dJ (aD.self _);have g2:=dt (aD.self _)
  simp only [aD.self] at g0
  simp only [aD.self] at g1
  simp only [aD.self] at g2
  clear dC cG dJ dt
  go_wp2_with fail
  refine (sT h0 ⟨qr,cQ,ei⟩ t bX.o true gF.o (bk.ad ao)).mono ?_
  rintro e aI ⟨rfl,aQ⟩
  have aj:=be bm aQ;replace U:=ai U aj;replace bk:=bk.ad aj;replace bg:=bg.ad aj;have bl:=ub.o;have yl:=U.size;clear g0 g1 g2;have sw:=I (λe u=>((HM bg j).ad (bP aI (.cells #[] e))):∀(e:TypeId) (u:Unit),aX 3 aZ.cells (aI.alloc (.cells #[] e)) (some ⟨eV,iA,none⟩) (qs.take j))
  go_wp2_with ((at_builtin;refine va rfl _ _ 37 rfl aI 115 i0 _ 3 24 Tryz.underlying37 bo dP dZ dV rfl WG aZ.cells iT vQ aI rfl (ay.new _ _ _) (XZ _) (some ⟨eV,iA,none⟩) aw (qs.take j) j su.o.symm rfl (sw.o _ ()) (λh=>by cases h) (by have:=su.o.symm;unfold maxLen;omega) (by have:=su.o.symm;omega) ?_;intro bS dq iB fW fM;clear bl))
  go_wp2
  go_ret2
  refine⟨some ⟨bS,0,none⟩,dq,by simp only [jz,Yf,su.o];rfl,?_,ai U (ai (bP _ _) fM)⟩
  exact amd
theorem anF (h:v:=by
 have zz:Below w w bH:=(nu.alloc nu.size _).grown ed (by have:=nu.size;simp;omega) (λq bt=>(Ew.lt q bt).1)
 go_roundw
 case rel=>exact⟨k + 1,by omega,by go_num,by rw [nG.o];exact fb,zz⟩
 case measure=>simp [intOf];omega):v:=h
theorem alf (h:v:=by
 skip
 obtain rfl:k= rs.length:=KK
 obtain⟨Y,iC,rfl,_,_,_⟩:=aV.form fR
 go_wp2
 go_ret
 rw [hp.o]
 exact⟨Y,iC,rfl,aV,aB⟩):v:=h
theorem alH (h:v:=by
 go_wp2
 go_ret
 rw [hp.o]
 obtain⟨Y,iC,az,_,_,_⟩:=aV.form fR
 subst az
 exact⟨Y,iC,rfl,aV,aB⟩):v:=h
theorem Hs (aq:QR) (c0:Nat) (rs:List aM) (h0:rs) (au:QR) (aw:Nat) (qs:List aZ) (h1:qs) (aS:ee rs qs= true) (w:World) (bk:aX 7 aM.cells w aq rs) (bg:aX 3 aZ.cells w au qs):
 Rd 165 #[aq rs c0,au qs aw] w λe ah=>∃A c,e= .returned (.slice A (gD rs qs).length c)/\bn w 3 1 cE ah (.slice A (gD rs qs).length c) (gD rs qs)/\Below w w ah:=by
 obtain⟨i0,bo,dP,dZ,dV⟩:=Xo vK
 have gu:=I bk;have iM:bn w 3 1 cE (w.alloc (.cells #[] 3)) (.slice w 0 0) ([]:List Int):=bn.made w (XZ _) _;have qI:Below w w (w.alloc (.cells #[] 3)):=bP w _;have aei:=(mS aS).1
 by_cases jW:qs.length= 0
 .have hp:=I (agR aS jW)
  clear bk bg
  obtain rfl:=YD.1 jW
  clear jW
  go_in
  go_wp2
  go_loopw [5,7] (λy i wr=>∃k:Nat,k<=rs.length/\i= .int .i64 k/\bn w 3 1 cE wr y (oQ (-1) rs k)/\Below w w wr) (λ_ i _=>rs.length - (intOf i).toNat)
  case atStart=>exact⟨0,Xd _,rfl,iM,qI⟩
  case round=>
   clear iM qI
   obtain⟨k,ax,rfl,aV,aB⟩:=hrel
   by_cases bC:k < rs.length
   .skip
    obtain⟨eV,iA,x,rfl,eN,av,bO⟩:=gu.o.at_ aB bC
    have hQ:=yd (ye aei av)
    obtain⟨tk,Ah,iZ,xs,Af,lz,Ag,aHi⟩:=x
    have cG:=bO 0 _ rfl
    simp only [XW] at cG
    have fV:=I av;clear av bO
    have bu:(-1) < iZ:=by dsimp only at hQ;omega
    have de:=Oe (rk:=(-1)) fV.o bu;have nG:=I de;clear de
    go_wp2
    refine eQ PV PV ?_
    repeat go_big_quiet_step (fail)
    refine VF ?_
    intro K
    have g0:=cG K;have nu:=ai aB K.ad;have Ew:=aV.aK K.ad;clear cG aV
    generalize K.world= gH at *
    go_wp2_with ((at_builtin;refine ke rfl _ _ 38 rfl w 3 i0 _ 1 8 Tryz.underlying38 bo dP dZ dV rfl WG cE fR qU _ (oQ (-1) rs k) rfl (Ew.alloc _) ⟨gH,0,none⟩ 1 tk rfl (aX.one _ _) (by have:=Di (-1) rs k;unfold maxLen;omega) (by have:=Di (-1) rs k;omega) (by have:=nu.size;simp;omega) ?_;intro v4 bH fb ed mx))
    exact anF
   .exact alf
 .obtain⟨j,cc⟩ :∃j,qs.length= j + 1:=⟨qs.length - 1,by omega⟩
  obtain⟨dc,hx,⟨qr,cQ,ei⟩,rfl,bD,bt,hO⟩:=bg.at_ (Wt _ _) (k:=j) KK
  obtain⟨t,cJ⟩:=pB aS bt
  have eS:=I bt;have bX:=I cJ;have fT:=I cc;have arK:=(mS aS).2.1;have PD:Hid (aX 3 aZ.cells w (some ⟨dc,hx,none⟩) qs):=I bg;clear bt cJ hO bg
  rw [cc] at arK ⊢
  clear cc jW h1
  by_cases h6:j + 1= 6
  .obtain rfl:j= 5:=KK
   have hp:=I (RQ fT.o eS.o bX.o (Or.inr fT.o));clear aS
   go_in
   go_wp2
   go_loopw [5,7] (λy i wr=>i= .int .i64 0/\bn w 3 1 cE wr y ([]:List Int)/\Below w w wr) (λ_ i _=>0)
   case atStart=>exact⟨rfl,iM,qI⟩
   case round=>
    clear iM qI
    obtain⟨rfl,aV,aB⟩:=hrel
    rcases Nat.eq_zero_or_pos rs.length with h9 | h9
    .obtain rfl:=YD.1 h9
     clear h9
     exact alH
    .exact alH
  .have sN:((j:Int) + 1 == 0)= false:=Xb.2 KK
   have afi:decide ((j:Int) + 1 < 6)= true:=Xh KK
   cases ax:mC t ⟨qr,cQ,ei⟩
   case true=>
    have gF:=I ax;have hp:=I (RQ fT.o eS.o bX.o (Or.inl ax));clear ax
    go_in
    go_wp2
    go_loopw [5,7] (λy i wr=>∃k:Nat,k<=rs.length/\i= .int .i64 k/\bn w 3 1 cE wr y ([])/\Below w w wr) (λ_ i _=>rs.length - (intOf i).toNat)
    case atStart=>exact⟨0,Xd _,rfl,iM,qI⟩
    case round=>
     clear iM qI
     obtain⟨k,ax,rfl,aV,aB⟩:=hrel
     by_cases bC:k < rs.length
     .obtain⟨_,_,aHj,e9,eJ,NP,dC⟩:=PD.o.at_ aB (k:=j) YG
      cases e9
      obtain rfl:(⟨qr,cQ,ei⟩ :aZ)= aHj:=Wx (eS.o.symm.trans NP)
      clear NP;have ho:=dC 0 _ rfl;have q1:=dC 1 _ rfl;have gM:=dC 2 _ rfl
      simp only [XW] at ho
      clear dC
      go_wp2
      refine eQ PV PV ?_
      repeat go_big_quiet_step (fail)
      go_big_quiet_step ((go_at_call 163;exact aD.call _ Xm (sT h0 ⟨qr,cQ,ei⟩ t bX.o true gF.o (gu.o.ad (ai aB (aD.ad _))))))
      repeat go_big_quiet_step (fail)
      refine VF ?_
      intro K
      have nu:=ai aB K.ad;have Ew:=aV.aK K.ad;clear ho q1 gM aV
      generalize K.world= gH at *
      go_wp2
      go_roundw
      case rel=>exact⟨k + 1,by omega,by go_num,Ew,nu⟩
      case measure=>simp [intOf];omega
     .skip
      obtain⟨Y,iC,rfl,_,_,_⟩:=aV.form fR
      go_wp2
      go_ret
      rw [hp.o]
      exact⟨Y,iC,rfl,aV,aB⟩
   case false=>
    have gF:=I ax;have hp:=I (agT fT.o eS.o bX.o ax YG);clear ax
    obtain⟨Fp,kd,gh,hT,kc,kb,Fo,Td⟩:=t
    go_in
    go_wp2
    go_loopw [5,7] (λy i wr=>∃k:Nat,k<=rs.length/\i= .int .i64 k/\bn w 3 1 cE wr y (oQ gh rs k)/\Below w w wr) (λ_ i _=>rs.length - (intOf i).toNat)
    case atStart=>exact⟨0,Xd _,rfl,iM,qI⟩
    case round=>
     clear iM qI
     obtain⟨k,ax,rfl,aV,aB⟩:=hrel
     by_cases bC:k < rs.length
     .skip
      obtain⟨eV,iA,x,hA0,eN,av,bO⟩:=gu.o.at_ aB bC
      have hQ:=yd (ye aei av)
      obtain⟨tk,Ah,iZ,xs,Af,lz,Ag,aHi⟩:=x
      have cG:=bO 0 _ rfl;have dt:=bO 2 _ rfl
      simp only [XW] at cG
      have fV:=I av;clear av bO
      subst hA0
      obtain⟨_,_,aHj,e9,eJ,NP,dC⟩:=PD.o.at_ aB (k:=j) YG
      cases e9
      obtain rfl:(⟨qr,cQ,ei⟩ :aZ)= aHj:=Wx (eS.o.symm.trans NP)
      clear NP;have ho:=dC 0 _ rfl;have q1:=dC 1 _ rfl;have gM:=dC 2 _ rfl
      simp only [XW] at ho
      clear dC
      by_cases bu:gh < iZ
      .have de:=Oe (rk:=gh) fV.o bu;have nG:=I de;clear de
       go_wp2
       refine eQ PV PV ?_
       repeat go_big_quiet_step (fail)
       go_big_quiet_step ((go_at_call 163;exact aD.call _ Xm (sT h0 ⟨qr,cQ,ei⟩ ⟨Fp,kd,gh,hT,kc,kb,Fo,Td⟩ bX.o false gF.o (gu.o.ad (ai aB (aD.ad _))))))
       repeat go_big_quiet_step (fail)
       go_big_quiet_step ((go_at_call 164;exact aD.call _ Xm (JS h0 ⟨qr,cQ,ei⟩ ⟨Fp,kd,gh,hT,kc,kb,Fo,Td⟩ bX.o (gu.o.ad (ai aB (aD.ad _))))))
       repeat go_big_quiet_step (fail)
       refine VF ?_
       intro K
       have g0:=cG K;have nu:=ai aB K.ad;have Ew:=aV.aK K.ad;clear cG dt aV
       generalize K.world= gH at *
       clear ho q1 gM
       go_wp2_with ((at_builtin;refine ke rfl _ _ 38 rfl w 3 i0 _ 1 8 Tryz.underlying38 bo dP dZ dV rfl WG cE fR qU _ (oQ (gh) rs k) rfl (Ew.alloc _) ⟨gH,0,none⟩ 1 tk rfl (aX.one _ _) (by have:=Di (gh) rs k;unfold maxLen;omega) (by have:=Di (gh) rs k;omega) (by have:=nu.size;simp;omega) ?_;intro v4 bH fb ed mx))
       exact anF
      .have sQ:decide (gh < iZ)= false:=Xe bu
       have de:=RP (rk:=gh) fV.o bu;have nG:=I de;clear de
       go_wp2
       refine eQ PV PV ?_
       repeat go_big_quiet_step (fail)
       go_big_quiet_step ((go_at_call 163;exact aD.call _ Xm (sT h0 ⟨qr,cQ,ei⟩ ⟨Fp,kd,gh,hT,kc,kb,Fo,Td⟩ bX.o false gF.o (gu.o.ad (ai aB (aD.ad _))))))
       repeat go_big_quiet_step (fail)
       go_big_quiet_step ((go_at_call 164;exact aD.call _ Xm (JS h0 ⟨qr,cQ,ei⟩ ⟨Fp,kd,gh,hT,kc,kb,Fo,Td⟩ bX.o (gu.o.ad (ai aB (aD.ad _))))))
       repeat go_big_quiet_step (fail)
       refine VF ?_
       intro K
       have nu:=ai aB K.ad;have Ew:=aV.aK K.ad;clear cG dt aV
       generalize K.world= gH at *
       clear ho q1 gM
       go_wp2
       go_roundw
       case rel=>exact⟨k + 1,by omega,by go_num,by rw [nG.o];exact Ew,nu⟩
       case measure=>simp [intOf];omega
     .exact alf
theorem ann (h:v:=by
 clear aS
 go_in
 go_wp2_with fail
 refine (nz aq c0 rs h0 au aw qs h1 _ fh.o _ (bk.ad ao) (bg.ad ao)).mono ?_
 rintro e bm ⟨rfl,bD⟩
 have ar:=be w bD;have U:Below w w bm:=ar
 go_wp2
 go_ret2
 exact⟨some ⟨_,0,none⟩,0,rfl,bn.made _ Zl _,(ai U ao)⟩):v:=h
theorem amQ (h:v:=by
 clear aS hm
 go_in
 go_wp2_with fail
 refine (nz aq c0 rs h0 au aw qs h1 _ fh.o _ (bk.ad ao) (bg.ad ao)).mono ?_
 rintro e bm ⟨rfl,bD⟩
 have ar:=be w bD;have U:Below w w bm:=ar
 go_wp2_with fail
 refine (km _ gi.o _).mono ?_
 rintro e w0 ⟨rfl,h0⟩
 rw [h0]
 clear h0 w0
 go_wp2
 go_ret2
 exact⟨some ⟨_,0,none⟩,0,rfl,bn.made _ Zl _,(ai U ao)⟩):v:=h
theorem Tk (h:v:=by
 go_wp2
 go_ret2
 exact⟨some ⟨_,0,none⟩,0,rfl,bn.made _ Zl _,(ai U ao)⟩):v:=h
theorem aGr (aq:QR) (c0:Nat) (rs:List aM) (h0:rs) (au:QR) (aw:Nat) (qs:List aZ) (h1:qs) (bl:au= none->qs= []/\aw= 0) (id mem:Int) (w:World) (bk:aX 7 aM.cells w aq rs) (bg:aX 3 aZ.cells w au qs):Rd 230 #[aq rs c0,au qs aw,id,mem] w λe ah=>∃A c,e= .returned (.tuple #[.slice A (jz (kU rs qs id mem)).length c,.bool (kU rs qs id mem).isSome])/\bn w 115 3 aZ.cells ah (.slice A (jz (kU rs qs id mem)).length c) (jz (kU rs qs id mem))/\Below w w ah:=by
 obtain⟨i0,bo,dP,dZ,dV⟩:=Xo xd
 have ub:=I bl;clear bl
 cases aS:ee rs qs
 .have fh:=I aS
  rw [ahg aS]
  exact ann
 cases hm:fy mem
 .have fh:=I aS;have gi:=I hm
  rw [ahh hm]
  exact amQ
 have jm:(gD rs qs).length<=1048576:=Xr (Of rs qs) h0
 cases aP:hasB (gD rs qs) id
 .have fh:=I aS;have gi:=I hm;have fL:=I aP
  rw [ahi aP]
  clear aS hm aP
  go_in
  go_wp2_with fail
  refine (nz aq c0 rs h0 au aw qs h1 _ fh.o _ (bk.ad ao) (bg.ad ao)).mono ?_
  rintro e bm ⟨rfl,bD⟩
  have ar:=be w bD;have U:Below w w bm:=ar;replace bk:=bk.ad ar;replace bg:=bg.ad ar
  go_wp2_with fail
  refine (km _ gi.o _).mono ?_
  rintro e w0 ⟨rfl,h0⟩
  rw [h0]
  clear h0 w0
  go_wp2_with fail
  refine (Hs aq c0 rs h0 au aw qs h1 fh.o _ (bk.ad ao) (bg.ad ao)).mono ?_
  rintro e aI ⟨sq,c5,rfl,hd,aQ⟩
  have aj:=be bm aQ;replace U:=ai U aj;have Eb:=hd.ej (hf:=fR);clear hd
  go_wp2_with fail
  refine (EW sq c5 (gD rs qs) id jm _ fL.o _ (Eb.ad ao)).mono ?_
  rintro e bw ⟨rfl,bG⟩
  have aY:=be aI bG;replace U:=ai U aY
  exact Tk
 .have fh:=I aS;have gi:=I hm;have fL:=I aP
  rw [ahj aS hm aP]
  clear aS hm aP
  go_in
  go_wp2_with fail
  refine (nz aq c0 rs h0 au aw qs h1 _ fh.o _ (bk.ad ao) (bg.ad ao)).mono ?_
  rintro e bm ⟨rfl,bD⟩
  have ar:=be w bD;have U:Below w w bm:=ar;replace bk:=bk.ad ar;replace bg:=bg.ad ar
  go_wp2_with fail
  refine (km _ gi.o _).mono ?_
  rintro e w0 ⟨rfl,h0⟩
  rw [h0]
  clear h0 w0
  go_wp2_with fail
  refine (Hs aq c0 rs h0 au aw qs h1 fh.o _ (bk.ad ao) (bg.ad ao)).mono ?_
  rintro e aI ⟨sq,c5,rfl,hd,aQ⟩
  have aj:=be bm aQ;replace U:=ai U aj;replace bg:=bg.ad aj;have Eb:=hd.ej (hf:=fR);clear hd
  go_wp2_with fail
  refine (EW sq c5 (gD rs qs) id jm _ fL.o _ (Eb.ad ao)).mono ?_
  exact ala
theorem Dv {T:Type}:∀{xs:List T} {j:Nat} {x:T},xs[j]? =some x->xs.set j x= xs
 | [],j,x,h=>by simp at h
 | y ::xs,0,x,h=>by simp at h;subst h;rfl
 | y ::xs,j + 1,x,h=>by simp at h;rw [List.set_cons_succ,Dv h]
theorem aHz (aq:QR) (c0:Nat) (rs:List aM) (h0:rs) (au:QR) (aw:Nat) (qs:List aZ) (h1:qs) (bl:au= none->qs= []/\aw= 0) (mem:Int) (w:World) (bk:aX 7 aM.cells w aq rs) (bg:aX 3 aZ.cells w au qs):Rd 231 #[aq rs c0,au qs aw,mem] w λe ah=>∃A c,e= .returned (.tuple #[.slice A (jz (ln rs qs mem)).length c,.bool (ln rs qs mem).isSome])/\bn w 115 3 aZ.cells ah (.slice A (jz (ln rs qs mem)).length c) (jz (ln rs qs mem))/\Below w w ah:=by
 obtain⟨i0,bo,dP,dZ,dV⟩:=Xo xd
 replace bl:=I bl
 cases aS:ee rs qs
 .have fh:=I aS
  rw [SN (by simp [oA,aS])]
  exact ann
 cases hm:fy mem
 .have fh:=I aS;have gi:=I hm
  rw [ajd hm]
  exact amQ
 by_cases jW:qs.length= 0
 .have fh:=I aS;have gi:=I hm
  rw [SN (by rw [oA,RN jW,Bool.and_false])]
  obtain rfl:=YD.1 jW
  clear aS hm jW
  go_in
  go_wp2_with fail
  refine (nz aq c0 rs h0 au aw [] h1 _ fh.o _ (bk.ad ao) (bg.ad ao)).mono ?_
  rintro e bm ⟨rfl,bD⟩
  have ar:=be w bD;have U:Below w w bm:=ar
  go_wp2_with fail
  refine (km _ gi.o _).mono ?_
  rintro e w0 ⟨rfl,h0⟩
  rw [h0]
  clear h0 w0
  exact Tk
 obtain⟨j,cc⟩ :∃j,qs.length= j + 1:=⟨qs.length - 1,by omega⟩
 obtain⟨eV,iA,⟨qr,cQ,ei⟩,rfl,_,bt,_⟩:=bg.at_ (Wt _ _) (k:=j) KK
 obtain⟨t,cJ⟩:=pB aS bt
 have fT:=I cc;have eS:=I bt;have bX:=I cJ;have gi:=I hm
 have iy:j<=1048576:=KK
 have sN:((j:Int) + 1 == 0)= false:=Xb.2 KK;have fl:=I (λW h ez=>nz aq c0 rs h0 (some ⟨eV,iA,none⟩) aw qs h1 _ aS W h ez)
 cases ax:mC t ⟨qr,cQ,ei⟩
 case false=>
  have gF:=I ax
  rw [SN (by rw [oA,Dh cc bt cJ,ax,Bool.and_false])]
  rw [cc] at fl ⊢
  clear ax hm cc bt cJ aS jW h1
  go_in
  go_wp2_with fail
  refine (fl.o _ (bk.ad ao) (bg.ad ao)).mono ?_
  rintro e bm ⟨rfl,bD⟩
  have ar:=be w bD;have U:Below w w bm:=ar;replace bk:=bk.ad ar;replace bg:=bg.ad ar
  go_wp2_with fail
  refine (km _ gi.o _).mono ?_
  rintro e w0 ⟨rfl,h0⟩
  rw [h0]
  clear h0 w0
  obtain⟨_,_,y,e9,eJ,hy,dC⟩:=bg.at_ (Wt _ _) (k:=j) YG
  cases e9
  obtain rfl:(⟨qr,cQ,ei⟩ :aZ)= y:=Wx (eS.o.symm.trans hy)
  clear hy;have cG:=dC 0 _ rfl;have dJ:=dC 1 _ rfl;have dt:=dC 2 _ rfl
  simp only [XW] at cG
  have g0:=cG (aD.self _);have g1:=dJ (aD.self _);have g2:=dt (aD.self _)
  simp only [aD.self] at g0
  simp only [aD.self] at g1
  simp only [aD.self] at g2
  clear dC cG dJ dt
  go_wp2_with fail
  refine (sT h0 ⟨qr,cQ,ei⟩ t bX.o false gF.o (bk.ad ao)).mono ?_
  rintro e aI ⟨rfl,aQ⟩
  have aj:=be bm aQ;replace U:=ai U aj
  exact Tk
 cases aP:cQ == mem
 case true=>
  have gF:=I ax
  rw [aje ((RO cc bt).trans aP)]
  rw [cc] at fl ⊢
  clear ax hm cc bt cJ aS jW h1
  go_in
  go_wp2_with fail
  refine (fl.o _ (bk.ad ao) (bg.ad ao)).mono ?_
  rintro e bm ⟨rfl,bD⟩
  have ar:=be w bD;have U:Below w w bm:=ar;replace bk:=bk.ad ar;replace bg:=bg.ad ar
  go_wp2_with fail
  refine (km _ gi.o _).mono ?_
  rintro e w0 ⟨rfl,h0⟩
  rw [h0]
  clear h0 w0
  obtain⟨_,_,y,e9,eJ,hy,dC⟩:=bg.at_ (Wt _ _) (k:=j) YG
  cases e9
  obtain rfl:(⟨qr,cQ,ei⟩ :aZ)= y:=Wx (eS.o.symm.trans hy)
  clear hy;have cG:=dC 0 _ rfl;have dJ:=dC 1 _ rfl;have dt:=dC 2 _ rfl
  simp only [XW] at cG
  have g0:=cG (aD.self _);have g1:=dJ (aD.self _);have g2:=dt (aD.self _)
  simp only [aD.self] at g0
  simp only [aD.self] at g1
  simp only [aD.self] at g2
  clear dC cG dJ dt;clear g0 g1 g2
  obtain⟨_,_,y,e9,eJ,hy,dC⟩:=bg.at_ (Wt _ _) (k:=j) YG
  cases e9
  obtain rfl:(⟨qr,cQ,ei⟩ :aZ)= y:=Wx (eS.o.symm.trans hy)
  clear hy;have cG:=dC 0 _ rfl;have dJ:=dC 1 _ rfl;have dt:=dC 2 _ rfl
  simp only [XW] at cG
  have g0:=cG (aD.self _);have g1:=dJ (aD.self _);have g2:=dt (aD.self _)
  simp only [aD.self] at g0
  simp only [aD.self] at g1
  simp only [aD.self] at g2
  clear dC cG dJ dt
  go_wp2_with fail
  refine (sT h0 ⟨qr,cQ,ei⟩ t bX.o true gF.o (bk.ad ao)).mono ?_
  rintro e aI ⟨rfl,aQ⟩
  have aj:=be bm aQ;replace U:=ai U aj;replace bg:=bg.ad aj;clear g0 g1 g2
  obtain⟨_,_,y,e9,eJ,hy,dC⟩:=bg.at_ (Wt _ _) (k:=j) YG
  cases e9
  obtain rfl:(⟨qr,cQ,ei⟩ :aZ)= y:=Wx (eS.o.symm.trans hy)
  clear hy;have cG:=dC 0 _ rfl;have dJ:=dC 1 _ rfl;have dt:=dC 2 _ rfl
  simp only [XW] at cG
  have g0:=cG (aD.self _);have g1:=dJ (aD.self _);have g2:=dt (aD.self _)
  simp only [aD.self] at g0
  simp only [aD.self] at g1
  simp only [aD.self] at g2
  clear dC cG dJ dt
  exact Tk
 case false=>
  have gF:=I ax
  rw [ajf (show oA rs qs= true by rw [oA,aS,Dh cc bt cJ,ax];rfl) hm ((RO cc bt).trans aP),ajg cc bt]
  have mO:(qs.set j ⟨qr,cQ,true⟩).length= j + 1:=by rw [List.length_set,cc]
  have Iw:=I mO
  rw [cc] at fl ⊢
  clear ax hm cc bt cJ aS jW h1 mO
  go_in
  go_wp2_with fail
  refine (fl.o _ (bk.ad ao) (bg.ad ao)).mono ?_
  rintro e bm ⟨rfl,bD⟩
  have ar:=be w bD;have U:Below w w bm:=ar;replace bk:=bk.ad ar;replace bg:=bg.ad ar
  go_wp2_with fail
  refine (km _ gi.o _).mono ?_
  rintro e w0 ⟨rfl,h0⟩
  rw [h0]
  clear h0 w0
  obtain⟨_,_,y,e9,eJ,hy,dC⟩:=bg.at_ (Wt _ _) (k:=j) YG
  cases e9
  obtain rfl:(⟨qr,cQ,ei⟩ :aZ)= y:=Wx (eS.o.symm.trans hy)
  clear hy;have cG:=dC 0 _ rfl;have dJ:=dC 1 _ rfl;have dt:=dC 2 _ rfl
  simp only [XW] at cG
  have g0:=cG (aD.self _);have g1:=dJ (aD.self _);have g2:=dt (aD.self _)
  simp only [aD.self] at g0
  simp only [aD.self] at g1
  simp only [aD.self] at g2
  clear dC cG dJ dt
  go_wp2_with fail
  refine (sT h0 ⟨qr,cQ,ei⟩ t bX.o true gF.o (bk.ad ao)).mono ?_
  rintro e aI ⟨rfl,aQ⟩
  have aj:=be bm aQ;replace U:=ai U aj;replace bg:=bg.ad aj;clear g0 g1 g2
  obtain⟨_,_,y,e9,eJ,hy,dC⟩:=bg.at_ (Wt _ _) (k:=j) YG
  cases e9
  obtain rfl:(⟨qr,cQ,ei⟩ :aZ)= y:=Wx (eS.o.symm.trans hy)
  clear hy;have cG:=dC 0 _ rfl;have dJ:=dC 1 _ rfl;have dt:=dC 2 _ rfl
  simp only [XW] at cG
  have g0:=cG (aD.self _);have g1:=dJ (aD.self _);have g2:=dt (aD.self _)
  simp only [aD.self] at g0
  simp only [aD.self] at g1
  simp only [aD.self] at g2
  clear dC cG dJ dt;have mI:=I (λe u=>(bg.ad (bP aI (.cells #[] e))):∀(e:TypeId) (u:Unit),aX 3 aZ.cells (aI.alloc (.cells #[] e)) (some ⟨eV,iA,none⟩) qs);have yl:=U.size
  go_upto_region 5 with ((at_builtin;refine va rfl _ _ 37 rfl aI 115 i0 _ 3 24 Tryz.underlying37 bo dP dZ dV rfl WG aZ.cells iT vQ aI rfl (ay.new _ _ _) (XZ _) (some ⟨eV,iA,none⟩) aw qs (j + 1) fT.o.symm rfl (mI.o _ ()) (λh=>by cases h) aGO YG ?_;intro bS dq iB fW fM))
  have qK:Below aI aI iB:=ai (bP _ _) fM;have sy:bn w 115 3 aZ.cells iB (bS qs dq) qs:=fW.base KK
  rw [fT.o] at sy
  have wU:=(sy.lt bS rfl).1;have aDu:=(sy.lt bS rfl).2;replace U:=ai U qK;clear fW fM qK g0 g1 g2 mI;have ev:=me sy iT eS.o (i:=0) (u:= .int .i64 qr) rfl;have eU:=me sy iT eS.o (i:=1) (u:= .int .i64 cQ) rfl;have cL:=me sy iT eS.o (i:=2) (u:= .bool ei) rfl
  simp only [XW] at ev
  go_upto_region 6 with fail
  clear ev eU cL
  refine dh λuX aY eA=>?_
  replace sy:=sy.aK aY;replace U:=ai U aY;have fJ:=eA.cb;have arl:=eA.frozen 2
  have ahm:∀k,(Value.slice bS (j + 1) dq).ownBlock= some k->¬k= iB.heap.size:=λk ax e=>by have h9:bS= k:=Wx ax;omega
  go_upto_region 7 with fail
  clear fJ
  refine kL 2 λoL fK=>?_
  replace U:=fK.aN U;replace eA:=fK.aHQ eA;replace sy:=sy.cS fK ahm;have fJ:=eA.cb;clear ahm arl;have z0:=vO sy iT (j:=j) (i:=0) YG WG;have bF:=vO sy iT (j:=j) (i:=1) YG WG;have z2:=vO sy iT (j:=j) (i:=2) YG WG
  have ev:=me sy iT eS.o (i:=0) (u:= .int .i64 qr) rfl;have eU:=me sy iT eS.o (i:=1) (u:= .int .i64 cQ) rfl;have cL:=me sy iT eS.o (i:=2) (u:= .bool ei) rfl
  simp only [XW] at z0 ev
  have s1:=vP sy iT (y:=⟨qr,cQ,ei⟩) (u:= .int .i64 qr) (i:=0) eS.o WG rfl
  rw [Dv eS.o] at s1
  have s2:=vP s1 iT (y:=⟨qr,cQ,ei⟩) (u:= .int .i64 cQ) (i:=1) eS.o WG rfl
  rw [Dv eS.o] at s2
  have gT:=vP s2 iT (y:=⟨qr,cQ,true⟩) (u:= .bool true) (i:=2) eS.o WG rfl
  simp only [XW] at gT
  have uu:Below w w (((oL.setCell ⟨bS,j * 3,none⟩ (.int .i64 qr)).setCell ⟨bS,j * 3 + 1,none⟩ (.int .i64 cQ)).setCell ⟨bS,j * 3 + 2,none⟩ (.bool true)):=((U.setCell (by exact wU) _).setCell (by exact wU) _).setCell (by exact wU) _;replace gT:=I gT;replace uu:=I uu;clear s1 s2
  go_wp2
  go_ret2
  refine⟨some ⟨bS,0,none⟩,dq,by simp only [jz,Yf,Iw.o];rfl,?_,uu.o⟩
  simp only [jz,Yf]
  rw [Iw.o]
  exact gT.o
theorem aqt (h:vq rs qs= none):ee rs qs= false\/qs.length= 0\/mb rs qs= true:=by
 by_cases h0:qs.length= 0
 .exact .inr (.inl h0)
 .have bt:qs[qs.length - 1]? =some qs[qs.length - 1]:=Xj KK
  unfold vq at h
  rw [bt] at h
  dsimp only at h
  split at h
  .cases h
  .rename_i aN
   cases aS:ee rs qs with
   | false=>exact .inl rfl
   | true=>
    refine .inr (.inr ?_)
    cases aT:mb rs qs with
    | true=>rfl
    | false=>exact absurd (by rw [aS,aT];rfl) aN
theorem acZ {ps:List aZ} {q:aZ} (h:vq rs qs= some (ps,q)):∃j,qs.length= j + 1/\qs[j]? =some q/\ps= qs.take j/\ee rs qs= true/\mb rs qs= false:=by
 obtain⟨_,h2,j,h3,h4,h5⟩:=acY h
 refine⟨j,h3,h4,h5,h2,?_⟩
 unfold vq at h
 rw [show qs.length - 1= j by omega,h4] at h
 dsimp only at h
 split at h
 .rename_i aN
  simp only [Xa,YJ] at aN
  exact aN.2
 .cases h
def Vf (j:Nat) (ap:Nat) (xs:List aZ):mZ (Option Addr×Nat) where
 par:=λn=>if n= ap then [0] else []
 val:=λn p=>if n= ap then .slice p.1 j p.2 else match n with
  | 0=> .slice p.1 0 0
  | _=>undef
 post:=λn bA p dy V=>if n= ap then∃g bS,(bA 0).1= some ⟨g,0,none⟩/\p.1= some ⟨bS,0,none⟩/\bn g 115 3 aZ.cells V (.slice p.1 xs.length p.2) xs else match n with
  | 0=>p.1= some ⟨dy.heap.size,0,none⟩/\ay V dy.heap.size 115 #[]
  | _=>True
theorem anp (h:v:=by
 rintro e aI ⟨rfl,aQ⟩
 have aj:=be aO aQ;replace U:=ai U aj;replace J:=J.to aj;replace af:=J.cb;have eg:=J.kH
 go_wp2
 clear af
 refine ra 0 λcP aE=>?_
 replace U:=aE.aN U;replace J:=aE.AH J;have af:=J.cb
 exact hV ⟨rfl,U⟩ aGB):v:=h
theorem ame (h:v:=by
 rcases aqt bq with h | h | h
 .rw [aS] at h;cases h
 .exact absurd h jW
 .exact h):v:=h
theorem auK (aq:QR) (c0:Nat) (rs:List aM) (h0:rs) (gn:rs.length<=c0) (au:QR) (aw:Nat) (qs:List aZ) (h1:qs) (hi:qs.length<=aw) (bq:vq rs qs= none) (w:World) (bk:aX 7 aM.cells w aq rs) (bg:aX 3 aZ.cells w au qs):Rd 303 #[aq rs c0,au qs aw] w λe ah=>e= .returned (.tuple #[(),.agg #[(0:Int),(0:Int),false],false])/\Below w w ah:=by
 replace bk:=I bk;replace bg:=I bg
 cases aS:ee rs qs
 .have fh:=I aS;clear aS bq
  go_in
  go_upto_region 1 with fail
  refine dh λaO ar J=>?_
  have U:=ar;have af:=J.cb
  go_wp2_with fail
  refine (qh aq c0 rs h0 gn au aw qs h1 _ fh.o _ (bk.o.ad (ai U ao)) (bg.o.ad (ai U ao))).mono ?_
  exact anp
 by_cases jW:qs.length= 0
 .obtain rfl:=YD.1 jW
  have fh:=I aS;clear aS bq jW
  go_in
  go_upto_region 1 with fail
  refine dh λaO ar J=>?_
  have U:=ar;have af:=J.cb
  go_wp2_with fail
  refine (qh aq c0 rs h0 gn au aw [] h1 _ fh.o _ (bk.o.ad (ai U ao)) (bg.o.ad (ai U ao))).mono ?_
  exact anp
 have aT:mb rs qs= true:=by
  exact ame
 obtain⟨j,⟨qr,cQ,ei⟩,cc,bt⟩:=Oc aT
 obtain⟨eV,iA,_,rfl,_,_,_⟩:=bg.o.at_ (Wt _ _) (k:=j) KK
 have TK:Hid (oA rs qs= true):=I (by rw [oA,aS,aT];rfl);have ew:((j:Int) + 1 == 0)= false:=Xb.2 KK;have fl:=I (λW h ez=>qh aq c0 rs h0 gn (some ⟨eV,iA,none⟩) aw qs h1 _ aS W h ez);have fP:=I (λW h ez=>Hu aq c0 rs h0 gn (some ⟨eV,iA,none⟩) aw qs h1 _ TK.o W h ez)
 rw [cc] at fl fP ⊢
 clear aS bq aT bt cc jW h1 hi
 go_in
 go_upto_region 1 with fail
 refine dh λaO ar J=>?_
 have U:=ar;have af:=J.cb
 go_wp2_with fail
 refine (fl.o _ (bk.o.ad (ai U ao)) (bg.o.ad (ai U ao))).mono ?_
 rintro e aI ⟨rfl,aQ⟩
 have aj:=be aO aQ;replace U:=ai U aj;replace J:=J.to aj;replace af:=J.cb
 go_wp2_with fail
 refine (fP.o _ (bk.o.ad (ai U ao)) (bg.o.ad (ai U ao))).mono ?_
 rintro e bw ⟨rfl,bG⟩
 have aY:=be aI bG;replace U:=ai U aY;replace J:=J.to aY;replace af:=J.cb;have eg:=J.kH
 go_wp2
 clear af
 refine ra 0 λcP aE=>?_
 replace U:=aE.aN U;replace J:=aE.AH J;have af:=J.cb
 exact hV ⟨rfl,U⟩ aGB
theorem aks (h:v:=by
 refine XV ?_
 go_wp2
 first | exact hz ⟨(some ⟨k.world,0,none⟩,0),rfl,bP _ _,rfl,ay.new _ _ _⟩ | exact hz ⟨some ⟨k.world,0,none⟩,0,rfl,bP _ _,rfl,ay.new _ _ _⟩):v:=h
theorem amv (h:v:=by
 refine XV ?_
 obtain⟨gZ,uf,pn,⟨lJ,lb⟩,ld⟩:=fQ 0 (by simp [Vf])
 have jG:=lb.to ld;have iN:(bA 0).1= some ⟨gZ,0,none⟩:=lJ;have pa:=I (sw.o.ad ((qx.o _).1 k.holds));replace jG:=I jG;clear lb lJ pn ld fQ
 rw [iN]
 replace iN:=I iN
 go_wp2_with ((at_builtin;refine va rfl _ _ 37 rfl gZ 115 i0 _ 3 24 Tryz.underlying37 bo dP dZ dV rfl WG aZ.cells iT vQ gZ rfl jG.o (XZ _) (some ⟨eV,iA,none⟩) aw (qs.take j) j su.o.symm rfl pa.o (λh=>by cases h) (by have:=su.o;unfold maxLen;omega) (by have:=su.o;omega) ?_;intro bS dq ah fW fM))
 first | exact hz ⟨(some ⟨bS,0,none⟩,dq),rfl,fM,gZ,bS,iN.o,rfl,fW⟩ | exact hz ⟨some ⟨bS,0,none⟩,dq,rfl,fM,gZ,bS,iN.o,rfl,fW⟩):v:=h
theorem XC (aq:QR) (c0:Nat) (rs:List aM) (h0:rs) (gn:rs.length<=c0) (au:QR) (aw:Nat) (qs:List aZ) (h1:qs) (hi:qs.length<=aw) (j:Nat) (cc:qs.length= j + 1) (qr cQ:Int) (ei:Bool) (bt:qs[j]? =some ⟨qr,cQ,ei⟩) (aS:ee rs qs= true) (aT:mb rs qs= false) (w:World) (bk:aX 7 aM.cells w aq rs) (bg:aX 3 aZ.cells w au qs):Rd 303 #[aq rs c0,au qs aw] w λe ah=>
  ∃g c,e= .returned (.tuple #[.slice (some ⟨g,0,none⟩) (qs.take j).length c,.agg #[qr,cQ,ei],true])/\bn w 115 3 aZ.cells ah (.slice (some ⟨g,0,none⟩) (qs.take j).length c) (qs.take j)/\Below w w ah:=by
 obtain⟨i0,bo,dP,dZ,dV⟩:=Xo xd
 replace bk:=I bk;replace bg:=I bg
 obtain⟨t,cJ⟩:=pB aS bt
 obtain⟨eV,iA,_,rfl,_,_,_⟩:=bg.o.at_ (Wt _ _) (k:=j) KK
 have ax:mC t ⟨qr,cQ,ei⟩ =false:=(Dh cc bt cJ).symm.trans aT;have fT:=I cc;have eS:=I bt;have TK:Hid (oA rs qs= false):=I (by rw [oA,aS,aT];rfl)
 have iy:j<=1048576:=KK
 have WN:j<=aw:=KK
 have ew:((j:Int) + 1 == 0)= false:=Xb.2 KK
 have bC:(qs.take j).length= j:=by rw [YA];omega
 have su:=I bC;have sw:=I (HM bg.o j)
 rw [bC]
 have fl:=I (λW h ez=>qh aq c0 rs h0 gn (some ⟨eV,iA,none⟩) aw qs h1 _ aS W h ez);have fP:=I (λW h ez=>Hu aq c0 rs h0 gn (some ⟨eV,iA,none⟩) aw qs h1 _ TK.o W h ez)
 rw [cc] at fl fP ⊢
 clear aS aT ax cJ bt cc h1 hi bC
 go_in
 go_upto_region 1 with fail
 refine dh λaO ar J=>?_
 have U:=ar;have af:=J.cb
 go_wp2_with fail
 refine (fl.o _ (bk.o.ad (ai U ao)) (bg.o.ad (ai U ao))).mono ?_
 rintro e aI ⟨rfl,aQ⟩
 have aj:=be aO aQ;replace U:=ai U aj;replace J:=J.to aj;replace af:=J.cb
 go_wp2_with fail
 refine (fP.o _ (bk.o.ad (ai U ao)) (bg.o.ad (ai U ao))).mono ?_
 rintro e bw ⟨rfl,bG⟩
 have aY:=be aI bG;replace U:=ai U aY;replace J:=J.to aY;replace af:=J.cb
 go_upto_region 4 with fail
 have yl:=U.size;have RA:=J.lt
 obtain⟨ss,oo⟩ :∃X:World->Prop,∀V,X V↔(Below w w V):=⟨_,λ_=>Xt⟩
 have qx:=I oo;clear oo
 haveI:Nonempty (cM ss):=⟨⟨bw,((qx.o _).2 (U))⟩⟩
 clear af
 obtain⟨_,_,y,e9,eJ,hy,dC⟩:=bg.o.at_ (Wt _ _) (k:=j) YG
 cases e9
 obtain rfl:(⟨qr,cQ,ei⟩ :aZ)= y:=Wx (eS.o.symm.trans hy)
 clear hy;have tD:=dC;have cG:=tD 0 _ rfl;have dJ:=tD 1 _ rfl;have dt:=tD 2 _ rfl
 simp only [XW] at cG
 have g0:=λK:cM ss=>cG ⟨K.world,((qx.o _).1 K.holds)⟩
 have g1:=λK:cM ss=>dJ ⟨K.world,((qx.o _).1 K.holds)⟩
 have g2:=λK:cM ss=>dt ⟨K.world,((qx.o _).1 K.holds)⟩
 clear dC tD cG dJ dt
 refine DB (Vf j 4 (qs.take j)) ss [([],0),([1,2,3],4)] [5,6,7,8] [([9],10)] [11] PV PV ((qx.o _).2 (U.drew)) (λW fz h k=>((qx.o _).2 (((qx.o _).1 h).trans (k.mono ((qx.o _).1 h).size)))) ?_
 intro bA
 refine iP (some 26) rfl (.slice (bA 0).1 0 0) rfl λhE eu=>?_
 refine Xn ?_
 refine VF ?_
 refine⟨λk fQ=>?_,eu _ ?_⟩
 .exact aks
 simp only [Act.put]
 go_simp
 refine iP (some 30) rfl (.slice (bA 4).1 j (bA 4).2) rfl λhE eu=>?_
 refine YI ?_
 repeat go_big_quiet_step (fail)
 refine VF ?_
 refine⟨λk fQ=>?_,eu _ ?_⟩
 .exact amv
 simp only [Act.put]
 go_simp
 refine tU ?_
 refine Yo ?_
 repeat go_big_quiet_step (fail)
 refine VF ?_
 intro dy V W aC cv
 clear g0 g1 g2
 obtain⟨g,bS,e0,e4,Dp⟩ :∃g bS,(bA 0).1= some ⟨g,0,none⟩/\(bA 4).1= some ⟨bS,0,none⟩/\bn g 115 3 aZ.cells (V 4) (.slice (bA 4).1 (qs.take j).length (bA 4).2) (qs.take j):=aC.post 4 Wn
 obtain⟨a0,_⟩ :(bA 0).1= some ⟨(dy 0),0,none⟩/\ay (V 0) (dy 0) 115 #[]:=aC.post 0 Wn
 have s0:(dy 0).heap.size= g:=by rw [a0] at e0;exact Xc Addr.block (Wx e0)
 have cm:=(Dp.aK (aC.aK 4 Wn)).base (B':=bw) (by rw [<- s0];exact (aC.oj 0 Wn).size);have dK:Below bw bw W:=ai ao (aC.whole 4 Wn).rI;replace U:=ai U dK;replace J:=J.to dK;have af:=J.cb;clear aC Dp a0 e0 s0 cv
 generalize bA 4= lP at *
 obtain⟨D,d⟩:=lP
 simp only at cm e4
 subst e4
 rw [su.o] at cm
 refine gA λff da=>?_
 refine Xp ?_
 repeat go_big_quiet_step (fail)
 refine VF ?_
 refine XV ?_
 have eg:=J.kH
 have jf:∀k,(Value.slice (some ⟨bS,0,none⟩) j d).ownBlock= some k->¬k= w.heap.size:=λk ax e=>by have:=(cm.lt k ax).1;omega
 go_wp2
 clear af
 refine ra 0 λcP aE=>?_
 replace U:=aE.aN U;replace J:=aE.AH J;replace cm:=cm.cS aE jf;have af:=J.cb
 refine gb ((qx.o _).2 U) (da _ _ ?_)
 refine ky ?_
 refine Xp ?_
 repeat go_big_quiet_step (fail)
 refine VF ?_
 go_wp2
 refine XY (v:= .tuple #[.slice (some ⟨bS,0,none⟩) j d,.agg #[qr,cQ,ei],true]) aGB rfl ?_
 exact⟨bS,d,rfl,cm.base KK,U⟩
theorem aml (h:v:=by
 rintro e aI ⟨rfl,aQ⟩
 have aj:=be aO aQ;replace U:=ai U aj;replace J:=J.to aj
 replace z0:=J.cb
 have eg:=J.kH;have eE:=J.lt;have vh:=I U;have js:=I J;have arA:=(J.alloc (.cells #[] 115)).frozen 0
 go_wp2
 have dB:=(((js.o.ey 0 (.int .i64 0)).ey 1 (.int .i64 0)).ey 2 (.bool false)).alloc (.cells #[] 115);have aHk:=dB.cb;have om:Below w w (((aI.setCell ⟨w,0,none⟩ (.int .i64 0)).setCell ⟨w,1,none⟩ (.int .i64 0)).setCell ⟨w,2,none⟩ (.bool false)):=((vh.o.setCell (XZ w) _).setCell (XZ w) _).setCell (XZ w) _
 refine XY (v:= .tuple #[.slice aI 0 0,.agg #[(0:Int),(0:Int),false],false]) (by simp [results,Tryz.results286,go_sem,aHk]) rfl ?_
 exact⟨_,_,rfl,om.alloc om.size _⟩):v:=h
theorem azF (aq:QR) (c0:Nat) (rs:List aM) (h0:rs) (gn:rs.length<=c0) (au:QR) (aw:Nat) (qs:List aZ) (h1:qs) (hi:qs.length<=aw) (bq:vq rs qs= none) (w:World) (bk:aX 7 aM.cells w aq rs) (bg:aX 3 aZ.cells w au qs):Rd 286 #[aq rs c0,au qs aw] w λe ah=>∃A c,e= .returned (.tuple #[.slice A 0 c,.agg #[(0:Int),(0:Int),false],false])/\Below w w ah:=by
 replace bk:=I bk;replace bg:=I bg
 cases aS:ee rs qs
 .have fh:=I aS;clear aS bq
  go_in
  go_upto_region 1 with fail
  refine dh λaO ar J=>?_
  have U:=ar
  obtain⟨z0,bF,z2⟩:=J.cb
  go_wp2_with fail
  refine (nz aq c0 rs h0 au aw qs h1 _ fh.o _ (bk.o.ad (ai U ao)) (bg.o.ad (ai U ao))).mono ?_
  exact aml
 by_cases jW:qs.length= 0
 .obtain rfl:=YD.1 jW
  have fh:=I aS;clear aS bq jW
  go_in
  go_upto_region 1 with fail
  refine dh λaO ar J=>?_
  have U:=ar
  obtain⟨z0,bF,z2⟩:=J.cb
  go_wp2_with fail
  refine (nz aq c0 rs h0 au aw [] h1 _ fh.o _ (bk.o.ad (ai U ao)) (bg.o.ad (ai U ao))).mono ?_
  exact aml
 have aT:mb rs qs= true:=by
  exact ame
 obtain⟨j,⟨qr,cQ,ei⟩,cc,bt⟩:=Oc aT
 obtain⟨t,cJ⟩:=pB aS bt
 obtain⟨eV,iA,_,rfl,_,_,_⟩:=bg.o.at_ (Wt _ _) (k:=j) KK
 have ax:mC t ⟨qr,cQ,ei⟩ =true:=(Dh cc bt cJ).symm.trans aT;have fT:=I cc;have eS:=I bt;have bX:=I cJ;have gF:=I ax
 have iy:j<=1048576:=KK
 have ew:((j:Int) + 1 == 0)= false:=Xb.2 KK;have fl:=I (λW h ez=>nz aq c0 rs h0 (some ⟨eV,iA,none⟩) aw qs h1 _ aS W h ez)
 rw [cc] at fl ⊢
 clear aS bq aT ax cJ bt cc jW h1 hi
 go_in
 go_upto_region 1 with fail
 refine dh λaO ar J=>?_
 have U:=ar
 obtain⟨z0,bF,z2⟩:=J.cb
 go_wp2_with fail
 refine (fl.o _ (bk.o.ad (ai U ao)) (bg.o.ad (ai U ao))).mono ?_
 rintro e aI ⟨rfl,aQ⟩
 have aj:=be aO aQ;replace U:=ai U aj;replace J:=J.to aj;clear z0 bF z2
 obtain⟨z0,bF,z2⟩:=J.cb
 obtain⟨_,_,y,e9,eJ,hy,dC⟩:=bg.o.at_ U (k:=j) YG
 cases e9
 obtain rfl:(⟨qr,cQ,ei⟩ :aZ)= y:=Wx (eS.o.symm.trans hy)
 clear hy;have cG:=dC 0 _ rfl;have dJ:=dC 1 _ rfl;have dt:=dC 2 _ rfl
 simp only [XW] at cG
 have g0:=cG (aD.self _);have g1:=dJ (aD.self _);have g2:=dt (aD.self _)
 simp only [aD.self] at g0
 simp only [aD.self] at g1
 simp only [aD.self] at g2
 clear dC cG dJ dt
 go_wp2_with fail
 refine (sT h0 ⟨qr,cQ,ei⟩ t bX.o true gF.o (bk.o.ad (ai U ao))).mono ?_
 rintro e bw ⟨rfl,bG⟩
 have aY:=be aI bG;replace U:=ai U aY;replace J:=J.to aY;clear z0 bF z2
 obtain⟨z0,bF,z2⟩:=J.cb
 clear g0 g1 g2;have eg:=J.kH;have eE:=J.lt;have vh:=I U;have js:=I J;have arA:=(J.alloc (.cells #[] 115)).frozen 0
 go_wp2
 have dB:=(((js.o.ey 0 (.int .i64 0)).ey 1 (.int .i64 0)).ey 2 (.bool false)).alloc (.cells #[] 115);obtain⟨aHk,ZM,ZN⟩:=dB.cb;have om:Below w w (((bw.setCell ⟨w,0,none⟩ (.int .i64 0)).setCell ⟨w,1,none⟩ (.int .i64 0)).setCell ⟨w,2,none⟩ (.bool false)):=((vh.o.setCell (XZ w) _).setCell (XZ w) _).setCell (XZ w) _
 refine XY (v:= .tuple #[.slice bw 0 0,.agg #[(0:Int),(0:Int),false],false]) (by simp [results,Tryz.results286,go_sem,aHk,ZM,ZN]) rfl ?_
 exact⟨_,_,rfl,om.alloc om.size _⟩
theorem Yp (h:wpQuiet P O C Q [x0,x1,x2,x3,x4] a):wpQuiet P O C Q [x0,x1,x2,x3,x4] a:=h
theorem SK (aq:QR) (c0:Nat) (rs:List aM) (h0:rs) (gn:rs.length<=c0) (au:QR) (aw:Nat) (qs:List aZ) (h1:qs) (hi:qs.length<=aw) (j:Nat) (cc:qs.length= j + 1) (qr cQ:Int) (ei:Bool) (bt:qs[j]? =some ⟨qr,cQ,ei⟩) (aS:ee rs qs= true) (aT:mb rs qs= false) (w:World) (bk:aX 7 aM.cells w aq rs) (bg:aX 3 aZ.cells w au qs):Rd 286 #[aq rs c0,au qs aw] w λe ah=>
  ∃g c,e= .returned (.tuple #[.slice (some ⟨g,0,none⟩) (qs.take j).length c,.agg #[qr,cQ,ei],true])/\bn w 115 3 aZ.cells ah (.slice (some ⟨g,0,none⟩) (qs.take j).length c) (qs.take j)/\Below w w ah:=by
 obtain⟨i0,bo,dP,dZ,dV⟩:=Xo xd
 replace bk:=I bk;replace bg:=I bg
 obtain⟨t,cJ⟩:=pB aS bt
 obtain⟨eV,iA,_,rfl,_,_,_⟩:=bg.o.at_ (Wt _ _) (k:=j) KK
 have ax:mC t ⟨qr,cQ,ei⟩ =false:=(Dh cc bt cJ).symm.trans aT;have fT:=I cc;have eS:=I bt;have bX:=I cJ;have gF:=I ax
 have iy:j<=1048576:=KK
 have WN:j<=aw:=KK
 have ew:((j:Int) + 1 == 0)= false:=Xb.2 KK
 have bC:(qs.take j).length= j:=by rw [YA];omega
 have su:=I bC;have sw:=I (HM bg.o j)
 rw [bC]
 have fl:=I (λW h ez=>nz aq c0 rs h0 (some ⟨eV,iA,none⟩) aw qs h1 _ aS W h ez)
 rw [cc] at fl ⊢
 clear aS aT ax cJ bt cc h1 hi bC
 go_in
 go_upto_region 1 with fail
 refine dh λaO ar J=>?_
 have U:=ar;have af:=J.cb
 go_wp2_with fail
 refine (fl.o _ (bk.o.ad (ai U ao)) (bg.o.ad (ai U ao))).mono ?_
 rintro e aI ⟨rfl,aQ⟩
 have aj:=be aO aQ;replace U:=ai U aj;replace J:=J.to aj;replace af:=J.cb
 obtain⟨_,_,y,e9,eJ,hy,dC⟩:=bg.o.at_ U (k:=j) YG
 cases e9
 obtain rfl:(⟨qr,cQ,ei⟩ :aZ)= y:=Wx (eS.o.symm.trans hy)
 clear hy;have cG:=dC 0 _ rfl;have dJ:=dC 1 _ rfl;have dt:=dC 2 _ rfl
 simp only [XW] at cG
 have g0:=cG (aD.self _);have g1:=dJ (aD.self _);have g2:=dt (aD.self _)
 simp only [aD.self] at g0
 simp only [aD.self] at g1
 simp only [aD.self] at g2
 clear dC cG dJ dt
 go_wp2_with fail
 refine (sT h0 ⟨qr,cQ,ei⟩ t bX.o false gF.o (bk.o.ad (ai U ao))).mono ?_
 rintro e bw ⟨rfl,bG⟩
 have aY:=be aI bG;replace U:=ai U aY;replace J:=J.to aY;replace af:=J.cb;clear g0 g1 g2
 go_upto_region 4 with fail
 have yl:=U.size;have RA:=J.lt
 obtain⟨ss,oo⟩ :∃X:World->Prop,∀V,X V↔(Below w w V):=⟨_,λ_=>Xt⟩
 have qx:=I oo;clear oo
 haveI:Nonempty (cM ss):=⟨⟨bw,((qx.o _).2 (U))⟩⟩
 clear af
 obtain⟨_,_,y,e9,eJ,hy,dC⟩:=bg.o.at_ (Wt _ _) (k:=j) YG
 cases e9
 obtain rfl:(⟨qr,cQ,ei⟩ :aZ)= y:=Wx (eS.o.symm.trans hy)
 clear hy;have tD:=dC;have cG:=tD 0 _ rfl;have dJ:=tD 1 _ rfl;have dt:=tD 2 _ rfl
 simp only [XW] at cG
 have g0:=λK:cM ss=>cG ⟨K.world,((qx.o _).1 K.holds)⟩
 have g1:=λK:cM ss=>dJ ⟨K.world,((qx.o _).1 K.holds)⟩
 have g2:=λK:cM ss=>dt ⟨K.world,((qx.o _).1 K.holds)⟩
 clear dC tD cG dJ dt
 refine DB (Vf j 5 (qs.take j)) ss [([],0),([1,2,3,4],5)] [6,7,8,9,10] [([11],12)] [13] PV PV ((qx.o _).2 (U.drew)) (λW fz h k=>((qx.o _).2 (((qx.o _).1 h).trans (k.mono ((qx.o _).1 h).size)))) ?_
 intro bA
 refine iP (some 29) rfl (.slice (bA 0).1 0 0) rfl λhE eu=>?_
 refine Xn ?_
 refine VF ?_
 refine⟨λk fQ=>?_,eu _ ?_⟩
 .exact aks
 simp only [Act.put]
 go_simp
 refine iP (some 34) rfl (.slice (bA 5).1 j (bA 5).2) rfl λhE eu=>?_
 refine Yo ?_
 repeat go_big_quiet_step (fail)
 refine VF ?_
 refine⟨λk fQ=>?_,eu _ ?_⟩
 .exact amv
 simp only [Act.put]
 go_simp
 refine tU ?_
 refine Yp ?_
 repeat go_big_quiet_step (fail)
 refine VF ?_
 intro dy V W aC cv
 clear g0 g1 g2
 obtain⟨g,bS,e0,e4,Dp⟩ :∃g bS,(bA 0).1= some ⟨g,0,none⟩/\(bA 5).1= some ⟨bS,0,none⟩/\bn g 115 3 aZ.cells (V 5) (.slice (bA 5).1 (qs.take j).length (bA 5).2) (qs.take j):=aC.post 5 Wn
 obtain⟨a0,_⟩ :(bA 0).1= some ⟨(dy 0),0,none⟩/\ay (V 0) (dy 0) 115 #[]:=aC.post 0 Wn
 have s0:(dy 0).heap.size= g:=by rw [a0] at e0;exact Xc Addr.block (Wx e0)
 have cm:=(Dp.aK (aC.aK 5 Wn)).base (B':=bw) (by rw [<- s0];exact (aC.oj 0 Wn).size);have dK:Below bw bw W:=ai ao (aC.whole 5 Wn).rI;replace U:=ai U dK;replace J:=J.to dK;have af:=J.cb;clear aC Dp a0 e0 s0 cv
 generalize bA 5= lP at *
 obtain⟨D,d⟩:=lP
 simp only at cm e4
 subst e4
 rw [su.o] at cm
 refine gA λff da=>?_
 refine Xp ?_
 repeat go_big_quiet_step (fail)
 refine VF ?_
 refine XV ?_
 have eg:=J.kH
 have jf:∀k,(Value.slice (some ⟨bS,0,none⟩) j d).ownBlock= some k->¬k= w.heap.size:=λk ax e=>by have:=(cm.lt k ax).1;omega
 go_wp2
 clear af
 refine ra 0 λcP aE=>?_
 replace U:=aE.aN U;replace J:=aE.AH J;replace cm:=cm.cS aE jf;have af:=J.cb
 refine gb ((qx.o _).2 U) (da _ _ ?_)
 refine ky ?_
 refine Xp ?_
 repeat go_big_quiet_step (fail)
 refine VF ?_
 go_wp2
 refine XY (v:= .tuple #[.slice (some ⟨bS,0,none⟩) j d,.agg #[qr,cQ,ei],true]) (by simp [results,Tryz.results286,go_sem,af]) rfl ?_
 exact⟨bS,d,rfl,cm.base KK,U⟩
theorem awo (dz y n a:Int) (h:0<=y/\y<=1000/\0<=n/\n<=1000) (v:Bool) (az:sA dz y n= v) (w:World):
 Rd 288 #[dz,.agg #[y,n,a]] w λe ah=>e= .returned v/\Below w w ah:=by
 go_in
 go_wp2_with (go_at_call 316;refine (awp _ _ _ KK KK KK KK _ az _).mono ?_;rintro e ah ⟨rfl,rfl⟩)
 go_ret
 exact⟨rfl,bP _ _⟩
theorem ajJ {y n a:Int} (h:ym y n a= true):(0<=y/\y<=1000)/\(0<=n/\n<=1000):=by
 simp only [ym,Xa,qT] at h
 exact⟨h.1,h.2.1⟩
theorem axr {B:Nat} {w:World} {bN bZ bI:QR} {d0 d1 d4:Nat} (h0:bn B 89 7 aM.cells w (bN rs d0) rs) (h1:bn B 115 3 aZ.cells w (bZ qs d1) qs) (h4:bn B 163 3 Out.cells w (bI os d4) os):
 fu B w bN d0 bZ d1 none 0 none 0 bI d4 rs qs [] [] os:=⟨h0,h1,bn.nil,bn.nil,h4⟩
theorem akv (h:v:=by
 have af:=J.aH;have eg:=J.iX
 go_wp2
 clear af
 refine iO 0 λcP aE=>?_
 replace U:=aE.aN U;replace J:=aE.iV J;have af:=J.aH
 exact hV ⟨rfl,U⟩ aGC):v:=h
theorem avI (Z:KL) (mem val:Int) {no:Int} (az:sk KL ⟨7,mem,val,yes,no,bR⟩ =none) {w:World} (R:eF w aq au ak al aF rs qs ws ae os):
 Rd 253 #[.agg KL,.agg #[yes,no,bR]] w λe ah=>e= .returned (.tuple #[.agg #[(),(),(0:Int),(0:Int),(0:Int),(),(),()],false])/\Below w w ah:=by
 replace R:=I R;replace Z:=I Z
 cases cr:vq rs qs with
 | none=>
  have lC:=I cr;clear cr az
  go_in
  go_upto_region 1 with fail
  refine gY λaO ar ag dN J=>?_
  have U:=ar;have aJ:=ag.aH;have af:=J.aH
  go_wp2_with fail
  refine (auK aq c0 rs Z.o.h0 Z.o.ev au aw qs Z.o.h1 Z.o.eU lC.o _ (R.o.fC.ad (ai U ao)) (R.o.dM.ad (ai U ao))).mono ?_
  rintro e aI ⟨rfl,aQ⟩
  have aj:=be aO aQ;replace U:=ai U aj;clear aJ;replace J:=J.to aj;replace af:=J.aH
  go_upto_region 2 with fail
  refine dh λuX aY eA=>?_
  replace U:=ai U aY;clear af;replace J:=J.to aY
  exact akv
 | some pq=>
  obtain⟨ps,⟨qr,cQ,ei⟩⟩:=pq
  obtain⟨j,cc,bt,qP,aS,aT⟩:=acZ cr
  subst qP
  have fT:=I cc;have eS:=I bt;have fh:=I aS;have hp:=I aT
  cases cJ:ym yes no bR
  case false=>
   have bX:=I cJ;clear cr az cc bt aS aT cJ
   go_in
   go_upto_region 1 with fail
   refine gY λaO ar ag dN J=>?_
   have U:=ar;have aJ:=ag.aH;have gr:=dN.cb;have af:=J.aH
   go_wp2_with fail
   refine (XC aq c0 rs Z.o.h0 Z.o.ev au aw qs Z.o.h1 Z.o.eU j fT.o qr cQ ei eS.o fh.o hp.o _ (R.o.fC.ad (ai U ao)) (R.o.dM.ad (ai U ao))).mono ?_
   rintro e aI ⟨g1,d1,rfl,cm,aQ⟩
   have aj:=be aO aQ;replace U:=ai U aj;clear aJ;replace dN:=dN.to aj;replace gr:=dN.cb;replace J:=J.to aj;replace af:=J.aH;clear cm
   go_upto_region 2 with fail
   refine dh λuX aY eA=>?_
   replace U:=ai U aY;replace dN:=dN.to aY;replace gr:=dN.cb;replace J:=J.to aY;replace af:=J.aH
   go_wp2_with fail
   refine (XH yes no bR _ bX.o _).mono ?_
   rintro e bH ⟨rfl,db⟩
   have cj:=be uX db;replace U:=ai U cj;clear gr;replace J:=J.to cj;clear af
   exact akv
  case true=>
   have dn:os.length= 12:=by
    by_cases h:os.length= 12
    .exact h
    .simp [sk,cr,cJ,h] at az
   have Nz:((os.length:Int) == 12)= true:=by rw [dn];rfl
   have bX:=I cJ;clear cr az cc bt aS aT cJ dn
   go_in
   go_upto_region 1 with fail
   refine gY λaO ar ag dN J=>?_
   have U:=ar;have aJ:=ag.aH;have gr:=dN.cb;have af:=J.aH
   go_wp2_with fail
   refine (XC aq c0 rs Z.o.h0 Z.o.ev au aw qs Z.o.h1 Z.o.eU j fT.o qr cQ ei eS.o fh.o hp.o _ (R.o.fC.ad (ai U ao)) (R.o.dM.ad (ai U ao))).mono ?_
   rintro e aI ⟨g1,d1,rfl,cm,aQ⟩
   have aj:=be aO aQ;replace U:=ai U aj;replace ag:=ag.to aj;replace aJ:=ag.aH;replace dN:=dN.to aj;replace gr:=dN.cb;replace J:=J.to aj;replace af:=J.aH;clear cm
   go_upto_region 2 with fail
   refine dh λuX aY eA=>?_
   replace U:=ai U aY;replace ag:=ag.to aY;replace aJ:=ag.aH;replace dN:=dN.to aY;replace gr:=dN.cb;replace J:=J.to aY;replace af:=J.aH
   go_wp2_with fail
   refine (XH yes no bR _ bX.o _).mono ?_
   rintro e bH ⟨rfl,db⟩
   have cj:=be uX db;replace U:=ai U cj;replace ag:=ag.to cj;replace aJ:=ag.aH;clear gr;replace J:=J.to cj;replace af:=J.aH;have eg:=J.iX
   go_wp2
   clear aJ af
   refine iO 0 λcP aE=>?_
   replace U:=aE.aN U;replace J:=aE.iV J;have af:=J.aH
   exact hV ⟨rfl,U⟩ aGC
theorem akw (h:v:=by
 have af:=J.aH;have eg:=J.iX
 go_wp2
 clear af
 refine iO 0 λcP aE=>?_
 replace U:=aE.aN U;replace J:=aE.iV J;have af:=J.aH
 exact hV ⟨rfl,U⟩ aGD):v:=h
theorem aku (h:v:=by
 have af:=J.aH;have eg:=J.iX
 go_wp2
 clear aJ af
 refine iO 0 λcP aE=>?_
 replace U:=aE.aN U;replace J:=aE.iV J;have af:=J.aH
 exact hV ⟨rfl,U⟩ aGD):v:=h
theorem aAv (Z:KL) (mem val:Int) {no:Int} (az:sp≠0\/sk KL ⟨7,mem,val,yes,no,bR⟩ =none) {w:World} (R:eF w aq au ak al aF rs qs ws ae os):
 Rd 232 #[.agg KL,.agg #[yes,no,bR]] w λe ah=>e= .returned (.tuple #[.agg #[(),(),(0:Int),(0:Int),(0:Int),(),(),()],false])/\Below w w ah:=by
 replace R:=I R;replace Z:=I Z
 cases cr:vq rs qs with
 | none=>
  have lC:=I cr;clear cr az
  go_in
  go_upto_region 1 with fail
  refine gY λaO ar ag dN J=>?_
  have U:=ar;have aJ:=ag.aH;have af:=J.aH
  go_wp2_with fail
  refine (azF aq c0 rs Z.o.h0 Z.o.ev au aw qs Z.o.h1 Z.o.eU lC.o _ (R.o.fC.ad (ai U ao)) (R.o.dM.ad (ai U ao))).mono ?_
  rintro e aI ⟨A9,c9,rfl,aQ⟩
  have aj:=be aO aQ;replace U:=ai U aj;clear aJ;replace J:=J.to aj;replace af:=J.aH
  go_upto_region 2 with fail
  refine dh λuX aY eA=>?_
  replace U:=ai U aY;clear af;replace J:=J.to aY
  exact akw
 | some pq=>
  obtain⟨ps,⟨qr,cQ,ei⟩⟩:=pq
  obtain⟨j,cc,bt,qP,aS,aT⟩:=acZ cr
  subst qP
  have fT:=I cc;have eS:=I bt;have fh:=I aS;have hp:=I aT
  by_cases tI:sp= 0
  case neg=>
   have aP:(sp != 0)= true:=by simpa using tI
   clear cr az cc bt aS aT tI
   go_in
   go_upto_region 1 with fail
   refine gY λaO ar ag dN J=>?_
   have U:=ar;have aJ:=ag.aH;have af:=J.aH
   go_wp2_with fail
   refine (SK aq c0 rs Z.o.h0 Z.o.ev au aw qs Z.o.h1 Z.o.eU j fT.o qr cQ ei eS.o fh.o hp.o _ (R.o.fC.ad (ai U ao)) (R.o.dM.ad (ai U ao))).mono ?_
   rintro e aI ⟨g1,d1,rfl,cm,aQ⟩
   have aj:=be aO aQ;replace U:=ai U aj;replace ag:=ag.to aj;replace aJ:=ag.aH;replace J:=J.to aj;replace af:=J.aH;clear cm
   go_upto_region 2 with fail
   refine dh λuX aY eA=>?_
   replace U:=ai U aY;replace ag:=ag.to aY;replace aJ:=ag.aH;clear af;replace J:=J.to aY
   exact aku
  case pos=>
  have aP:(sp != 0)= false:=by simpa using tI
  have az:sk ⟨rs,qs,tu,se,sp,ws,ae,os⟩ ⟨7,mem,val,yes,no,bR⟩ =none:=az.resolve_left (λh=>h tI);clear tI
  cases cJ:ym yes no bR
  case false=>
   have bX:=I cJ;clear cr az cc bt aS aT cJ
   go_in
   go_upto_region 1 with fail
   refine gY λaO ar ag dN J=>?_
   have U:=ar;have aJ:=ag.aH;have gr:=dN.cb;have af:=J.aH
   go_wp2_with fail
   refine (SK aq c0 rs Z.o.h0 Z.o.ev au aw qs Z.o.h1 Z.o.eU j fT.o qr cQ ei eS.o fh.o hp.o _ (R.o.fC.ad (ai U ao)) (R.o.dM.ad (ai U ao))).mono ?_
   rintro e aI ⟨g1,d1,rfl,cm,aQ⟩
   have aj:=be aO aQ;replace U:=ai U aj;replace ag:=ag.to aj;replace aJ:=ag.aH;replace dN:=dN.to aj;replace gr:=dN.cb;replace J:=J.to aj;replace af:=J.aH;clear cm
   go_upto_region 2 with fail
   refine dh λuX aY eA=>?_
   replace U:=ai U aY;replace ag:=ag.to aY;replace aJ:=ag.aH;replace dN:=dN.to aY;replace gr:=dN.cb;replace J:=J.to aY;replace af:=J.aH
   go_wp2_with fail
   refine (XK yes no bR _ bX.o _).mono ?_
   rintro e bH ⟨rfl,db⟩
   have cj:=be uX db;replace U:=ai U cj;clear aJ;clear gr;replace J:=J.to cj;clear af
   exact akw
  case true=>
   have dn:os.length= 12:=by
    by_cases h:os.length= 12
    .exact h
    .simp [sk,cr,cJ,h] at az
   have Nz:((os.length:Int) == 12)= true:=by rw [dn];rfl
   have bX:=I cJ;clear cr az cc bt aS aT cJ dn
   go_in
   go_upto_region 1 with fail
   refine gY λaO ar ag dN J=>?_
   have U:=ar;have aJ:=ag.aH;have gr:=dN.cb;have af:=J.aH
   go_wp2_with fail
   refine (SK aq c0 rs Z.o.h0 Z.o.ev au aw qs Z.o.h1 Z.o.eU j fT.o qr cQ ei eS.o fh.o hp.o _ (R.o.fC.ad (ai U ao)) (R.o.dM.ad (ai U ao))).mono ?_
   rintro e aI ⟨g1,d1,rfl,cm,aQ⟩
   have aj:=be aO aQ;replace U:=ai U aj;replace ag:=ag.to aj;replace aJ:=ag.aH;replace dN:=dN.to aj;replace gr:=dN.cb;replace J:=J.to aj;replace af:=J.aH;clear cm
   go_upto_region 2 with fail
   refine dh λuX aY eA=>?_
   replace U:=ai U aY;replace ag:=ag.to aY;replace aJ:=ag.aH;replace dN:=dN.to aY;replace gr:=dN.cb;replace J:=J.to aY;replace af:=J.aH
   go_wp2_with fail
   refine (XK yes no bR _ bX.o _).mono ?_
   rintro e bH ⟨rfl,db⟩
   have cj:=be uX db;replace U:=ai U cj;replace ag:=ag.to cj;replace aJ:=ag.aH;clear gr;replace J:=J.to cj;clear af
   exact aku
def aBP (jv:Bool) (o:Out):mZ Nat where
 par:=λ_=>[]
 val:=λn p=>match n with
  | 8=> .bool jv
  | 10=> .slice (some ⟨p,0,none⟩) 1 1
  | _=>undef
 post:=λn _ p dy V=>match n with
  | 10=>dy.heap.size= p/\ay V p 163 #[.int .i64 o.rule,.int .i64 o.mover,.bool o.jv]
  | _=>True
theorem akF (h:v:=by
 have h0:i= 0:=by have:=(Xg.1 hy).1;simp at this;omega
 subst h0;simp at hy;subst hy
 rw [Xy,YF]
 exact (sF.cell _).trans (by simpa [Out.cells] using hu)):v:=h
theorem akK (h:v:=by
 exact⟨bN,d0,some ⟨g1,0,none⟩,d1,none,0,none,0,Y,iC,rfl,axr (cn.base KK) (by rw [iy.o];exact cm.base KK) (by rw [Px.o];exact cx.base KK),U⟩):v:=h
theorem aAw (aq au ak al aF:QR) (c0 aw c2 c3 c4:Nat) (rs:List aM) (qs:List aZ) (tu se sp:Int) (ws:List Int) (ae:List aW) (os:List Out) (Z:fa aq au ak al aF c0 aw c2 c3 c4 rs qs ws ae os) (yes no bR:Int) (aP:(sp != 0)= false) (j:Nat) (cc:qs.length= j + 1) (qr cQ:Int) (ei:Bool) (bt:qs[j]? =some ⟨qr,cQ,ei⟩) (aS:ee rs qs= true) (aT:mb rs qs= false) (cJ:ym yes no bR= true) (dn:os.length < 12) (w:World) (R:eF w aq au ak al aF rs qs ws ae os):
 Rd 232 #[.agg #[aq rs c0,au qs aw,tu,se,sp,ak ws c2,al ae c3,aF os c4],.agg #[yes,no,bR]] w λe ah=>∃bN d0 bZ d1 aU d2 bd d3 bI d4,e= .returned (.tuple #[.agg #[.slice bN rs d0,.slice bZ (qs.take j).length d1,tu,se,(0:Int),.slice aU ([]:List Int).length d2,.slice bd ([]:List aW).length d3,.slice bI (os ++ [(⟨qr,cQ,sA (ya rs ⟨qr,cQ,ei⟩) yes no⟩ :Out)]).length d4],true])/\fu w ah bN d0 bZ d1 aU d2 bd d3 bI d4 rs (qs.take j) [] [] (os ++ [(⟨qr,cQ,sA (ya rs ⟨qr,cQ,ei⟩) yes no⟩ :Out)])/\Below w w ah:=by
 obtain⟨i0,bo,dP,dZ,dV⟩:=Xo NS
 replace R:=I R;replace Z:=I Z
 obtain⟨⟨oS,uT,HQ,dQ,rd,yc,rx,Kn⟩,bu⟩:=pB aS bt
 obtain⟨jv,wP⟩ :∃jv,sA (ya rs ⟨qr,cQ,ei⟩) yes no= jv:=⟨_,rfl⟩
 have ew:ya rs ⟨qr,cQ,ei⟩ =rx:=by simp only [ya];rw [bu]
 have lY:=ajJ cJ
 rw [wP]
 rw [ew] at wP
 have pv:(os ++ [(⟨qr,cQ,jv⟩ :Out)]).length= os.length + 1:=Wn
 rw [pv]
 have Px:=I pv;have Nz:((os.length:Int) == 12)= false:=Xb.2 KK
 have iy:(qs.take j).length= j:=by rw [YA];omega
 rw [iy]
 refine XI ?_ cc aS aT cJ bu wP iy;clear cc aS aT cJ bu wP iy;intro cc aS aT cJ bu wP iy;have eS:=I bt;clear bt ew pv
 go_in
 go_upto_region 1 with fail
 refine gY λaO ar ag dN J=>?_
 have U:=ar
 obtain⟨f0,f1,f2,f3,f4,f5,f6,f7⟩:=ag.aH
 have gr:=dN.cb;have af:=J.aH;have hC:=J.lt
 go_wp2_with fail
 refine (SK aq c0 rs Z.o.h0 Z.o.ev au aw qs Z.o.h1 Z.o.eU j cc.o qr cQ ei eS.o aS.o aT.o _ (R.o.fC.ad (ai U ao)) (R.o.dM.ad (ai U ao))).mono ?_
 rintro e aI ⟨g1,d1,rfl,cm,aQ⟩
 have aj:=be aO aQ;replace U:=ai U aj;replace ag:=ag.to aj;clear f0 f1 f2 f3 f4 f5 f6 f7
 obtain⟨f0,f1,f2,f3,f4,f5,f6,f7⟩:=ag.aH
 replace dN:=dN.to aj;replace gr:=dN.cb;replace J:=J.to aj;replace af:=J.aH
 rw [iy.o]
 rw [iy.o] at cm
 go_upto_region 2 with fail
 refine Xi λuX aY eA=>?_;have LX:=cm.aK aY
 replace U:=ai U aY
 obtain⟨ho,q1,gM⟩:=eA.cb
 clear f0 f1 f2 f3 f4 f5 f6 f7;replace ag:=ag.to aY
 obtain⟨f0,f1,f2,f3,f4,f5,f6,f7⟩:=ag.aH
 replace dN:=dN.to aY;replace gr:=dN.cb;replace J:=J.to aY;replace af:=J.aH;replace cm:=LX;clear LX
 go_wp2_with fail
 refine (XK yes no bR _ cJ.o _).mono ?_
 rintro e bH ⟨rfl,db⟩
 have cj:=be uX db;replace U:=ai U cj;replace cm:=cm.aK cj;replace ag:=ag.to cj;clear f0 f1 f2 f3 f4 f5 f6 f7
 obtain⟨f0,f1,f2,f3,f4,f5,f6,f7⟩:=ag.aH
 replace dN:=dN.to cj;replace gr:=dN.cb;replace J:=J.to cj;replace af:=J.aH;replace eA:=eA.to cj;clear ho q1 gM
 obtain⟨ho,q1,gM⟩:=eA.cb
 obtain⟨awh,WM,xb⟩:=uM bu.o
 have sS:=(Xg.1 xb).1
 obtain⟨dD,jg,fC,hA0,po,lN,hB⟩:=R.o.fC.at_ U sS
 obtain rfl:=Wx (lN.symm.trans xb)
 have ayY:=hB 6 _ rfl;replace WM:=I WM;have rJ:=I hA0;clear hB lN xb hA0
 go_upto_region 4 with fail
 clear f0 f1 f2 f3 f4 f5 f6 f7
 obtain⟨f0,f1,f2,f3,f4,f5,f6,f7⟩:=ay.qF (λK:aD bH bH=>(ag.ad K.ad ag.lt))
 replace gr:=ay.kF (λK:aD bH bH=>(dN.ad K.ad dN.lt));replace af:=ay.qF (λK:aD bH bH=>(J.ad K.ad J.lt));clear ho q1 gM
 obtain⟨ho,q1,gM⟩:=ay.kF (λK:aD bH bH=>(eA.ad K.ad eA.lt))
 have adt:=λK=>(f0 K).trans (show some (Value.slice aq rs c0)= some (Value.slice (some ⟨dD,jg,none⟩) rs c0) by rw [rJ.o])
 replace f0:=adt;clear adt;have aoE:Hid (∀K:aD bH bH,aX 7 aM.cells K.world (some ⟨dD,jg,none⟩) rs):=I (λK=>by have h:=R.o.fC.ad (ai U K.ad);rw [rJ.o] at h;exact h)
 refine eQ PV PV ?_
 repeat go_big_quiet_step (fail)
 go_big_quiet_step ((go_at_call 72;exact aD.same _ (xW Z.o.h0 awh WM.o (aoE.o _))))
 repeat go_big_quiet_step (fail)
 refine VF ?_
 intro K
 clear ayY;clear f0 f1 f2 f3 f4 f5 f6 f7;clear ho q1 gM;have dK:Below bH bH K.world:=ai ao K.ad;replace U:=ai U dK;replace cm:=cm.aK dK;replace ag:=ag.to dK
 obtain⟨f0,f1,f2,f3,f4,f5,f6,f7⟩:=ag.aH
 replace dN:=dN.to dK;replace gr:=dN.cb;replace J:=J.to dK;replace af:=J.aH;replace eA:=eA.to dK
 obtain⟨ho,q1,gM⟩:=eA.cb
 have KB:=U.size
 go_wp2_with fail
 refine (ago Z.o (R.o.ad (ai U ao))).mono ?_
 rintro e dk ⟨bN,d0,bI,d4,rfl,cn,cx,iH⟩
 have gm:Below K.world K.world dk:=ai ao iH;replace U:=ai U gm;replace cm:=cm.aK gm;replace ag:=ag.to gm;clear f0 f1 f2 f3 f4 f5 f6 f7;replace dN:=dN.to gm;replace gr:=dN.cb;replace J:=J.to gm;replace af:=J.aH;replace eA:=eA.to gm;clear ho q1 gM
 obtain⟨ho,q1,gM⟩:=eA.cb
 have aBB:=U.size;have aur:=J.lt
 go_upto_region 6 with fail
 refine Xi λrb rZ aR=>?_;have LW:=cn.aK rZ;have wq:=cx.aK rZ
 replace cm:=cm.aK rZ
 replace U:=ai U rZ;have bE:=aR.aH;replace ag:=ag.to rZ;replace dN:=dN.to rZ;replace gr:=dN.cb;replace J:=J.to rZ;replace af:=J.aH;clear ho q1 gM;replace eA:=eA.to rZ
 obtain⟨ho,q1,gM⟩:=eA.cb
 replace cn:=LW.base (B':=w) KB;replace cx:=wq.base (B':=w) KB;clear LW wq
 obtain⟨KR,rV⟩ :∃X:World->Prop,∀V,X V↔(Below w w V/\ay V w 44 #[aq rs c0,au qs aw,tu,se,sp,ak ws c2,al ae c3,aF os c4]/\ay V (w.heap.size + 1) 146 #[yes,no,bR]/\ay V aI 115 #[qr,cQ,ei]/\ay V dk 44 #[.slice bN rs d0,g1 j d1,tu,se,(0:Int),(),(),.slice bI os d4]):=⟨_,λ_=>Xt⟩
 replace rV:=I rV
 haveI:Nonempty (cM KR):=⟨⟨rb,((rV.o _).2 ⟨U,ag,dN,eA,aR⟩)⟩⟩
 clear af;clear ho q1 gM;replace gr:=ay.kF (λK:cM KR=>((rV.o _).1 K.holds).2.2.1)
 obtain⟨ho,q1,gM⟩:=ay.kF (λK:cM KR=>((rV.o _).1 K.holds).2.2.2.1)
 replace bE:=ay.qF (λK:cM KR=>((rV.o _).1 K.holds).2.2.2.2)
 refine Ia (aBP jv ⟨qr,cQ,jv⟩) KR [([0,1,2,3,4,5,6,7],8),([9],10)] [] [([],[],11,true),([],[12],13,true)] [] [] PV PV ((rV.o _).2 ⟨U.drew,ag,dN,eA,aR⟩) (λW fz h k=>((rV.o _).2 ⟨((rV.o _).1 h).1.trans (k.mono ((rV.o _).1 h).1.size),((rV.o _).1 h).2.1.ad k ((rV.o _).1 h).2.1.lt,((rV.o _).1 h).2.2.1.ad k ((rV.o _).1 h).2.2.1.lt,((rV.o _).1 h).2.2.2.1.ad k ((rV.o _).1 h).2.2.2.1.lt,((rV.o _).1 h).2.2.2.2.ad k ((rV.o _).1 h).2.2.2.2.lt⟩)) ?_
 intro bA
 refine iP (some 61) rfl (.bool jv) rfl λhE eu=>?_
 refine ZR ?_
 repeat go_big_quiet_step (fail)
 refine VF ?_
 refine⟨λk fQ=>?_,eu _ ?_⟩
 .refine XV ?_
  go_wp2_with fail
  refine (awo rx yes no bR KK jv wP.o _).mono ?_
  rintro e eB ⟨rfl,eJ⟩
  go_wp2
  exact hz ⟨0,rfl,eJ,trivial⟩
 simp only [Act.put]
 go_simp
 refine iP (some 63) rfl (.slice (some ⟨bA 10,0,none⟩) 1 1) rfl λhE eu=>?_
 refine Xp ?_
 repeat go_big_quiet_step (fail)
 refine VF ?_
 refine⟨λk fQ=>?_,eu _ ?_⟩
 .exact aac
 simp only [Act.put]
 go_simp
 refine tU ?_
 refine Xn ?_
 refine VF ?_
 intro dy V W aC cv
 obtain⟨GL,uu⟩ :(dy 10).heap.size= bA 10/\ay (V 10) (bA 10) 163 #[qr,cQ,.bool jv]:=aC.post 10 Wn
 have sF:=uu.ad (aC.aK 10 Wn) uu.lt;clear gr;clear ho q1 gM;have EL:Below rb rb W:=ai ao (aC.whole 10 Wn).rI;replace U:=ai U EL;replace cm:=cm.aK EL;replace cn:=cn.aK EL;replace cx:=cx.aK EL;replace ag:=ag.to EL;replace J:=J.to EL;have af:=J.aH;replace eA:=eA.to EL
 obtain⟨ho,q1,gM⟩:=eA.cb
 replace aR:=aR.to EL;replace bE:=aR.aH;clear aC GL uu cv
 generalize bA 10= tf at *
 have Uf:Hid (aX 3 Out.cells W (some ⟨tf,0,none⟩) [(⟨qr,cQ,jv⟩ :Out)]):=I (λ_=>⟨tf,0,rfl,sF.lt,λi y hy j u hu=>by
  exact akF⟩)
 have uG:=cx.bK aR;have wR:=cx.bK J;have Nc:=cx.apart cn WG;have Nd:=cx.apart cm WG;have rz:=cx.lt;have kX:=I cx;have nI:=I cm;have pN:=I cn;have fV:=I aR;have js:=I J;have fg:=I U;have FL:=I uG;have FM:=I wR;have rJ:=I Nc;have FA:=I Nd;have FK:=I rz;have OX:=U.size;clear cx cm cn sF uG wR Nc Nd rz
 refine jj λff da=>?_
 refine VF ?_
 refine VF ?_
 refine XV ?_
 go_wp2_with ((at_builtin;refine ke rfl _ _ 42 rfl _ 163 i0 _ 3 24 Tryz.underlying42 bo dP dZ dV rfl WG Out.cells sd HE _ os rfl kX.o ⟨tf,0,none⟩ 1 ⟨qr,cQ,jv⟩ rfl Uf.o Xz KK KK ?_;intro v9 eB ix en GD;clear GD;obtain⟨Y,iC,rfl,q1,gM,nn⟩:=ix.form sd;clear q1 gM nn;rw [Px.o] at ix))
 have eT:=fV.o.jE en (λe=>FL.o _ e.symm rfl);have cp:=js.o.jE en (λe=>FM.o _ e.symm rfl);have cn:=pN.o.kept en (λk ax e=>rJ.o k e.symm ax.symm);have cm:=nI.o.kept en (λk ax e=>FA.o k e.symm ax.symm);have cx:=ix;have KY:Below w w eB:=fg.o.grown en KK (λq bt=>by have:=(FK.o q bt).1;omega);clear aR J ag dN eA U ho q1 gM bE af en ix
 refine rP (da _ _ ?_)
 refine jj λxE oq=>?_
 refine VF ?_
 refine Xp ?_
 haveI:Nonempty (cM (λ_=>True)):=⟨⟨w,trivial⟩⟩
 try simp only [Act.put]
 try go_simp
 repeat go_big_quiet_step (fail)
 refine VF ?_
 refine XV ?_
 have U:=KY;clear KY;have af:=cp.aH;have bE:=eT.aH;have gE:=cn.bK eT;have jf:=cm.bK eT;have gL:=cx.bK eT;have Vr:=eT.frozen 7
 go_wp2
 clear af bE
 refine kL 7 λQc mo=>?_
 replace U:=mo.aN U;replace cp:=mo.dj cp;replace eT:=mo.St eT;replace cn:=cn.cS mo gE;replace cm:=cm.cS mo jf;replace cx:=cx.cS mo gL;have af:=cp.aH;have bE:=eT.aH
 clear gE jf gL Vr
 refine rP (oq _ _ ?_)
 refine qu ?_
 refine VF ?_
 refine VF ?_
 have gE:=cn.bK cp;have jf:=cm.bK cp;have gL:=cx.bK cp;have Jc:=cp.frozen 0;have Jd:=cp.frozen 1;have Je:=cp.frozen 2;have Jf:=cp.frozen 3;have Jg:=cp.frozen 4;have arp:=cp.frozen 5;have arq:=cp.frozen 6;have ars:=cp.frozen 7
 go_wp2
 clear af bE
 refine iO 0 λQd mV=>?_
 replace U:=mV.aN U;replace cp:=mV.iV cp;replace cn:=cn.cS mV gE;replace cm:=cm.cS mV jf;replace cx:=cx.cS mV gL;have af:=cp.aH
 refine XY (v:= .tuple #[.agg #[.slice bN rs d0,g1 j d1,tu,se,(0:Int),(),(),Y (os.length + 1) iC],true]) aGD rfl ?_
 exact akK
def aBO (oS:Int) (uT:ByteArray) (HQ:Int) (rs rd yc:Bool) (rx:Int) (jv:Bool) (o:Out):mZ Nat where
 par:=λ_=>[]
 val:=λn p=>match n with
  | 9=> .agg #[.int .i64 oS,.string uT,.int .i64 HQ,.bool rs,.bool rd,.bool yc,.int .i64 rx]
  | 15=> .bool jv
  | 17=> .slice (some ⟨p,0,none⟩) 1 1
  | _=>undef
 post:=λn _ p dy V=>match n with
  | 17=>dy.heap.size= p/\ay V p 163 #[.int .i64 o.rule,.int .i64 o.mover,.bool o.jv]
  | _=>True
theorem aHr {x5 x6 x7 x8:Oper} (h:wpQuiet P O C Q [x0,x1,x2,x3,x4,x5,x6,x7,x8] a):wpQuiet P O C Q [x0,x1,x2,x3,x4,x5,x6,x7,x8] a:=h
theorem avJ (aq au ak al aF:QR) (c0 aw c2 c3 c4:Nat) (rs:List aM) (qs:List aZ) (tu se sp:Int) (ws:List Int) (ae:List aW) (os:List Out) (Z:fa aq au ak al aF c0 aw c2 c3 c4 rs qs ws ae os) (yes no bR:Int) (j:Nat) (cc:qs.length= j + 1) (qr cQ:Int) (ei:Bool) (bt:qs[j]? =some ⟨qr,cQ,ei⟩) (aS:ee rs qs= true) (aT:mb rs qs= false) (cJ:ym yes no bR= true) (dn:os.length < 12) (w:World) (R:eF w aq au ak al aF rs qs ws ae os):
 Rd 253 #[.agg #[aq rs c0,au qs aw,tu,se,sp,ak ws c2,al ae c3,aF os c4],.agg #[yes,no,bR]] w λe ah=>∃bN d0 bZ d1 aU d2 bd d3 bI d4,e= .returned (.tuple #[.agg #[.slice bN rs d0,.slice bZ (qs.take j).length d1,tu,se,(0:Int),.slice aU ([]:List Int).length d2,.slice bd ([]:List aW).length d3,.slice bI (os ++ [(⟨qr,cQ,sA (ya rs ⟨qr,cQ,ei⟩) yes no⟩ :Out)]).length d4],true])/\fu w ah bN d0 bZ d1 aU d2 bd d3 bI d4 rs (qs.take j) [] [] (os ++ [(⟨qr,cQ,sA (ya rs ⟨qr,cQ,ei⟩) yes no⟩ :Out)])/\Below w w ah:=by
 obtain⟨i0,bo,dP,dZ,dV⟩:=Xo NS
 replace R:=I R;replace Z:=I Z
 obtain⟨⟨oS,uT,HQ,dQ,rd,yc,rx,Kn⟩,bu⟩:=pB aS bt
 obtain⟨jv,wP⟩ :∃jv,sA (ya rs ⟨qr,cQ,ei⟩) yes no= jv:=⟨_,rfl⟩
 have ew:ya rs ⟨qr,cQ,ei⟩ =rx:=by simp only [ya];rw [bu]
 have lY:=ajJ cJ
 rw [wP]
 rw [ew] at wP
 have pv:(os ++ [(⟨qr,cQ,jv⟩ :Out)]).length= os.length + 1:=Wn
 rw [pv]
 have Px:=I pv;have Nz:((os.length:Int) == 12)= false:=Xb.2 KK
 have iy:(qs.take j).length= j:=by rw [YA];omega
 rw [iy]
 refine XI ?_ cc aS aT cJ bu wP iy;clear cc aS aT cJ bu wP iy;intro cc aS aT cJ bu wP iy;have eS:=I bt;clear bt ew pv
 go_in
 go_upto_region 1 with fail
 refine gY λaO ar ag dN J=>?_
 have U:=ar;have aJ:=ag.aH;have gr:=dN.cb;have af:=J.aH;have hC:=J.lt
 go_wp2_with fail
 refine (XC aq c0 rs Z.o.h0 Z.o.ev au aw qs Z.o.h1 Z.o.eU j cc.o qr cQ ei eS.o aS.o aT.o _ (R.o.fC.ad (ai U ao)) (R.o.dM.ad (ai U ao))).mono ?_
 rintro e aI ⟨g1,d1,rfl,cm,aQ⟩
 have aj:=be aO aQ;replace U:=ai U aj;replace ag:=ag.to aj;replace aJ:=ag.aH;replace dN:=dN.to aj;replace gr:=dN.cb;replace J:=J.to aj;replace af:=J.aH
 rw [iy.o]
 rw [iy.o] at cm
 go_upto_region 2 with fail
 refine Xi λuX aY eA=>?_;have LX:=cm.aK aY
 replace U:=ai U aY
 obtain⟨ho,q1,gM⟩:=eA.cb
 replace ag:=ag.to aY;replace aJ:=ag.aH;replace dN:=dN.to aY;replace gr:=dN.cb;replace J:=J.to aY;replace af:=J.aH;replace cm:=LX;clear LX
 go_wp2_with fail
 refine (XH yes no bR _ cJ.o _).mono ?_
 rintro e bH ⟨rfl,db⟩
 have cj:=be uX db;replace U:=ai U cj;replace cm:=cm.aK cj;replace ag:=ag.to cj;replace aJ:=ag.aH;replace dN:=dN.to cj;replace gr:=dN.cb;replace J:=J.to cj;replace af:=J.aH;replace eA:=eA.to cj;clear ho q1 gM
 obtain⟨ho,q1,gM⟩:=eA.cb
 have KB:=U.size
 go_wp2_with fail
 refine (akb Z.o (R.o.ad (ai U ao))).mono ?_
 rintro e cO ⟨bN,d0,bI,d4,rfl,cn,cx,eM⟩
 have dK:=be bH eM;replace U:=ai U dK;replace cm:=cm.aK dK;replace ag:=ag.to dK;replace aJ:=ag.aH;replace dN:=dN.to dK;replace gr:=dN.cb;replace J:=J.to dK;replace af:=J.aH;replace eA:=eA.to dK;clear ho q1 gM
 obtain⟨ho,q1,gM⟩:=eA.cb
 have aBB:=U.size;have aur:=J.lt
 go_upto_region 5 with fail
 refine Xi λrb gm aR=>?_;have LW:=cn.aK gm;have wq:=cx.aK gm
 replace cm:=cm.aK gm
 replace U:=ai U gm;have bE:=aR.aH;replace ag:=ag.to gm;replace aJ:=ag.aH;replace dN:=dN.to gm;replace gr:=dN.cb;replace J:=J.to gm;replace af:=J.aH;clear ho q1 gM;replace eA:=eA.to gm
 obtain⟨ho,q1,gM⟩:=eA.cb
 replace cn:=LW.base (B':=w) KB;replace cx:=wq.base (B':=w) KB;clear LW wq
 obtain⟨xw,mK⟩ :∃X:World->Prop,∀V,X V↔(Below w w V/\ay V w 44 #[aq rs c0,au qs aw,tu,se,sp,ak ws c2,al ae c3,aF os c4]/\ay V (w.heap.size + 1) 146 #[yes,no,bR]/\ay V aI 115 #[qr,cQ,ei]/\ay V cO 44 #[.slice bN rs d0,g1 j d1,tu,se,(0:Int),(),(),.slice bI os d4]):=⟨_,λ_=>Xt⟩
 replace mK:=I mK
 haveI:Nonempty (cM xw):=⟨⟨rb,((mK.o _).2 ⟨U,ag,dN,eA,aR⟩)⟩⟩
 clear af;clear ho q1 gM;replace aJ:=ay.qF (λK:cM xw=>((mK.o _).1 K.holds).2.1);replace gr:=ay.kF (λK:cM xw=>((mK.o _).1 K.holds).2.2.1)
 obtain⟨ho,q1,gM⟩:=ay.kF (λK:cM xw=>((mK.o _).1 K.holds).2.2.2.1)
 replace bE:=ay.qF (λK:cM xw=>((mK.o _).1 K.holds).2.2.2.2)
 have hf:=λW=>(show (Instr.field 89 (.agg #[oS,uT,HQ,dQ,rd,yc,rx]) 6).run Tryz.prog W= .ok (.int .i64 rx) W by kernel_rfl)
 refine Ia (aBO oS uT HQ dQ rd yc rx jv ⟨qr,cQ,jv⟩) xw [([0,1,2,3,4,5,6,7,8],9),([10,11,12,13,14],15),([16],17)] [] [([],[],18,true),([],[19],20,true)] [] [] PV PV ((mK.o _).2 ⟨U.drew,ag,dN,eA,aR⟩) (λW fz h k=>((mK.o _).2 ⟨((mK.o _).1 h).1.trans (k.mono ((mK.o _).1 h).1.size),((mK.o _).1 h).2.1.ad k ((mK.o _).1 h).2.1.lt,((mK.o _).1 h).2.2.1.ad k ((mK.o _).1 h).2.2.1.lt,((mK.o _).1 h).2.2.2.1.ad k ((mK.o _).1 h).2.2.2.1.lt,((mK.o _).1 h).2.2.2.2.ad k ((mK.o _).1 h).2.2.2.2.lt⟩)) ?_
 intro bA
 refine iP (some 45) rfl (.agg #[oS,uT,HQ,dQ,rd,yc,rx]) rfl λhE eu=>?_
 refine aHr ?_
 repeat go_big_quiet_step (fail)
 refine VF ?_
 refine⟨λk fQ=>?_,eu _ ?_⟩
 .refine XV ?_
  go_wp2_with fail
  refine (tQ Z.o.h0 ⟨qr,cQ,ei⟩ ⟨oS,uT,HQ,dQ,rd,yc,rx,Kn⟩ bu.o (R.o.fC.ad ((mK.o _).1 k.holds).1)).mono ?_
  rintro e eB ⟨rfl,eJ⟩
  go_wp2
  exact hz ⟨0,rfl,eJ,trivial⟩
 simp only [Act.put]
 go_simp
 refine iP (some 51) rfl (.bool jv) rfl λhE eu=>?_
 refine Yp ?_
 repeat go_big_quiet_step (fail)
 refine VF ?_
 refine⟨λk fQ=>?_,eu _ ?_⟩
 .refine XV ?_
  go_wp2_with fail
  refine (awe rx yes no KK KK KK KK jv wP.o _).mono ?_
  rintro e eB ⟨rfl,eJ⟩
  go_wp2
  first | exact hz ⟨0,rfl,eJ,trivial⟩ | (subst eJ;exact hz ⟨0,rfl,Wt _ _,trivial⟩)
 simp only [Act.put]
 go_simp
 refine iP (some 53) rfl (.slice (some ⟨bA 17,0,none⟩) 1 1) rfl λhE eu=>?_
 refine Xp ?_
 repeat go_big_quiet_step (fail)
 refine VF ?_
 refine⟨λk fQ=>?_,eu _ ?_⟩
 .exact aac
 simp only [Act.put]
 go_simp
 refine tU ?_
 refine Xn ?_
 refine VF ?_
 intro dy V W aC cv
 obtain⟨GL,uu⟩ :(dy 17).heap.size= bA 17/\ay (V 17) (bA 17) 163 #[qr,cQ,.bool jv]:=aC.post 17 Wn
 have sF:=uu.ad (aC.aK 17 Wn) uu.lt;clear aJ;clear gr;clear ho q1 gM;have GZ:Below rb rb W:=ai ao (aC.whole 17 Wn).rI;replace U:=ai U GZ;replace cm:=cm.aK GZ;replace cn:=cn.aK GZ;replace cx:=cx.aK GZ;replace J:=J.to GZ;have af:=J.aH;replace eA:=eA.to GZ
 obtain⟨ho,q1,gM⟩:=eA.cb
 replace aR:=aR.to GZ;replace bE:=aR.aH;clear aC GL uu cv hf
 generalize bA 17= tf at *
 have Uf:Hid (aX 3 Out.cells W (some ⟨tf,0,none⟩) [(⟨qr,cQ,jv⟩ :Out)]):=I (λ_=>⟨tf,0,rfl,sF.lt,λi y hy j u hu=>by
  exact akF⟩)
 have uG:=cx.bK aR;have wR:=cx.bK J;have Nc:=cx.apart cn WG;have Nd:=cx.apart cm WG;have rz:=cx.lt;have kX:=I cx;have nI:=I cm;have pN:=I cn;have fV:=I aR;have js:=I J;have fg:=I U;have FL:=I uG;have FM:=I wR;have rJ:=I Nc;have FA:=I Nd;have FK:=I rz;have OX:=U.size;clear cx cm cn sF uG wR Nc Nd rz
 refine jj λff da=>?_
 refine VF ?_
 refine VF ?_
 refine XV ?_
 go_wp2_with ((at_builtin;refine ke rfl _ _ 42 rfl _ 163 i0 _ 3 24 Tryz.underlying42 bo dP dZ dV rfl WG Out.cells sd HE _ os rfl kX.o ⟨tf,0,none⟩ 1 ⟨qr,cQ,jv⟩ rfl Uf.o Xz KK KK ?_;intro v9 eB ix en GD;clear GD;obtain⟨Y,iC,rfl,q1,gM,nn⟩:=ix.form sd;clear q1 gM nn;rw [Px.o] at ix))
 have eT:=fV.o.jE en (λe=>FL.o _ e.symm rfl);have cp:=js.o.jE en (λe=>FM.o _ e.symm rfl);have cn:=pN.o.kept en (λk ax e=>rJ.o k e.symm ax.symm);have cm:=nI.o.kept en (λk ax e=>FA.o k e.symm ax.symm);have cx:=ix;have KY:Below w w eB:=fg.o.grown en KK (λq bt=>by have:=(FK.o q bt).1;omega);clear aR J ag dN eA U ho q1 gM bE af en ix
 refine rP (da _ _ ?_)
 refine jj λxE oq=>?_
 refine VF ?_
 refine Xp ?_
 haveI:Nonempty (cM (λ_=>True)):=⟨⟨w,trivial⟩⟩
 try simp only [Act.put]
 try go_simp
 repeat go_big_quiet_step (fail)
 refine VF ?_
 refine XV ?_
 have U:=KY;clear KY;have af:=cp.aH;have bE:=eT.aH;have gE:=cn.bK eT;have jf:=cm.bK eT;have gL:=cx.bK eT;have Vr:=eT.frozen 7
 go_wp2
 clear af bE
 refine kL 7 λQc mo=>?_
 replace U:=mo.aN U;replace cp:=mo.dj cp;replace eT:=mo.St eT;replace cn:=cn.cS mo gE;replace cm:=cm.cS mo jf;replace cx:=cx.cS mo gL;have af:=cp.aH;have bE:=eT.aH
 clear gE jf gL Vr
 refine rP (oq _ _ ?_)
 refine qu ?_
 refine VF ?_
 refine VF ?_
 have gE:=cn.bK cp;have jf:=cm.bK cp;have gL:=cx.bK cp;have Jc:=cp.frozen 0;have Jd:=cp.frozen 1;have Je:=cp.frozen 2;have Jf:=cp.frozen 3;have Jg:=cp.frozen 4;have arp:=cp.frozen 5;have arq:=cp.frozen 6;have ars:=cp.frozen 7
 go_wp2
 clear af bE
 refine iO 0 λQd mV=>?_
 replace U:=mV.aN U;replace cp:=mV.iV cp;replace cn:=cn.cS mV gE;replace cm:=cm.cS mV jf;replace cx:=cx.cS mV gL;have af:=cp.aH
 refine XY (v:= .tuple #[.agg #[.slice bN rs d0,g1 j d1,tu,se,(0:Int),(),(),Y (os.length + 1) iC],true]) aGC rfl ?_
 exact akK
def jr (o:Option di) (w:World) (e:Ending) (ah:World):Prop:=match o with
 | some n=>∃bN d0 bZ d1 aU d2 bd d3 bI d4,e= .returned (.tuple #[.agg #[.slice bN n.bT.length d0,.slice bZ n.ch.length d1,.int .i64 n.dw,.int .i64 n.dp,.int .i64 n.dF,.slice aU n.cz.length d2,.slice bd n.cC.length d3,.slice bI n.bQ.length d4],.bool true])/\fu w.heap.size ah bN d0 bZ d1 aU d2 bd d3 bI d4 n.bT n.ch n.cz n.cC n.bQ/\Below w.heap.size w ah
 | none=>e= .returned (.tuple #[.agg #[.slice none 0 0,.slice none 0 0,.int .i64 0,.int .i64 0,.int .i64 0,.slice none 0 0,.slice none 0 0,.slice none 0 0],.bool false])/\Below w.heap.size w ah
theorem avv (aq:QR) (c0:Nat) (rs:List aM) (h0:rs) (gn:rs.length<=c0) (au:QR) (aw:Nat) (qs:List aZ) (h1:qs) (bl:au= none->qs= []/\aw= 0) (id mem:Int) (ps:List aZ) (az:kU rs qs id mem= some ps) (w:World) (bk:aX 7 aM.cells w aq rs) (bg:aX 3 aZ.cells w au qs):Rd 254 #[aq rs c0,au qs aw,id,mem] w λe ah=>∃A c,e= .returned (.tuple #[.slice A ps c,true])/\bn w 115 3 aZ.cells ah (.slice A ps c) ps/\Below w w ah:=by
 have h:=afM aq c0 rs h0 gn au aw qs h1 bl id mem w bk bg
 rw [az] at h
 exact h
theorem avu (aq:QR) (c0:Nat) (rs:List aM) (h0:rs) (gn:rs.length<=c0) (au:QR) (aw:Nat) (qs:List aZ) (h1:qs) (bl:au= none->qs= []/\aw= 0) (id mem:Int) (az:kU rs qs id mem= none) (w:World) (bk:aX 7 aM.cells w aq rs) (bg:aX 3 aZ.cells w au qs):Rd 254 #[aq rs c0,au qs aw,id,mem] w λe ah=>∃A c,e= .returned (.tuple #[.slice A 0 c,false])/\Below w w ah:=by
 have h:=afM aq c0 rs h0 gn au aw qs h1 bl id mem w bk bg
 rw [az] at h
 exact h.mono λe ah ⟨A,c,he,_,aB⟩=>⟨A,c,he,aB⟩
theorem aiL (aq:QR) (c0:Nat) (rs:List aM) (h0:rs) (au:QR) (aw:Nat) (qs:List aZ) (h1:qs) (bl:au= none->qs= []/\aw= 0) (id mem:Int) (ps:List aZ) (az:kU rs qs id mem= some ps) (w:World) (bk:aX 7 aM.cells w aq rs) (bg:aX 3 aZ.cells w au qs):Rd 230 #[aq rs c0,au qs aw,id,mem] w λe ah=>∃A c,e= .returned (.tuple #[.slice A ps c,true])/\bn w 115 3 aZ.cells ah (.slice A ps c) ps/\Below w w ah:=by
 have h:=aGr aq c0 rs h0 au aw qs h1 bl id mem w bk bg
 rw [az] at h
 exact h
theorem aAk (aq:QR) (c0:Nat) (rs:List aM) (h0:rs) (au:QR) (aw:Nat) (qs:List aZ) (h1:qs) (bl:au= none->qs= []/\aw= 0) (id mem:Int) (az:kU rs qs id mem= none) (w:World) (bk:aX 7 aM.cells w aq rs) (bg:aX 3 aZ.cells w au qs):Rd 230 #[aq rs c0,au qs aw,id,mem] w λe ah=>∃A c,e= .returned (.tuple #[.slice A 0 c,false])/\Below w w ah:=by
 have h:=aGr aq c0 rs h0 au aw qs h1 bl id mem w bk bg
 rw [az] at h
 exact h.mono λe ah ⟨A,c,he,_,aB⟩=>⟨A,c,he,aB⟩
theorem avM (aq:QR) (c0:Nat) (rs:List aM) (h0:rs) (gn:rs.length<=c0) (au:QR) (aw:Nat) (qs:List aZ) (h1:qs) (hi:qs.length<=aw) (mem:Int) (ps:List aZ) (az:mG rs qs mem= some ps) (w:World) (bk:aX 7 aM.cells w aq rs) (bg:aX 3 aZ.cells w au qs):Rd 255 #[aq rs c0,au qs aw,mem] w λe ah=>∃A c,e= .returned (.tuple #[.slice A ps c,true])/\bn w 115 3 aZ.cells ah (.slice A ps c) ps/\Below w w ah:=by
 have h:=afT aq c0 rs h0 gn au aw qs h1 hi mem w bk bg
 rw [az] at h
 exact h
theorem avL (aq:QR) (c0:Nat) (rs:List aM) (h0:rs) (gn:rs.length<=c0) (au:QR) (aw:Nat) (qs:List aZ) (h1:qs) (hi:qs.length<=aw) (mem:Int) (az:mG rs qs mem= none) (w:World) (bk:aX 7 aM.cells w aq rs) (bg:aX 3 aZ.cells w au qs):Rd 255 #[aq rs c0,au qs aw,mem] w λe ah=>∃A c,e= .returned (.tuple #[.slice A 0 c,false])/\Below w w ah:=by
 have h:=afT aq c0 rs h0 gn au aw qs h1 hi mem w bk bg
 rw [az] at h
 exact h.mono λe ah ⟨A,c,he,_,aB⟩=>⟨A,c,he,aB⟩
theorem aiT (aq:QR) (c0:Nat) (rs:List aM) (h0:rs) (au:QR) (aw:Nat) (qs:List aZ) (h1:qs) (hi:qs.length<=aw) (mem:Int) (ps:List aZ) (az:mG rs qs mem= some ps) (w:World) (bk:aX 7 aM.cells w aq rs) (bg:aX 3 aZ.cells w au qs):Rd 233 #[aq rs c0,au qs aw,mem] w λe ah=>∃A c,e= .returned (.tuple #[.slice A ps c,true])/\bn w 115 3 aZ.cells ah (.slice A ps c) ps/\Below w w ah:=by
 have h:=aiU aq c0 rs h0 au aw qs h1 hi mem w bk bg
 rw [az] at h
 exact h
theorem aAy (aq:QR) (c0:Nat) (rs:List aM) (h0:rs) (au:QR) (aw:Nat) (qs:List aZ) (h1:qs) (hi:qs.length<=aw) (mem:Int) (az:mG rs qs mem= none) (w:World) (bk:aX 7 aM.cells w aq rs) (bg:aX 3 aZ.cells w au qs):Rd 233 #[aq rs c0,au qs aw,mem] w λe ah=>∃A c,e= .returned (.tuple #[.slice A 0 c,false])/\Below w w ah:=by
 have h:=aiU aq c0 rs h0 au aw qs h1 hi mem w bk bg
 rw [az] at h
 exact h.mono λe ah ⟨A,c,he,_,aB⟩=>⟨A,c,he,aB⟩
theorem avF (aq:QR) (c0:Nat) (rs:List aM) (h0:rs) (gn:rs.length<=c0) (au:QR) (aw:Nat) (qs:List aZ) (h1:qs) (bl:au= none->qs= []/\aw= 0) (mem:Int) (ps:List aZ) (az:ln rs qs mem= some ps) (w:World) (bk:aX 7 aM.cells w aq rs) (bg:aX 3 aZ.cells w au qs):Rd 180 #[aq rs c0,au qs aw,mem] w λe ah=>∃A c,e= .returned (.tuple #[.slice A ps c,true])/\bn w 115 3 aZ.cells ah (.slice A ps c) ps/\Below w w ah:=by
 have h:=afS aq c0 rs h0 gn au aw qs h1 bl mem w bk bg
 rw [az] at h
 exact h
theorem avE (aq:QR) (c0:Nat) (rs:List aM) (h0:rs) (gn:rs.length<=c0) (au:QR) (aw:Nat) (qs:List aZ) (h1:qs) (bl:au= none->qs= []/\aw= 0) (mem:Int) (az:ln rs qs mem= none) (w:World) (bk:aX 7 aM.cells w aq rs) (bg:aX 3 aZ.cells w au qs):Rd 180 #[aq rs c0,au qs aw,mem] w λe ah=>∃A c,e= .returned (.tuple #[.slice A 0 c,false])/\Below w w ah:=by
 have h:=afS aq c0 rs h0 gn au aw qs h1 bl mem w bk bg
 rw [az] at h
 exact h.mono λe ah ⟨A,c,he,_,aB⟩=>⟨A,c,he,aB⟩
theorem aAq (aq:QR) (c0:Nat) (rs:List aM) (h0:rs) (au:QR) (aw:Nat) (qs:List aZ) (h1:qs) (bl:au= none->qs= []/\aw= 0) (mem:Int) (ps:List aZ) (az:ln rs qs mem= some ps) (w:World) (bk:aX 7 aM.cells w aq rs) (bg:aX 3 aZ.cells w au qs):Rd 231 #[aq rs c0,au qs aw,mem] w λe ah=>∃A c,e= .returned (.tuple #[.slice A ps c,true])/\bn w 115 3 aZ.cells ah (.slice A ps c) ps/\Below w w ah:=by
 have h:=aHz aq c0 rs h0 au aw qs h1 bl mem w bk bg
 rw [az] at h
 exact h
theorem aAp (aq:QR) (c0:Nat) (rs:List aM) (h0:rs) (au:QR) (aw:Nat) (qs:List aZ) (h1:qs) (bl:au= none->qs= []/\aw= 0) (mem:Int) (az:ln rs qs mem= none) (w:World) (bk:aX 7 aM.cells w aq rs) (bg:aX 3 aZ.cells w au qs):Rd 231 #[aq rs c0,au qs aw,mem] w λe ah=>∃A c,e= .returned (.tuple #[.slice A 0 c,false])/\Below w w ah:=by
 have h:=aHz aq c0 rs h0 au aw qs h1 bl mem w bk bg
 rw [az] at h
 exact h.mono λe ah ⟨A,c,he,_,aB⟩=>⟨A,c,he,aB⟩
theorem afK (aq:QR) (c0:Nat) (rs:List aM) (h0:rs) (gn:rs.length<=c0) (au:QR) (aw:Nat) (qs:List aZ) (h1:qs) (bl:au= none->qs= []/\aw= 0) (ps:List aZ) (az:nP rs qs= some ps) (w:World) (bk:aX 7 aM.cells w aq rs) (bg:aX 3 aZ.cells w au qs):Rd 256 #[aq rs c0,au qs aw] w λe ah=>∃A c,e= .returned (.tuple #[.slice A ps c,true])/\bn w 115 3 aZ.cells ah (.slice A ps c) ps/\Below w w ah:=by
 have h:=auL aq c0 rs h0 gn au aw qs h1 bl w bk bg
 rw [az] at h
 exact h
theorem aiC (aq:QR) (c0:Nat) (rs:List aM) (h0:rs) (au:QR) (aw:Nat) (qs:List aZ) (h1:qs) (bl:au= none->qs= []/\aw= 0) (hi:qs.length<=aw) (ps:List aZ) (az:nP rs qs= some ps) (w:World) (bk:aX 7 aM.cells w aq rs) (bg:aX 3 aZ.cells w au qs):Rd 234 #[aq rs c0,au qs aw] w λe ah=>∃A c,e= .returned (.tuple #[.slice A ps c,true])/\bn w 115 3 aZ.cells ah (.slice A ps c) ps/\Below w w ah:=by
 have h:=azG aq c0 rs h0 au aw qs h1 bl hi w bk bg
 rw [az] at h
 exact h
theorem avK (aq au ak al aF:QR) (c0 aw c2 c3 c4:Nat) (rs:List aM) (qs:List aZ) (tu se sp:Int) (ws:List Int) (ae:List aW) (os:List Out) (Z:fa aq au ak al aF c0 aw c2 c3 c4 rs qs ws ae os) (mem val:Int) (yes no bR:Int) (n:di) (az:sk ⟨rs,qs,tu,se,sp,ws,ae,os⟩ ⟨7,mem,val,yes,no,bR⟩ =some n) (aS:ee rs qs= true) (dn:os.length<=12) (w:World) (R:eF w aq au ak al aF rs qs ws ae os):
 Rd 253 #[.agg #[aq rs c0,au qs aw,tu,se,sp,ak ws c2,al ae c3,aF os c4],.agg #[yes,no,bR]] w λe ah=>∃bN d0 bZ d1 aU d2 bd d3 bI d4,e= .returned (.tuple #[.agg #[.slice bN n.bT d0,.slice bZ n.ch d1,n.dw,n.dp,n.dF,.slice aU n.cz d2,.slice bd n.cC d3,.slice bI n.bQ d4],true])/\fu w ah bN d0 bZ d1 aU d2 bd d3 bI d4 n.bT n.ch n.cz n.cC n.bQ/\Below w w ah:=by
 obtain⟨ps,⟨qr,cQ,ei⟩,cr,cJ,h12,rfl⟩:=OY az
 dsimp only at cr cJ h12
 unfold vq at cr
 split at cr
 .rename_i q bt
  split at cr
  .rename_i aN
   cases cr
   simp only [Xa,YJ] at aN
   have aT:=(Xg.1 bt).1
   exact avJ aq au ak al aF c0 aw c2 c3 c4 rs qs tu se sp ws ae os Z yes no bR (qs.length - 1) KK qr cQ ei bt aN.1 aN.2 cJ KK w R
  .cases cr
 .cases cr
theorem aAx (aq au ak al aF:QR) (c0 aw c2 c3 c4:Nat) (rs:List aM) (qs:List aZ) (tu se sp:Int) (ws:List Int) (ae:List aW) (os:List Out) (Z:fa aq au ak al aF c0 aw c2 c3 c4 rs qs ws ae os) (mem val:Int) (yes no bR:Int) (aP:(sp != 0)= false) (n:di) (az:sk ⟨rs,qs,tu,se,sp,ws,ae,os⟩ ⟨7,mem,val,yes,no,bR⟩ =some n) (aS:ee rs qs= true) (dn:os.length<=12) (w:World) (R:eF w aq au ak al aF rs qs ws ae os):
 Rd 232 #[.agg #[aq rs c0,au qs aw,tu,se,sp,ak ws c2,al ae c3,aF os c4],.agg #[yes,no,bR]] w λe ah=>∃bN d0 bZ d1 aU d2 bd d3 bI d4,e= .returned (.tuple #[.agg #[.slice bN n.bT d0,.slice bZ n.ch d1,n.dw,n.dp,n.dF,.slice aU n.cz d2,.slice bd n.cC d3,.slice bI n.bQ d4],true])/\fu w ah bN d0 bZ d1 aU d2 bd d3 bI d4 n.bT n.ch n.cz n.cC n.bQ/\Below w w ah:=by
 obtain⟨ps,⟨qr,cQ,ei⟩,cr,cJ,h12,rfl⟩:=OY az
 dsimp only at cr cJ h12
 unfold vq at cr
 split at cr
 .rename_i q bt
  split at cr
  .rename_i aN
   cases cr
   simp only [Xa,YJ] at aN
   have aT:=(Xg.1 bt).1
   exact aAw aq au ak al aF c0 aw c2 c3 c4 rs qs tu se sp ws ae os Z yes no bR aP (qs.length - 1) KK qr cQ ei bt aN.1 aN.2 cJ KK w R
  .cases cr
 .cases cr
end Go.Proofs.YtlaaemmmbodaaaaGreatDoor
