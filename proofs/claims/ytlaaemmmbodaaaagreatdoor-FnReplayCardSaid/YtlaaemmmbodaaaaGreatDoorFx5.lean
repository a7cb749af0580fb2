/- Parts. -/
import Derived.Test.YtlaaemmmbodaaaaGreatDoorFx4
set_option maxHeartbeats 16000000
set_option maxRecDepth 100000
set_option linter.all false
open Go Go.RowKit Go.Proofs.YtlaaemmmbodaaaaGreatDoor
variable {tu se sp mem val yes bR:Int} {ak al A aq au aF Ce:QR} {c2 c3 k c0 aw c4 LS LR:Nat} {ws:List Int} {ae:List aW} {f:fp} {rs:List aM} {qs:List aZ} {os:List Out} {v:Prop}
namespace Go.Proofs.YtlaaemmmbodaaaaGreatDoor
theorem Zc (h:v:=by simp [results,Tryz.results235,go_sem,af]):v:=h
theorem Zn (h:v:=by simp [results,Tryz.results238,go_sem,af]):v:=h
theorem Zo (h:v:=by simp [results,Tryz.results240,go_sem,af]):v:=h
theorem aGW (h:v:=by have h1:=oe.out;have h2:=lF.out;rw [h1,h2];unfold maxLen;omega):v:=h
theorem aGz (h:v:=by simp [results,Tryz.results239,go_sem,af]):v:=h
theorem agv (h2:ws) (h3:ae) (n2:ak= none->ws= []/\c2= 0) (n3:al= none->ae= []/\c3= 0) (cL:ws.length<=c2) (dS:ae.length<=c3) (st cR:Int) (aP:fr ae sp=⟨sp,st,cR⟩) (h0:0<=st) (h1:st<=1000) {w:World} (bp:aX 1 cE w ak ws) (bj:aX 3 aW.cells w al ae):
 Rd 291 #[.agg #[tu,se,sp,ak ws c2,al ae c3]] w λe ah=>∃aU d2 bd d3,e= .returned (.agg #[tu,se,(0:Int),.slice aU ws d2,.slice bd (gg ae ⟨sp,st + 1,cR⟩).length d3])/\kq w ah aU d2 bd d3 ws (gg ae ⟨sp,st + 1,cR⟩)/\Below w w ah:=by
 refine Dd ?_ bp bj n2 n3 dS;clear bp bj n2 n3 dS;intro bp bj n2 n3 dS;replace aP:=I aP
 have qR:IntKind.i64.wrap (st + 1)= st + 1:=by rw [IntKind.wrap_i64];omega
 go_in
 go_upto_region 1 with fail
 refine fU λaO ar ag J=>?_
 have U:=ar;have aJ:=ag.aL;have af:=J.aL;have hC:=J.lt
 go_wp2_with fail
 refine (zP tu se sp ak ws.length c2 al c3 ae h3 sp ⟨sp,st,cR⟩ aP.o _ (bj.o.ad (ai U ao))).mono ?_
 rintro e aI ⟨rfl,aQ⟩
 have aj:=be aO aQ;replace U:=ai U aj;replace ag:=ag.to aj;replace aJ:=ag.aL;replace J:=J.to aj;replace af:=J.aL;have Tc:=aj.size
 go_upto_region 2 with fail
 refine dh λcO aY bJ=>?_
 replace U:=ai U aY;have cT:=bJ.cb;replace ag:=ag.to aY;replace aJ:=ag.aL;replace J:=J.to aY;replace af:=J.aL;have Vp:=bJ.frozen 1
 go_upto_region 3 with fail
 clear aJ af cT
 refine kL 1 λkE vY=>?_
 replace U:=vY.aN U;replace ag:=vY.dj ag;replace J:=vY.dj J;replace bJ:=vY.ahK bJ;have aJ:=ag.aL;have af:=J.aL;have cT:=bJ.cb;clear Vp;have atW:=bJ.lt
 go_wp2_with fail
 refine (agt h2 h3 n2.o n3.o dS.o (bp.o.ad (ai U ao)) (bj.o.ad (ai U ao))).mono ?_
 rintro e bH ⟨aU,d2,bd,d3,rfl,dv,db⟩
 have cj:=be kE db;replace U:=ai U cj;clear aJ;replace J:=J.to cj;replace af:=J.aL;clear cT;have vX:=U.size;have aIb:=cj.size
 go_upto_region 4 with fail
 refine Xi λdu dK aR=>?_;have fb:=dv.aK dK;clear dv
 replace U:=ai U dK;have bE:=aR.aL;replace J:=J.to dK;replace af:=J.aL;have bh:=fb.fc;have bf:=fb.fE;clear fb;have eo:=bh.bK aR;have dL:=bf.bK aR;have uo:=aR.frozen 2
 go_upto_region 5 with fail
 clear af bE
 refine kL 2 λpP gz=>?_
 replace U:=gz.aN U;replace J:=gz.dj J;replace aR:=gz.Ss aR;replace bh:=bh.cS gz eo;replace bf:=bf.cS gz dL;have af:=J.aL;have bE:=aR.aL;clear uo;replace eo:=bh.bK J;replace dL:=bf.bK J;have eg:=J.iW
 go_wp2
 clear af bE
 refine hs 0 λCh jA=>?_
 replace U:=jA.aN U;replace J:=jA.iK J;replace bh:=bh.cS jA eo;replace bf:=bf.cS jA dL;have af:=J.aL
 exact hV ⟨aU,d2,bd,d3,rfl,⟨bh.base KK,bf.base KK,bh.apart bf WG⟩,U⟩ (by simp [results,Tryz.results291,go_sem,af])
theorem akV (h:v:=by
 refine hs 0 λcP aE=>?_
 replace U:=aE.aN U;replace J:=aE.iK J;have af:=J.aL
 exact hV ⟨rfl,U⟩ (by simp [results,Tryz.results241,go_sem,af])):v:=h
theorem aiV (tu se sp:Int) (ak:QR) (c2:Nat) (ws:List Int) (al:QR) (c3:Nat) (ae:List aW) (h2:ws) (h3:ae) (n2:ak= none->ws= []/\c2= 0) (n3:al= none->ae= []/\c3= 0) (cL:ws.length<=c2) (dS:ae.length<=c3) (az:oH ⟨tu,se,sp,ws,ae⟩ =false) (w:World) (bp:aX 1 cE w ak ws) (bj:aX 3 aW.cells w al ae):
 Rd 241 #[.agg #[tu,se,sp,ak ws c2,al ae c3]] w λe ah=>e= .returned (.tuple #[.agg #[(0:Int),(0:Int),(0:Int),(),()],false])/\Below w w ah:=by
 replace bp:=I bp;replace bj:=I bj;clear n2 n3 dS
 cases hf:hG tu se sp ws ae
 .have cI:=I hf;clear hf az
  go_in
  go_upto_region 1 with fail
  refine fU λaO ar ag J=>?_
  have U:=ar;have aJ:=ag.aL;have af:=J.aL
  go_wp2_with fail
  refine (oz c2 h2 h3 cL _ cI.o (bp.o.ad (ai U ao)) (bj.o.ad (ai U ao))).mono ?_
  rintro e aI ⟨rfl,aQ⟩
  have aj:=be aO aQ;replace U:=ai U aj;clear aJ;replace J:=J.to aj;replace af:=J.aL;have eg:=J.iW
  go_wp2
  clear af
  exact akV
 .have aP:(sp == 0)= true:=by simpa [oH,fp.ok,hf] using az
  have cI:=I hf;clear hf az
  go_in
  go_upto_region 1 with fail
  refine fU λaO ar ag J=>?_
  have U:=ar;have aJ:=ag.aL;have af:=J.aL
  go_wp2_with fail
  refine (oz c2 h2 h3 cL _ cI.o (bp.o.ad (ai U ao)) (bj.o.ad (ai U ao))).mono ?_
  rintro e aI ⟨rfl,aQ⟩
  have aj:=be aO aQ;replace U:=ai U aj;replace ag:=ag.to aj;replace aJ:=ag.aL;replace J:=J.to aj;replace af:=J.aL;have eg:=J.iW
  go_wp2
  clear aJ af
  exact akV
theorem alR (h:v:=by
 exact⟨aU,d2,bd,d3,rfl,⟨bh.base KK,bf.base KK,bh.apart bf WG⟩,U⟩):v:=h
theorem aiW (tu se sp:Int) (ak:QR) (c2:Nat) (ws:List Int) (al:QR) (c3:Nat) (ae:List aW) (h2:ws) (h3:ae) (n2:ak= none->ws= []/\c2= 0) (n3:al= none->ae= []/\c3= 0) (cL:ws.length<=c2) (dS:ae.length<=c3) (az:oH ⟨tu,se,sp,ws,ae⟩ =true) (w:World) (bp:aX 1 cE w ak ws) (bj:aX 3 aW.cells w al ae):
 Rd 241 #[.agg #[tu,se,sp,ak ws c2,al ae c3]] w λe ah=>∃aU d2 bd d3,e= .returned (.tuple #[.agg #[tu,se,(0:Int),.slice aU ws d2,.slice bd (oV ⟨tu,se,sp,ws,ae⟩).ae.length d3],true])/\kq w ah aU d2 bd d3 ws (oV ⟨tu,se,sp,ws,ae⟩).ae/\Below w w ah:=by
 refine Dd ?_ bp bj n2 n3 dS;clear bp bj n2 n3 dS;intro bp bj n2 n3 dS
 have fo:(⟨tu,se,sp,ws,ae⟩ :fp).ok= true:=by simp only [oH,Xa] at az;exact az.1
 have aP:(sp == 0)= false:=by simp only [oH,Xa,YJ] at az;exact az.2
 obtain⟨rY,nj,sP⟩:=Kd fo (Xb.1 aP)
 have Hi:=(nt.1 fo).t
 obtain⟨ar,aj,aY⟩:=zZ.1 nj
 have jH:=SU (xs:=ae) (m:=sp)
 obtain⟨⟨eP,st,cR⟩,lM⟩ :∃x,fr ae sp= x:=⟨_,rfl⟩
 have My:yw ⟨tu,se,sp,ws,ae⟩ =⟨sp,st + 1,cR⟩:=by simp [yw,lM]
 have e1:(oV ⟨tu,se,sp,ws,ae⟩).ae= gg ae ⟨sp,st + 1,cR⟩:=by simp [oV,My]
 simp only at sP aj aY
 rw [lM] at sP aj aY jH
 simp only at sP aj aY jH Hi
 subst jH
 rw [e1]
 have cI:Hid (hG tu se eP ws ae= true):=I fo;replace lM:=I lM;clear fo az rY nj ar My e1
 go_in
 go_upto_region 1 with fail
 refine fU λaO ar ag J=>?_
 have U:=ar;have aJ:=ag.aL;have af:=J.aL;have hC:=J.lt
 go_wp2_with fail
 refine (oz c2 h2 h3 cL _ cI.o (bp.o.ad (ai U ao)) (bj.o.ad (ai U ao))).mono ?_
 rintro e aI ⟨rfl,aQ⟩
 have aj:=be aO aQ;replace U:=ai U aj;replace ag:=ag.to aj;replace aJ:=ag.aL;replace J:=J.to aj;replace af:=J.aL
 go_wp2_with fail
 refine (agv h2 h3 n2.o n3.o cL dS.o st cR lM.o KK KK (bp.o.ad (ai U ao)) (bj.o.ad (ai U ao))).mono ?_
 rintro e bw ⟨aU,d2,bd,d3,rfl,dv,bG⟩
 have aY:=be aI bG;replace U:=ai U aY;clear aJ;replace J:=J.to aY;replace af:=J.aL;have Tc:=aj.size;have bh:=dv.fc;have bf:=dv.fE;clear dv;have eo:=bh.bK J;have dL:=bf.bK J;have eg:=J.iW
 go_wp2
 clear af
 refine hs 0 λCh jA=>?_
 replace U:=jA.aN U;replace J:=jA.iK J;replace bh:=bh.cS jA eo;replace bf:=bf.cS jA dL;have af:=J.aL
 refine XY (v:= .tuple #[.agg #[tu,se,(0:Int),.slice aU ws d2,.slice bd (gg ae ⟨eP,st + 1,cR⟩).length d3],true]) (by simp [results,Tryz.results241,go_sem,af]) rfl ?_
 exact alR
theorem aHn (h:v:=by
 replace af:=J.aL;have eg:=J.iW
 go_wp2
 clear af
 refine hs 0 λcP aE=>?_
 replace U:=aE.aN U;replace J:=aE.iK J;have af:=J.aL
 exact hV ⟨rfl,U⟩ Zn):v:=h
theorem akt (h:v:=by
 replace af:=J.aL;have eg:=J.iW
 go_wp2
 clear aJ af
 refine hs 0 λcP aE=>?_
 replace U:=aE.aN U;replace J:=aE.iK J;have af:=J.aL
 exact hV ⟨rfl,U⟩ Zn):v:=h
theorem aiA (tu se sp:Int) (ak:QR) (c2:Nat) (ws:List Int) (al:QR) (c3:Nat) (ae:List aW) (h2:ws) (h3:ae) (n2:ak= none->ws= []/\c2= 0) (n3:al= none->ae= []/\c3= 0) (cL:ws.length<=c2) (dS:ae.length<=c3) (m:Int) (az:qf ⟨tu,se,sp,ws,ae⟩ m= false) (w:World) (bp:aX 1 cE w ak ws) (bj:aX 3 aW.cells w al ae):
 Rd 238 #[.agg #[tu,se,sp,ak ws c2,al ae c3],m] w λe ah=>e= .returned (.tuple #[.agg #[(0:Int),(0:Int),(0:Int),(),()],false])/\Below w w ah:=by
 replace bp:=I bp;replace bj:=I bj;clear n2 n3 dS
 have pw:(m == sp)= (sp == m):=by rw [Bool.eq_iff_iff,Xx,Xx];exact eq_comm
 cases hB:hG tu se sp ws ae
 case false=>
  have cI:=I hB;clear hB;clear az pw
  go_in
  go_upto_region 1 with fail
  refine fU λaO ar ag J=>?_
  have U:=ar;have aJ:=ag.aL;have af:=J.aL
  go_wp2_with fail
  refine (oz c2 h2 h3 cL _ cI.o (bp.o.ad (ai U ao)) (bj.o.ad (ai U ao))).mono ?_
  rintro e aI ⟨rfl,aQ⟩
  have aj:=be aO aQ;replace U:=ai U aj;clear aJ;replace J:=J.to aj
  exact aHn
 case true=>
  cases hX:fy m
  case false=>
   have cI:=I hB;clear hB;have gi:=I hX;clear hX;clear az pw
   go_in
   go_upto_region 1 with fail
   refine fU λaO ar ag J=>?_
   have U:=ar;have aJ:=ag.aL;have af:=J.aL
   go_wp2_with fail
   refine (oz c2 h2 h3 cL _ cI.o (bp.o.ad (ai U ao)) (bj.o.ad (ai U ao))).mono ?_
   rintro e aI ⟨rfl,aQ⟩
   have aj:=be aO aQ;replace U:=ai U aj;clear aJ;replace J:=J.to aj;replace af:=J.aL
   go_wp2_with fail
   refine (km _ gi.o _).mono ?_
   rintro e w0 ⟨rfl,h0⟩
   rw [h0]
   clear h0 w0;have eg:=J.iW
   go_wp2
   clear af
   refine hs 0 λcP aE=>?_
   replace U:=aE.aN U;replace J:=aE.iK J;have af:=J.aL
   exact hV ⟨rfl,U⟩ Zn
  case true=>
   cases kI:hasB ws m
   case true=>
    have cI:=I hB;clear hB;have gi:=I hX;clear hX;have hK:=I kI;clear kI;clear az pw
    go_in
    go_upto_region 1 with fail
    refine fU λaO ar ag J=>?_
    have U:=ar;have aJ:=ag.aL;have af:=J.aL
    go_wp2_with fail
    refine (oz c2 h2 h3 cL _ cI.o (bp.o.ad (ai U ao)) (bj.o.ad (ai U ao))).mono ?_
    rintro e aI ⟨rfl,aQ⟩
    have aj:=be aO aQ;replace U:=ai U aj;replace ag:=ag.to aj;replace aJ:=ag.aL;replace J:=J.to aj;replace af:=J.aL
    go_wp2_with fail
    refine (km _ gi.o _).mono ?_
    rintro e w0 ⟨rfl,h0⟩
    rw [h0]
    clear h0 w0
    go_wp2_with fail
    refine (EW ak c2 ws m h2 _ hK.o _ (bp.o.ad (ai U ao))).mono ?_
    rintro e bw ⟨rfl,bG⟩
    have aY:=be aI bG;replace U:=ai U aY;clear aJ;replace J:=J.to aY
    exact aHn
   case false=>
    cases ry:(sp == m)
    case true=>
     have cI:=I hB;clear hB;have gi:=I hX;clear hX;have hK:=I kI;clear kI;clear az pw
     go_in
     go_upto_region 1 with fail
     refine fU λaO ar ag J=>?_
     have U:=ar;have aJ:=ag.aL;have af:=J.aL
     go_wp2_with fail
     refine (oz c2 h2 h3 cL _ cI.o (bp.o.ad (ai U ao)) (bj.o.ad (ai U ao))).mono ?_
     rintro e aI ⟨rfl,aQ⟩
     have aj:=be aO aQ;replace U:=ai U aj;replace ag:=ag.to aj;replace aJ:=ag.aL;replace J:=J.to aj;replace af:=J.aL
     go_wp2_with fail
     refine (km _ gi.o _).mono ?_
     rintro e w0 ⟨rfl,h0⟩
     rw [h0]
     clear h0 w0
     go_wp2_with fail
     refine (EW ak c2 ws m h2 _ hK.o _ (bp.o.ad (ai U ao))).mono ?_
     rintro e bw ⟨rfl,bG⟩
     have aY:=be aI bG;replace U:=ai U aY;replace ag:=ag.to aY;replace aJ:=ag.aL;replace J:=J.to aY
     exact akt
    case false=>
     cases nU:rr tu se (fr ae m)
     case false=>
      have cI:=I hB;clear hB;have gi:=I hX;clear hX;have hK:=I kI;clear kI;have fl:=I nU;clear nU;clear az pw
      go_in
      go_upto_region 1 with fail
      refine fU λaO ar ag J=>?_
      have U:=ar;have aJ:=ag.aL;have af:=J.aL
      go_wp2_with fail
      refine (oz c2 h2 h3 cL _ cI.o (bp.o.ad (ai U ao)) (bj.o.ad (ai U ao))).mono ?_
      rintro e aI ⟨rfl,aQ⟩
      have aj:=be aO aQ;replace U:=ai U aj;replace ag:=ag.to aj;replace aJ:=ag.aL;replace J:=J.to aj;replace af:=J.aL
      go_wp2_with fail
      refine (km _ gi.o _).mono ?_
      rintro e w0 ⟨rfl,h0⟩
      rw [h0]
      clear h0 w0
      go_wp2_with fail
      refine (EW ak c2 ws m h2 _ hK.o _ (bp.o.ad (ai U ao))).mono ?_
      rintro e bw ⟨rfl,bG⟩
      have aY:=be aI bG;replace U:=ai U aY;replace ag:=ag.to aY;replace aJ:=ag.aL;replace J:=J.to aY;replace af:=J.aL
      go_wp2_with fail
      refine (Ht h3 _ fl.o (bj.o.ad (ai U ao))).mono ?_
      rintro e bH ⟨rfl,db⟩
      have cj:=be bw db;replace U:=ai U cj;clear aJ;replace J:=J.to cj
      exact aHn
     case true=>
      have wQ:decide (ws.length= 10)= true:=by simpa [qf,fp.ok,pw,hB,hX,kI,ry,nU] using az
      have cI:=I hB;clear hB;have gi:=I hX;clear hX;have hK:=I kI;clear kI;have fl:=I nU;clear nU
      have cJ:((ws.length:Int) == 10)= true:=by have:=of_decide_eq_true wQ;rw [this];rfl
      clear wQ;clear az pw
      go_in
      go_upto_region 1 with fail
      refine fU λaO ar ag J=>?_
      have U:=ar;have aJ:=ag.aL;have af:=J.aL
      go_wp2_with fail
      refine (oz c2 h2 h3 cL _ cI.o (bp.o.ad (ai U ao)) (bj.o.ad (ai U ao))).mono ?_
      rintro e aI ⟨rfl,aQ⟩
      have aj:=be aO aQ;replace U:=ai U aj;replace ag:=ag.to aj;replace aJ:=ag.aL;replace J:=J.to aj;replace af:=J.aL
      go_wp2_with fail
      refine (km _ gi.o _).mono ?_
      rintro e w0 ⟨rfl,h0⟩
      rw [h0]
      clear h0 w0
      go_wp2_with fail
      refine (EW ak c2 ws m h2 _ hK.o _ (bp.o.ad (ai U ao))).mono ?_
      rintro e bw ⟨rfl,bG⟩
      have aY:=be aI bG;replace U:=ai U aY;replace ag:=ag.to aY;replace aJ:=ag.aL;replace J:=J.to aY;replace af:=J.aL
      go_wp2_with fail
      refine (Ht h3 _ fl.o (bj.o.ad (ai U ao))).mono ?_
      rintro e bH ⟨rfl,db⟩
      have cj:=be bw db;replace U:=ai U cj;replace ag:=ag.to cj;replace aJ:=ag.aL;replace J:=J.to cj
      exact akt
theorem aiB (tu se sp:Int) (ak:QR) (c2:Nat) (ws:List Int) (al:QR) (c3:Nat) (ae:List aW) (h2:ws) (h3:ae) (n2:ak= none->ws= []/\c2= 0) (n3:al= none->ae= []/\c3= 0) (cL:ws.length<=c2) (dS:ae.length<=c3) (m:Int) (az:qf ⟨tu,se,sp,ws,ae⟩ m= true) (w:World) (bp:aX 1 cE w ak ws) (bj:aX 3 aW.cells w al ae):
 Rd 238 #[.agg #[tu,se,sp,ak ws c2,al ae c3],m] w λe ah=>∃aU d2 bd d3,e= .returned (.tuple #[.agg #[tu,se,sp,.slice aU (ws ++ [m]).length d2,.slice bd ae d3],true])/\kq w ah aU d2 bd d3 (ws ++ [m]) ae/\Below w w ah:=by
 obtain⟨i0,bo,dP,dZ,dV⟩:=Xo vK
 refine sa ?_ bp bj n2 n3;clear bp bj n2 n3;intro bp bj n2 n3;clear dS
 obtain⟨hB,hX,aP,ry,nU,wQ⟩ :hG tu se sp ws ae= true/\fy m= true/\(m == sp)= false/\hasB ws m= false/\rr tu se (fr ae m)= true/\ws.length≠10:=by
  simpa [qf,fp.ok] using az
 have aP:(sp == m)= false:=Xb.2 (λe=>Xb.1 aP e.symm);have cJ:((ws.length:Int) == 10)= false:=Xb.2 KK;have oP:ws.length<=10:=(nt.1 (show (⟨tu,se,sp,ws,ae⟩ :fp).ok= true from hB)).l
 refine sa ?_ hB hX ry nU
 clear hB hX ry nU
 intro hB hX ry nU
 clear wQ az
 go_in
 go_upto_region 1 with fail
 refine fU λaO ar ag J=>?_
 have U:=ar;have aJ:=ag.aL;have af:=J.aL;have hC:=J.lt
 go_wp2_with fail
 refine (oz c2 h2 h3 cL _ hB.o (bp.o.ad (ai U ao)) (bj.o.ad (ai U ao))).mono ?_
 rintro e aI ⟨rfl,aQ⟩
 have aj:=be aO aQ;replace U:=ai U aj;replace ag:=ag.to aj;replace aJ:=ag.aL;replace J:=J.to aj;replace af:=J.aL
 go_wp2_with fail
 refine (km _ hX.o _).mono ?_
 rintro e w0 ⟨rfl,h0⟩
 rw [h0]
 clear h0 w0
 go_wp2_with fail
 refine (EW ak c2 ws m h2 _ ry.o _ (bp.o.ad (ai U ao))).mono ?_
 rintro e bw ⟨rfl,bG⟩
 have aY:=be aI bG;replace U:=ai U aY;replace ag:=ag.to aY;replace aJ:=ag.aL;replace J:=J.to aY;replace af:=J.aL
 go_wp2_with fail
 refine (Ht h3 _ nU.o (bj.o.ad (ai U ao))).mono ?_
 rintro e bH ⟨rfl,db⟩
 have cj:=be bw db;replace U:=ai U cj;replace ag:=ag.to cj;replace aJ:=ag.aL;replace J:=J.to cj;replace af:=J.aL
 go_wp2_with fail
 refine (NZ h2 h3 n2.o n3.o (bp.o.ad (ai U ao)) (bj.o.ad (ai U ao))).mono ?_
 rintro e cO ⟨aU,d2,bd,d3,rfl,dv,eM⟩
 have dK:=be bH eM;replace U:=ai U dK;clear aJ;replace J:=J.to dK;replace af:=J.aL;have vX:=U.size;have Tb:=aj.size;have aIa:=aY.size;have aIb:=cj.size;have ajH:=dK.size
 go_upto_region 4 with fail
 refine Xi λdu gm aR=>?_;have fb:=dv.aK gm
 replace U:=ai U gm
 obtain⟨cA,x1,cB,cY,cZ⟩:=aR.aL
 replace J:=J.to gm;replace af:=J.aL;have lN:=aR.lt;have bh:=fb.fc;have bf:=fb.fE;have kS:=bh.apart bf WG;have rz:=bh.lt;have uG:=bh.bK aR
 have wR:∀k,(Value.slice aU ws d2).ownBlock= some k->k≠w.heap.size + 1:=λk ax e=>by have:=(rz k ax).1;have:=Tb;omega
 have jC:=I bh;have jD:=I bf;have fV:=I aR;have jN:=I J;have oc:=I kS;have FL:=I uG;have FM:=I wR;have FK:=I rz;have vh:=I U
 have Nh:bH.heap.size<=du.heap.size:=KK
 clear dv fb bh bf kS uG wR rz;have aHh:=cY;clear cA x1 cB cY cZ af
 go_upto_region 5 with ((at_builtin;refine ke rfl _ _ 38 rfl bH 3 i0 _ 1 8 Tryz.underlying38 bo dP dZ dV rfl WG cE fR qU _ ws rfl (jC.o.alloc _) ⟨du,0,none⟩ 1 m rfl (aX.one (f:=cE) m _) Xz KK Xq ?_;intro v9 eB ix en GD;have eT:=((fV.o.alloc (.cells #[m] 3)).jE en (λe=>FL.o _ e.symm rfl));clear GD;obtain⟨Y,iC,rfl,q1,gM,nn⟩:=ix.form fR;clear q1 gM nn;replace ix:bn bH 3 1 cE eB (Y (ws.length + 1) iC) (ws ++ [m]):=(by rw [Xu] at ix;exact ix);have QH:=eT.frozen 3;have Vm:=(eT.cell 3).trans (show _= some (Value.slice aU ws d2) from rfl)))
 have fg:Below w w eB:=(vh.o.alloc KK (.cells #[m] 3)).grown en Xq (λq bt=>by have:=(FK.o q bt).1;omega);have cp:=(jN.o.alloc (.cells #[m] 3)).jE en (λe=>FM.o _ e.symm rfl);have bf:=(jD.o.alloc (.cells #[m] 3)).kept en (λk ax e=>oc.o k e.symm ax.symm);have bh:=ix;have uG:=bh.bK eT
 have VD:=bf.bK eT;clear aR J ag en ix QH Vm aHh;replace U:=fg;clear fg;have af:=cp.aL
 obtain⟨cA,x1,cB,cY,cZ⟩:=eT.aL
 have eo:∀k,(Value.slice Y (ws.length + 1) iC).ownBlock= some k->¬k= cO.heap.size:=uG;have dL:∀k,(Value.slice bd ae d3).ownBlock= some k->¬k= cO.heap.size:=VD;clear af cA x1 cB cY cZ
 refine kL 3 λQc mo=>?_
 replace U:=mo.aN U;replace cp:=mo.dj cp;replace eT:=mo.HK eT;replace bh:=bh.cS mo eo;replace bf:=bf.cS mo dL;have af:=cp.aL
 obtain⟨cA,x1,cB,cY,cZ⟩:=eT.aL
 clear eo dL
 have eo:∀k,(Value.slice Y (ws.length + 1) iC).ownBlock= some k->¬k= w.heap.size + 1:=λk ax e=>by have:=(bh.lt k ax).1;omega
 have dL:∀k,(Value.slice bd ae d3).ownBlock= some k->¬k= w.heap.size + 1:=λk ax e=>by have h:=(bf.lt k ax).1;omega
 have Jc:=cp.frozen 0;have Jd:=cp.frozen 1;have Je:=cp.frozen 2;have Jf:=cp.frozen 3;have Jg:=cp.frozen 4
 go_wp2
 clear af cA x1 cB cY cZ
 refine hs 0 λQd mV=>?_
 replace U:=mV.aN U;replace cp:=mV.iK cp;replace eT:=mV.dj eT;replace bh:=bh.cS mV eo;replace bf:=bf.cS mV dL;have af:=cp.aL
 refine XY (v:= .tuple #[.agg #[tu,se,sp,Y (ws.length + 1) iC,.slice bd ae d3],true]) Zn rfl ?_
 have xS:(ws ++ [m]).length= ws.length + 1:=Wn
 rw [xS]
 exact⟨Y,iC,bd,d3,rfl,⟨by rw [xS];exact bh.base KK,bf.base KK,by rw [xS];exact bh.apart bf WG⟩,U⟩
theorem axG {x y:Int} (av:f.ws[k]? =some x) (hy:f.ws[mD f k]? =some y):mD f (k + 1)= if (fr f.ae x).dw < (fr f.ae y).dw then k else mD f k:=by
 simp only [mD,av,hy]
theorem axF:mD f 1= 0:=by have:=HC f 1 KK;omega
theorem ags (tu se sp:Int) (ak:QR) (c2:Nat) (ws:List Int) (al:QR) (c3:Nat) (ae:List aW) (h2:ws) (h3:ae) (n2:ak= none->ws= []/\c2= 0) (n3:al= none->ae= []/\c3= 0) (cL:ws.length<=c2) (dS:ae.length<=c3) (h0:0 < ws.length) (w:World) (bp:aX 1 cE w ak ws) (bj:aX 3 aW.cells w al ae):
 Rd 268 #[.agg #[tu,se,sp,ak ws c2,al ae c3]] w λe ah=>e= .returned (.int .i64 (mD ⟨tu,se,sp,ws,ae⟩ ws.length))/\Below w w ah:=by
 refine Dd ?_ bp bj n2 n3 dS;clear bp bj n2 n3 dS;intro bp bj n2 n3 dS
 obtain⟨dr,fc,m0,hA2,zl,_,_⟩:=bp.o.at_ (Wt _ _) (k:=0) h0
 subst hA2
 clear n2
 go_in
 go_upto_region 1 with fail
 refine dh λaO ar ag=>?_
 have U:=ar;have aJ:=ag.aL;have Jw:=ag.lt;replace ag:=I ag;have qv:=I U;clear aJ
 go_wp2
 go_loopw [3,4] (λv i wr=>∃k:Nat,1<=k/\k<=ws.length/\i= .int .i64 k/\v= .int .i64 (mD ⟨tu,se,sp,ws,ae⟩ k)/\Below aO aO wr) (λ_ i _=>ws.length - (intOf i).toNat)
 case atStart=>exact⟨1,XZ _,h0,rfl,by rw [axF];rfl,Wt _ _⟩
 case round=>
  obtain⟨k,xQ,ax,rfl,rfl,aB⟩:=hrel
  have hv:=ag.o.ad aB ag.o.lt;have aJ:=ay.kG (λK:aD wr wr=>(hv.ad K.ad hv.lt));have g3:=(hv.cell 3).trans (show _= some (.slice (some ⟨dr,fc,none⟩) ws c2) from rfl);have sS:=HC ⟨tu,se,sp,ws,ae⟩ k KK
  by_cases bC:k < ws.length
  .have av:ws[k]? =some ws[k]:=Xj bC
   have hy:ws[mD ⟨tu,se,sp,ws,ae⟩ k]? =some ws[mD ⟨tu,se,sp,ws,ae⟩ k]:=Xj KK;have jI:=axG (f:=⟨tu,se,sp,ws,ae⟩) av hy
   simp only at jI
   generalize ws[k]= x at *
   generalize ws[mD ⟨tu,se,sp,ws,ae⟩ k]= y at *
   generalize mD ⟨tu,se,sp,ws,ae⟩ k= j at *
   obtain⟨⟨eY,kp,xs⟩,aFq⟩ :∃s,fr ae x= s:=⟨_,rfl⟩
   obtain⟨⟨ri,sn,ys⟩,aFr⟩ :∃s,fr ae y= s:=⟨_,rfl⟩
   rw [aFq,aFr] at jI
   simp only at jI
   have abu:=I aFq;have abv:=I aFr;have abt:=I jI
   have Vc:=λK:aD wr wr=>(xl (bp.o.ad (ai (ai qv.o aB) K.ad)) av (i:=0) (u:= .int .i64 x) rfl)
   have wG:=λK:aD wr wr=>(xl (bp.o.ad (ai (ai qv.o aB) K.ad)) hy (i:=0) (u:= .int .i64 y) rfl)
   simp only [Xw,XW] at Vc wG
   have e1:=λW=>(show (Instr.field 214 (.agg #[eY,kp,xs]) 1).run Tryz.prog W= .ok (.int .i64 kp) W by kernel_rfl)
   have e2:=λW=>(show (Instr.field 214 (.agg #[ri,sn,ys]) 1).run Tryz.prog W= .ok (.int .i64 sn) W by kernel_rfl)
   have uI:decide ((k:Int) < (ws.length:Int))= true:=Xh KK;clear aFq aFr jI av hy
   by_cases cJ:kp < sn
   .have NI:decide (kp < sn)= true:=Xh cJ
    go_wp2
    clear g3
    refine eQ PV PV ?_
    repeat go_big_quiet_step (fail)
    go_big_quiet_step ((go_at_call 267;exact aD.call _ Xm (zP tu se sp (some ⟨dr,fc,none⟩) ws.length c2 al c3 ae h3 x ⟨eY,kp,xs⟩ abu.o _ (bj.o.ad (ai (ai qv.o aB) (aD.ad _))))))
    repeat go_big_quiet_step (fail)
    go_big_quiet_step ((go_at_call 267;exact aD.call _ Xm (zP tu se sp (some ⟨dr,fc,none⟩) ws.length c2 al c3 ae h3 y ⟨ri,sn,ys⟩ abv.o _ (bj.o.ad (ai (ai qv.o aB) (aD.ad _))))))
    repeat go_big_quiet_step (fail)
    refine VF ?_
    intro K
    clear aJ Vc wG e1 e2 NI hv
    go_wp2
    go_roundw
    case rel=>exact⟨k + 1,by omega,by omega,by go_num,by rw [abt.o,XX cJ],ai aB K.ad⟩
    case measure=>simp [intOf];omega
   .have NI:decide (kp < sn)= false:=Xe cJ
    go_wp2
    clear g3
    refine eQ PV PV ?_
    repeat go_big_quiet_step (fail)
    go_big_quiet_step ((go_at_call 267;exact aD.call _ Xm (zP tu se sp (some ⟨dr,fc,none⟩) ws.length c2 al c3 ae h3 x ⟨eY,kp,xs⟩ abu.o _ (bj.o.ad (ai (ai qv.o aB) (aD.ad _))))))
    repeat go_big_quiet_step (fail)
    go_big_quiet_step ((go_at_call 267;exact aD.call _ Xm (zP tu se sp (some ⟨dr,fc,none⟩) ws.length c2 al c3 ae h3 y ⟨ri,sn,ys⟩ abv.o _ (bj.o.ad (ai (ai qv.o aB) (aD.ad _))))))
    repeat go_big_quiet_step (fail)
    refine VF ?_
    intro K
    clear aJ Vc wG e1 e2 NI hv
    go_wp2
    go_roundw
    case rel=>exact⟨k + 1,by omega,by omega,by go_num,by rw [abt.o,XU KK],ai aB K.ad⟩
    case measure=>simp [intOf];omega
  .obtain rfl:k= ws.length:=KK
   have uI:decide ((ws.length:Int) < (ws.length:Int))= false:=Xe KK;clear aJ
   go_wp2
   go_ret
   exact⟨rfl,ai qv.o aB⟩
def Tf (xs:List Int) (k:Nat):mZ (Option Addr×Nat) where
 par:=λn=>match n with
  | 4=>[0]
  | _=>[]
 val:=λn p=>match n with
  | 0=> .slice p.1 0 0
  | 4=> .slice p.1 k p.2
  | _=>undef
 post:=λn bA p dy V=>match n with
  | 0=>p.1= some ⟨dy.heap.size,0,none⟩/\ay V dy.heap.size 3 #[]
  | 4=>∃g bS,(bA 0).1= some ⟨g,0,none⟩/\p.1= some ⟨bS,0,none⟩/\bn g 3 1 cE V (.slice p.1 (xs.take k).length p.2) (xs.take k)
  | _=>True
theorem akr (h:v:=by
 refine XV ?_
 go_wp2
 first | exact hz ⟨(some ⟨hi.world,0,none⟩,0),rfl,bP _ _,rfl,ay.new _ _ _⟩ | exact hz ⟨some ⟨hi.world,0,none⟩,0,rfl,bP _ _,rfl,ay.new _ _ _⟩):v:=h
theorem akJ (h:v:=by
 first | exact hz ⟨(some ⟨bS,0,none⟩,dq),rfl,fM,gZ,bS,ud.o,rfl,fW⟩ | exact hz ⟨some ⟨bS,0,none⟩,dq,rfl,fM,gZ,bS,ud.o,rfl,fW⟩):v:=h
theorem ana (h:v:=by
 have adL:Below w w fH:=fg.o.grown ds Dz (λq bt=>by have h9:g5= q:=Wx bt;omega)
 refine nK ((oY.o _).2 adL) (da _ _ ?_)
 refine qu ?_
 refine VF ?_
 refine Xp ?_
 try simp only [Act.put]
 try go_simp
 repeat go_big_quiet_step (fail)
 refine VF ?_
 go_wp2
 go_ret
 exact⟨Y,iC,rfl,tA,adL⟩):v:=h
theorem agu {c:Nat} {xs:List Int} (bq:xs) (aN:xs.length<=c) (ax:k < xs.length) {w:World} (R:aX 1 cE w A xs):
 Rd 269 #[A xs c,k] w λe ah=>∃bS dq,e= .returned (.slice bS (xs.length - 1) dq)/\bn w 3 1 cE ah (.slice bS (xs.length - 1) dq) (xs.take k ++ xs.drop (k + 1))/\Below w w ah:=by
 obtain⟨i0,bo,dP,dZ,dV⟩:=Xo vK
 obtain⟨b,o,m0,bl,eN,_,_⟩:=R.at_ (Wt _ _) (k:=0) KK
 subst bl
 replace R:=I R;have lF:Hid ((xs.take k).length= k):=I ZH;have oe:Hid ((xs.drop (k + 1)).length= xs.length - (k + 1)):=I (by rw [YQ]);have sw:Hid (aX 1 cE w (some ⟨b,o,none⟩) (xs.take k)):=I (HM R.o k);have DK:Hid ((xs.take k ++ xs.drop (k + 1)).length= xs.length - 1):=I (by rw [Xu,YA,YQ];omega)
 by_cases hX:k + 1= c
 .subst hX
  replace oe:Hid ((xs.drop (k + 1)).length= 0):=I (by have:=oe.o;omega);have rM:Hid (aX 1 cE w (some ⟨b,o,none⟩) (xs.drop (k + 1))):=I (by rw [List.drop_of_length_le KK];exact aX.nil)
  go_in
  obtain⟨BK,Eo⟩ :∃X:World->Prop,∀V,X V↔(Below w w V):=⟨_,λ_=>Xt⟩
  have oY:=I Eo;clear Eo
  haveI:Nonempty (cM BK):=⟨⟨w,((oY.o _).2 ((Wt _ _)))⟩⟩
  go_upto_region 1 with fail
  refine Ia (Tf xs k) BK [([],0),([1,2,3],4)] [5,6,7,8] [([],[],9,false)] [] [10] PV PV ((oY.o _).2 ((Wt _ _).drew)) (λW fz h k=>((oY.o _).2 (((oY.o _).1 h).trans (k.mono ((oY.o _).1 h).size)))) ?_
  intro bA
  refine iP (some 5) rfl (.slice (bA 0).1 0 0) rfl λhE eu=>?_
  refine Xn ?_
  refine VF ?_
  refine⟨λhi fQ=>?_,eu _ ?_⟩
  .exact akr
  simp only [Act.put]
  go_simp
  refine iP (some 9) rfl (.slice (bA 4).1 k (bA 4).2) rfl λhE eu=>?_
  refine YI ?_
  repeat go_big_quiet_step (fail)
  refine VF ?_
  refine⟨λhi fQ=>?_,eu _ ?_⟩
  .refine XV ?_
   obtain⟨gZ,uf,pn,⟨lJ,lb⟩,ld⟩:=fQ 0 (by simp [Tf])
   have jG:=lb.to ld;have iN:(bA 0).1= some ⟨gZ,0,none⟩:=lJ;have pa:=I (sw.o.ad ((oY.o _).1 hi.holds));have BX:=I jG;clear jG lb lJ pn ld fQ
   rw [iN]
   have ud:=I iN;clear iN
   go_wp2_with ((at_builtin;refine va rfl _ _ 38 rfl gZ 3 i0 _ 1 8 Tryz.underlying38 bo dP dZ dV rfl WG cE fR qU gZ rfl BX.o (XZ _) (some ⟨b,o,none⟩) (k + 1) (xs.take k) k lF.o.symm rfl pa.o (λh=>by cases h) ZU ZV ?_;intro bS dq ah fW fM))
   exact akJ
  simp only [Act.put]
  go_simp
  refine tU ?_
  refine Yo ?_
  repeat go_big_quiet_step (fail)
  refine VF ?_
  intro dy V W aC cv
  obtain⟨g0,g5,e0,e5,sg⟩ :∃g bS,(bA 0).1= some ⟨g,0,none⟩/\(bA 4).1= some ⟨bS,0,none⟩/\bn g 3 1 cE (V 4) (.slice (bA 4).1 (xs.take k).length (bA 4).2) (xs.take k):=aC.post 4 Wn
  obtain⟨a0,_⟩ :(bA 0).1= some ⟨(dy 0),0,none⟩/\ay (V 0) (dy 0) 3 #[]:=aC.post 0 Wn
  have t0:(dy 0).heap.size= g0:=by rw [a0] at e0;exact Xc Addr.block (Wx e0)
  have hd:=(sg.aK (aC.aK 4 Wn)).base (B':=w) Zk;have wZ:Below w w W:=(aC.whole 4 Wn).rI;have aj:Below w w W:=ai ao (aC.whole 4 Wn).rI;have U:Below w w W:=aj;clear aC sg a0 e0 t0 cv
  generalize bA 4= nD at *
  obtain⟨Pl,d5⟩:=nD
  simp only at hd e5
  subst e5
  rw [lF.o] at hd
  have Dz:=wZ.size;have WB:=hd.lt g5 rfl;have lD:Hid (bn w 3 1 cE W (g5 k d5) (xs.take k)):=I hd;have fg:=I wZ;clear hd
  refine jj λff da=>?_
  refine VF ?_
  refine VF ?_
  refine XV ?_
  have BW:=I (rM.o.ad fg.o)
  go_wp2_with ((at_builtin;refine Pe rfl _ _ 38 rfl w 3 i0 _ 1 8 Tryz.underlying38 bo dP dZ dV rfl WG cE fR qU _ (xs.take k) rfl lD.o (some ⟨b,o,none⟩) (0) (xs.drop (k + 1)) (by rw [oe.o];rfl) BW.o (λh=>by cases h) aGW (by have h1:=oe.o;have h2:=lF.o;rw [h1,h2];omega) Dz ?_;intro v10 fH tA ds;obtain⟨Y,iC,az,q1,gM,nn⟩:=tA.form fR;clear q1 gM nn;rw [DK.o] at az;subst az))
  exact ana
 .skip
  have rM:Hid (aX 1 cE w (some ⟨b,o + (k + 1),none⟩) (xs.drop (k + 1))):=I (by have h:=Ki R.o (k + 1);rw [Xw] at h;exact h)
  go_in
  obtain⟨BK,Eo⟩ :∃X:World->Prop,∀V,X V↔(Below w w V):=⟨_,λ_=>Xt⟩
  have oY:=I Eo;clear Eo
  haveI:Nonempty (cM BK):=⟨⟨w,((oY.o _).2 ((Wt _ _)))⟩⟩
  go_upto_region 1 with fail
  refine Ia (Tf xs k) BK [([],0),([1,2,3],4)] [5,6,7,8] [([],[],9,false)] [] [10] PV PV ((oY.o _).2 ((Wt _ _).drew)) (λW fz h k=>((oY.o _).2 (((oY.o _).1 h).trans (k.mono ((oY.o _).1 h).size)))) ?_
  intro bA
  refine iP (some 5) rfl (.slice (bA 0).1 0 0) rfl λhE eu=>?_
  refine Xn ?_
  refine VF ?_
  refine⟨λhi fQ=>?_,eu _ ?_⟩
  .exact akr
  simp only [Act.put]
  go_simp
  refine iP (some 9) rfl (.slice (bA 4).1 k (bA 4).2) rfl λhE eu=>?_
  refine YI ?_
  repeat go_big_quiet_step (fail)
  refine VF ?_
  refine⟨λhi fQ=>?_,eu _ ?_⟩
  .refine XV ?_
   obtain⟨gZ,uf,pn,⟨lJ,lb⟩,ld⟩:=fQ 0 (by simp [Tf])
   have jG:=lb.to ld;have iN:(bA 0).1= some ⟨gZ,0,none⟩:=lJ;have pa:=I (sw.o.ad ((oY.o _).1 hi.holds));have BX:=I jG;clear jG lb lJ pn ld fQ
   rw [iN]
   have ud:=I iN;clear iN
   go_wp2_with ((at_builtin;refine va rfl _ _ 38 rfl gZ 3 i0 _ 1 8 Tryz.underlying38 bo dP dZ dV rfl WG cE fR qU gZ rfl BX.o (XZ _) (some ⟨b,o,none⟩) c (xs.take k) k lF.o.symm rfl pa.o (λh=>by cases h) ZU ZV ?_;intro bS dq ah fW fM))
   exact akJ
  simp only [Act.put]
  go_simp
  refine tU ?_
  refine Yo ?_
  repeat go_big_quiet_step (fail)
  refine VF ?_
  intro dy V W aC cv
  obtain⟨g0,g5,e0,e5,sg⟩ :∃g bS,(bA 0).1= some ⟨g,0,none⟩/\(bA 4).1= some ⟨bS,0,none⟩/\bn g 3 1 cE (V 4) (.slice (bA 4).1 (xs.take k).length (bA 4).2) (xs.take k):=aC.post 4 Wn
  obtain⟨a0,_⟩ :(bA 0).1= some ⟨(dy 0),0,none⟩/\ay (V 0) (dy 0) 3 #[]:=aC.post 0 Wn
  have t0:(dy 0).heap.size= g0:=by rw [a0] at e0;exact Xc Addr.block (Wx e0)
  have hd:=(sg.aK (aC.aK 4 Wn)).base (B':=w) Zk;have wZ:Below w w W:=(aC.whole 4 Wn).rI;have aj:Below w w W:=ai ao (aC.whole 4 Wn).rI;have U:Below w w W:=aj;clear aC sg a0 e0 t0 cv
  generalize bA 4= nD at *
  obtain⟨Pl,d5⟩:=nD
  simp only at hd e5
  subst e5
  rw [lF.o] at hd
  have Dz:=wZ.size;have WB:=hd.lt g5 rfl;have lD:Hid (bn w 3 1 cE W (g5 k d5) (xs.take k)):=I hd;have fg:=I wZ;clear hd
  refine jj λff da=>?_
  refine VF ?_
  refine VF ?_
  refine XV ?_
  have BW:=I (rM.o.ad fg.o)
  go_wp2_with ((at_builtin;refine Pe rfl _ _ 38 rfl w 3 i0 _ 1 8 Tryz.underlying38 bo dP dZ dV rfl WG cE fR qU _ (xs.take k) rfl lD.o (some ⟨b,o + (k + 1),none⟩) (c - (k + 1)) (xs.drop (k + 1)) (by rw [oe.o];rfl) BW.o (λh=>by cases h) aGW (by have h1:=oe.o;have h2:=lF.o;rw [h1,h2];omega) Dz ?_;intro v10 fH tA ds;obtain⟨Y,iC,az,q1,gM,nn⟩:=tA.form fR;clear q1 gM nn;rw [DK.o] at az;subst az))
  exact ana
theorem amw (h:v:=by
 go_in
 go_upto_region 1 with fail
 refine fU λaO ar ag J=>?_
 have U:=ar;have aJ:=ag.aL;have af:=J.aL;have Jw:=ag.lt;have hC:=J.lt
 go_wp2_with fail
 refine (oz c2 h2 h3 cL _ cI.o (bp.o.ad (ai U ao)) (bj.o.ad (ai U ao))).mono ?_
 rintro e aI ⟨rfl,aQ⟩
 have aj:=be aO aQ;replace U:=ai U aj;replace ag:=ag.to aj;replace aJ:=ag.aL;replace J:=J.to aj;replace af:=J.aL;have eg:=J.iW;have mY:=ag.lt;have eE:=J.lt
 go_wp2
 clear aJ af
 refine hs 0 λcP aE=>?_
 replace U:=aE.aN U;replace ag:=aE.dj ag;replace J:=aE.iK J;have Fm:=aE.sz;have aJ:=ag.aL;have af:=J.aL
 exact hV ⟨rfl,U⟩ aGz):v:=h
theorem aiP (tu se sp:Int) (ak:QR) (c2:Nat) (ws:List Int) (al:QR) (c3:Nat) (ae:List aW) (h2:ws) (h3:ae) (n2:ak= none->ws= []/\c2= 0) (n3:al= none->ae= []/\c3= 0) (cL:ws.length<=c2) (dS:ae.length<=c3) (az:oB ⟨tu,se,sp,ws,ae⟩ =false) (w:World) (bp:aX 1 cE w ak ws) (bj:aX 3 aW.cells w al ae):
 Rd 239 #[.agg #[tu,se,sp,ak ws c2,al ae c3]] w λe ah=>e= .returned (.tuple #[.agg #[(0:Int),(0:Int),(0:Int),(),()],(0:Int),false])/\Below w w ah:=by
 refine Dd ?_ bp bj n2 n3 dS;clear bp bj n2 n3 dS;intro bp bj n2 n3 dS
 cases hf:hG tu se sp ws ae
 .have cI:=I hf;clear hf az
  exact amw
 .cases aP:(sp == 0)
  case false=>
   have zA:(sp != 0)= true:=by rw [bne,aP];rfl
   have cI:=I hf;clear hf az aP
   exact amw
  case true=>
   have vH:ws.length= 0:=by
    exact alX
   have zA:(sp != 0)= false:=by rw [bne,aP];rfl
   obtain rfl:=YD.1 vH
   have cI:=I hf;clear hf az aP vH
   go_in
   go_upto_region 1 with fail
   refine fU λaO ar ag J=>?_
   have U:=ar;have aJ:=ag.aL;have af:=J.aL;have Jw:=ag.lt;have hC:=J.lt
   go_wp2_with fail
   refine (oz c2 h2 h3 cL _ cI.o (bp.o.ad (ai U ao)) (bj.o.ad (ai U ao))).mono ?_
   rintro e aI ⟨rfl,aQ⟩
   have aj:=be aO aQ;replace U:=ai U aj;replace ag:=ag.to aj;replace aJ:=ag.aL;replace J:=J.to aj;replace af:=J.aL;have eg:=J.iW;have mY:=ag.lt;have eE:=J.lt
   go_wp2
   clear aJ af
   refine hs 0 λcP aE=>?_
   replace U:=aE.aN U;replace ag:=aE.dj ag;replace J:=aE.iK J;have Fm:=aE.sz;have aJ:=ag.aL;have af:=J.aL
   exact hV ⟨rfl,U⟩ aGz
theorem awJ (tu se sp:Int) (ak:QR) (c2:Nat) (ws:List Int) (al:QR) (c3:Nat) (ae:List aW) (h2:ws) (h3:ae) (n2:ak= none->ws= []/\c2= 0) (n3:al= none->ae= []/\c3= 0) (cL:ws.length<=c2) (dS:ae.length<=c3) (h0:0 < ws.length) (k:Nat) (ax:mD ⟨tu,se,sp,ws,ae⟩ ws.length= k) (w:World) (bp:aX 1 cE w ak ws) (bj:aX 3 aW.cells w al ae):
 Rd 268 #[.agg #[tu,se,sp,ak ws c2,al ae c3]] w λe ah=>e= .returned k/\Below w w ah:=by
 subst ax
 exact ags tu se sp ak c2 ws al c3 ae h2 h3 n2 n3 cL dS h0 w bp bj
theorem aiQ (tu se sp:Int) (ak:QR) (c2:Nat) (ws:List Int) (al:QR) (c3:Nat) (ae:List aW) (h2:ws) (h3:ae) (n2:ak= none->ws= []/\c2= 0) (n3:al= none->ae= []/\c3= 0) (cL:ws.length<=c2) (dS:ae.length<=c3) (az:oB ⟨tu,se,sp,ws,ae⟩ =true) (m:Int) (hm:xh ⟨tu,se,sp,ws,ae⟩ =some m) (w:World) (bp:aX 1 cE w ak ws) (bj:aX 3 aW.cells w al ae):
 Rd 239 #[.agg #[tu,se,sp,ak ws c2,al ae c3]] w λe ah=>∃aU d2 bd d3,e= .returned (.tuple #[.agg #[tu,se,m,.slice aU (ws.filter λx=>!(x == m)).length d2,.slice bd ae d3],m,true])/\kq w ah aU d2 bd d3 (ws.filter λx=>!(x == m)) ae/\Below w w ah:=by
 refine sa ?_ bp bj n3 dS;clear bp bj n3 dS;intro bp bj n3 dS;have tn:=I n2;clear n2
 obtain⟨hB,aP,vH⟩ :hG tu se sp ws ae= true/\(sp == 0)= true/\0 < ws.length:=by
  simpa [oB,fp.ok] using az
 have zA:(sp != 0)= false:=by rw [bne,aP];rfl
 have cJ:((ws.length:Int) == 0)= false:=Xb.2 KK;have qL:=HC ⟨tu,se,sp,ws,ae⟩ ws.length vH
 obtain⟨k,ax⟩ :∃k,mD ⟨tu,se,sp,ws,ae⟩ ws.length= k:=⟨_,rfl⟩
 have av:ws[k]? =some m:=by rw [<- ax];exact hm
 rw [ax] at qL
 rw [art (nt.1 (show (⟨tu,se,sp,ws,ae⟩ :fp).ok= true from hB)).dz av]
 have lf:(ws.take k ++ ws.drop (k + 1)).length= ws.length - 1:=by rw [Xu,YA,YQ];omega
 rw [lf]
 obtain⟨dr,fc,m0,hA2,zl,nx,bO⟩:=bp.o.at_ (Wt _ _) (k:=0) vH
 subst hA2
 refine sa ?_ hB ax av lf;clear hB ax av lf;intro hB ax av lf;clear az hm aP tn nx bO;have tn:Hid ((some ⟨dr,fc,none⟩ :QR)= none->ws= []/\c2= 0):=I (λh=>by cases h)
 go_in
 go_upto_region 1 with fail
 refine fU λaO ar ag J=>?_
 have U:=ar;have aJ:=ag.aL;have af:=J.aL;have hC:=J.lt
 go_wp2_with fail
 refine (oz c2 h2 h3 cL _ hB.o (bp.o.ad (ai U ao)) (bj.o.ad (ai U ao))).mono ?_
 rintro e aI ⟨rfl,aQ⟩
 have aj:=be aO aQ;replace U:=ai U aj;replace ag:=ag.to aj;replace aJ:=ag.aL;replace J:=J.to aj;replace af:=J.aL
 go_wp2_with fail
 refine (awJ tu se sp (some ⟨dr,fc,none⟩) c2 ws al c3 ae h2 h3 tn.o n3.o cL dS.o vH k ax.o _ (bp.o.ad (ai U ao)) (bj.o.ad (ai U ao))).mono ?_
 rintro e bw ⟨rfl,bG⟩
 have aY:=be aI bG;replace U:=ai U aY;replace ag:=ag.to aY;replace aJ:=ag.aL;replace J:=J.to aY;replace af:=J.aL
 go_wp2_with fail
 refine (NZ h2 h3 tn.o n3.o (bp.o.ad (ai U ao)) (bj.o.ad (ai U ao))).mono ?_
 rintro e bH ⟨aU,d2,bd,d3,rfl,dv,db⟩
 have cj:=be bw db;replace U:=ai U cj;replace ag:=ag.to cj;replace aJ:=ag.aL;replace J:=J.to cj;replace af:=J.aL;have vX:=U.size;have Tc:=aj.size;have aIa:=aY.size;have aIb:=cj.size
 go_upto_region 5 with fail
 refine Xi λdu dK aR=>?_;have bf:=dv.fE.aK dK;clear dv
 replace U:=ai U dK;have bE:=aR.aL;replace ag:=ag.to dK;replace aJ:=ag.aL;replace J:=J.to dK;replace af:=J.aL;have pe:=xl (bp.o.ad U) av.o (i:=0) (u:= .int .i64 m) rfl
 simp only [Xw,XW] at pe
 have uo:=aR.frozen 2;have dL:=bf.bK aR
 go_upto_region 6 with fail
 clear pe;clear aJ af bE
 refine kL 2 λpP gz=>?_
 replace U:=gz.aN U;replace ag:=gz.dj ag;replace J:=gz.dj J;replace aR:=gz.Ss aR;replace bf:=bf.cS gz dL;have aJ:=ag.aL;have af:=J.aL;have bE:=aR.aL;clear dL uo;have aBC:=aR.lt
 go_wp2_with fail
 refine (agu h2 cL qL (bp.o.ad (ai U ao))).mono ?_
 rintro e dk ⟨Y,iC,rfl,pO,iH⟩
 have gm:=be pP iH;replace U:=ai U gm;replace bf:=bf.aK gm;replace ag:=ag.to gm;replace aJ:=ag.aL;replace J:=J.to gm;replace af:=J.aL;replace aR:=aR.to gm;replace bE:=aR.aL;have wI:=aR.frozen 3
 go_upto_region 7 with fail
 have dL:=bf.bK aR;have Dl:=pO.bK aR;clear aJ af bE
 refine kL 3 λoL fK=>?_
 replace U:=fK.aN U;replace ag:=fK.dj ag;replace J:=fK.dj J;replace aR:=fK.HK aR;replace bf:=bf.cS fK dL;replace pO:=pO.cS fK Dl;have aJ:=ag.aL;have af:=J.aL;have bE:=aR.aL;clear dL Dl wI
 obtain⟨xw,mK⟩ :∃X:World->Prop,∀V,X V↔(Below w w V/\ay V w 41 #[tu,se,sp,.slice (some ⟨dr,fc,none⟩) ws c2,al ae c3]/\ay V bH 41 #[tu,se,m,Y (ws.length - 1) iC,.slice bd ae d3]):=⟨_,λ_=>Xt⟩
 replace mK:=I mK
 haveI:Nonempty (cM xw):=⟨⟨oL,((mK.o _).2 ⟨U,ag,aR⟩)⟩⟩
 clear af;replace aJ:=ay.kG (λK:cM xw=>((mK.o _).1 K.holds).2.1);replace bE:=ay.kG (λK:cM xw=>((mK.o _).1 K.holds).2.2)
 have pe:=λK:cM xw=>xl (bp.o.ad ((mK.o _).1 K.holds).1) av.o (i:=0) (u:= .int .i64 m) rfl
 simp only [Xw,XW] at pe
 refine tV xw [([0,1,2,3,4,5],[],6,false)] [] [7,8] PV PV ((mK.o _).2 ⟨U.drew,ag,aR⟩) ?_
 refine jj λK fj=>?_
 refine Yn ?_
 repeat go_big_quiet_step (fail)
 refine VF ?_
 refine VF ?_
 refine XV ?_
 have eJ:=(Wt oL oL).drew;replace U:Below w w oL.drew:=U.drew;have cp:=J.to eJ;have eT:=aR.to eJ;have MM:=ag.to eJ;replace bf:=bf.aK eJ;replace pO:=pO.aK eJ;clear J aR ag bE aJ eJ pe
 generalize oL.drew= UK at *
 have af:=cp.aL;have Jc:=cp.frozen 0;have Jd:=cp.frozen 1;have Je:=cp.frozen 2;have Jf:=cp.frozen 3;have Jg:=cp.frozen 4;have dL:=bf.bK cp;have Dl:=pO.bK cp
 go_wp2
 clear af
 refine hs 0 λAG oF=>?_
 replace U:=oF.aN U;replace cp:=oF.iK cp;replace MM:=oF.dj MM;replace eT:=oF.dj eT;replace bf:=bf.cS oF dL;replace pO:=pO.cS oF Dl;have af:=cp.aL
 refine nK ((mK.o _).2 ⟨U,MM,eT⟩) (fj _ _ ?_)
 refine qu ?_
 refine VF ?_
 refine YB ?_
 repeat go_big_quiet_step (fail)
 refine VF ?_
 go_wp2
 refine XY (v:= .tuple #[.agg #[tu,se,m,Y (ws.length - 1) iC,.slice bd ae d3],m,true]) aGz rfl ?_
 exact⟨Y,iC,bd,d3,rfl,⟨by rw [lf.o];exact pO.base KK,bf.base KK,by rw [lf.o];exact pO.apart bf WG⟩,U⟩
structure fa (aq au ak al aF:Option Addr) (c0 aw c2 c3 c4:Nat) (rs:List aM) (qs:List aZ) (ws:List Int) (ae:List aW) (os:List Out):Prop where
 h0:rs.length<=1048576
 h1:qs.length<=1048576
 h2:ws.length<=1048576
 h3:ae.length<=1048576
 h4:os.length<=1048576
 n0:aq= none->rs= []/\c0= 0
 n1:au= none->qs= []/\aw= 0
 n2:ak= none->ws= []/\c2= 0
 n3:al= none->ae= []/\c3= 0
 n4:aF= none->os= []/\c4= 0
 ev:rs.length<=c0
 eU:qs.length<=aw
 cL:ws.length<=c2
 dS:ae.length<=c3
 hl:os.length<=c4
inductive VG (aq au ak al aF:QR) (c0 aw c2 c3 c4:Nat) (rs:List aM) (qs:List aZ) (ws:List Int) (ae:List aW) (os:List Out) (tu se sp:Int):Type|x
instance aem {aq au ak al aF:QR} {c0 aw c2 c3 c4:Nat} {rs:List aM} {qs:List aZ} {ws:List Int} {ae:List aW} {os:List Out} {tu se sp:Int}:CoeSort (VG aq au ak al aF c0 aw c2 c3 c4 rs qs ws ae os tu se sp) Prop:=⟨λ_=>fa aq au ak al aF c0 aw c2 c3 c4 rs qs ws ae os⟩
instance asO {aq au ak al aF:QR} {c0 aw c2 c3 c4:Nat} {rs:List aM} {qs:List aZ} {ws:List Int} {ae:List aW} {os:List Out} {tu se sp:Int}:CoeOut (VG aq au ak al aF c0 aw c2 c3 c4 rs qs ws ae os tu se sp) (Array Value):=⟨λ_=>#[aq rs c0,au qs aw,tu,se,sp,ak ws c2,al ae c3,aF os c4]⟩
instance aCq {aq au ak al aF:QR} {c0 aw c2 c3 c4:Nat} {rs:List aM} {qs:List aZ} {ws:List Int} {ae:List aW} {os:List Out} {tu se sp:Int}:CoeOut (VG aq au ak al aF c0 aw c2 c3 c4 rs qs ws ae os tu se sp) di:=⟨λ_=>⟨rs,qs,tu,se,sp,ws,ae,os⟩⟩
variable {KL:VG aq au ak al aF c0 aw c2 c3 c4 rs qs ws ae os tu se sp}
structure eF (w:World) (aq au ak al aF:Option Addr) (rs:List aM) (qs:List aZ) (ws:List Int) (ae:List aW) (os:List Out):Prop where
 fC:aX 7 aM.cells w aq rs
 dM:aX 3 aZ.cells w au qs
 r2:aX 1 cE w ak ws
 gS:aX 3 aW.cells w al ae
 ll:aX 3 Out.cells w aF os
structure fu (B:Nat) (w:World) (bN:Option Addr) (d0:Nat) (bZ:Option Addr) (d1:Nat) (aU:Option Addr) (d2:Nat) (bd:Option Addr) (d3:Nat) (bI:Option Addr) (d4:Nat) (rs:List aM) (qs:List aZ) (ws:List Int) (ae:List aW) (os:List Out):Prop where
 jg:bn B 89 7 aM.cells w (.slice bN rs.length d0) rs
 hx:bn B 115 3 aZ.cells w (.slice bZ qs.length d1) qs
 fc:bn B 3 1 cE w (.slice aU ws.length d2) ws
 fE:bn B 214 3 aW.cells w (.slice bd ae.length d3) ae
 kK:bn B 163 3 Out.cells w (.slice bI os.length d4) os
section
variable {B B':Nat} {w ah:World} {aq au ak al aF bN bZ aU bd bI:Option Addr} {c0 aw c2 c3 c4 d0 d1 d2 d3 d4:Nat} {rs:List aM} {qs:List aZ} {ws:List Int} {ae:List aW} {os:List Out}
theorem eF.ad (h:eF w aq au ak al aF rs qs ws ae os) (aB:Below w w ah):eF ah aq au ak al aF rs qs ws ae os:=⟨h.fC.ad aB,h.dM.ad aB,h.r2.ad aB,h.gS.ad aB,h.ll.ad aB⟩
theorem fu.aK (h:fu B w bN d0 bZ d1 aU d2 bd d3 bI d4 rs qs ws ae os) (aB:Below w w ah):fu B ah bN d0 bZ d1 aU d2 bd d3 bI d4 rs qs ws ae os:=⟨h.jg.aK aB,h.hx.aK aB,h.fc.aK aB,h.fE.aK aB,h.kK.aK aB⟩
theorem fu.base (h:fu B w bN d0 bZ d1 aU d2 bd d3 bI d4 rs qs ws ae os) (aB:B'<=B):fu B' w bN d0 bZ d1 aU d2 bd d3 bI d4 rs qs ws ae os:=⟨h.jg.base aB,h.hx.base aB,h.fc.base aB,h.fE.base aB,h.kK.base aB⟩
theorem agV:fu B w none 0 none 0 none 0 none 0 none 0 [] [] [] [] []:=⟨bn.nil,bn.nil,bn.nil,bn.nil,bn.nil⟩
theorem sd (x:Out):(Out.cells x).length= 3:=rfl
theorem HE (x:Out):∀u,u ∈ Out.cells x->u.oneCell'= true:=by
 intro u hu
 simp only [Out.cells,Xl,YT,or_false] at hu
 rcases hu with rfl | rfl | rfl <;> rfl
theorem fu.rd (h:fu B w bN d0 bZ d1 aU d2 bd d3 bI d4 rs qs ws ae os):eF w bN bZ aU bd bI rs qs ws ae os:=⟨h.jg.ej oT,h.hx.ej iT,h.fc.ej fR,h.fE.ej hI,h.kK.ej sd⟩
theorem nW {T:Type} {sz:Nat} {f:T->List Value} {e:TypeId} {n c:Nat} {xs:List T} (h:bn B e sz f w (A n c) xs) (hf:∀y,(f y).length= sz):xs.length<=c:=by
 exact ami
theorem fu.uN (h:fu B w bN d0 bZ d1 aU d2 bd d3 bI d4 rs qs ws ae os) (h0:rs) (h1:qs) (h2:ws) (h3:ae) (h4:os):fa bN bZ aU bd bI d0 d1 d2 d3 d4 rs qs ws ae os:=
 ⟨h0,h1,h2,h3,h4,h.jg.tK,h.hx.tK,h.fc.tK,h.fE.tK,h.kK.tK,nW h.jg oT,nW h.hx iT,nW h.fc fR,nW h.fE hI,nW h.kK sd⟩
theorem fu.apart (h:fu B w bN d0 bZ d1 aU d2 bd d3 bI d4 rs qs ws ae os):DF [bN rs d0,bZ qs d1,aU ws d2,bd ae d3,bI os d4]:=by
 unfold DF
 refine Yv (λu hu=>?_) (Yv (λu hu=>?_) (Yv (λu hu=>?_) (Yv (λu hu=>?_) (Yv (λu hu=>by simp at hu) List.Pairwise.nil))))
 .simp only [Xl,YT,or_false] at hu
  rcases hu with rfl | rfl | rfl | rfl
  .exact h.jg.apart h.hx WG
  .exact h.jg.apart h.fc WG
  .exact h.jg.apart h.fE WG
  .exact h.jg.apart h.kK WG
 .simp only [Xl,YT,or_false] at hu
  rcases hu with rfl | rfl | rfl
  .exact h.hx.apart h.fc WG
  .exact h.hx.apart h.fE WG
  .exact h.hx.apart h.kK WG
 .simp only [Xl,YT,or_false] at hu
  rcases hu with rfl | rfl
  .exact h.fc.apart h.fE WG
  .exact h.fc.apart h.kK WG
 .simp only [Xl,YT,or_false] at hu
  subst hu
  exact h.fE.apart h.kK WG
end
def Oq (rs:List aM) (qs:List aZ) (tu se sp:Int) (ws:List Int) (ae:List aW) (os:List Out):mZ ((Option Addr×Nat)×Option Addr×Nat) where
 par:=λn=>match n with
  | 3=>[0]
  | 7=>[4]
  | 14=>[11]
  | _=>[]
 val:=λn p=>match n with
  | 0=> .slice p.1.1 0 0
  | 3=> .slice p.1.1 rs.length p.1.2
  | 4=> .slice p.1.1 0 0
  | 7=> .slice p.1.1 qs.length p.1.2
  | 10=> .agg #[.int .i64 tu,.int .i64 se,.int .i64 sp,.slice p.1.1 ws.length p.1.2,.slice p.2.1 ae.length p.2.2]
  | 11=> .slice p.1.1 0 0
  | 14=> .slice p.1.1 os.length p.1.2
  | _=>undef
 post:=λn bA p dy V=>match n with
  | 0=>p.1.1= some ⟨dy.heap.size,0,none⟩/\ay V dy.heap.size 89 #[]
  | 3=>∃g,(bA 0).1.1= some ⟨g,0,none⟩/\bn g 89 7 aM.cells V (.slice p.1.1 rs.length p.1.2) rs
  | 4=>p.1.1= some ⟨dy.heap.size,0,none⟩/\ay V dy.heap.size 115 #[]
  | 7=>∃g,(bA 4).1.1= some ⟨g,0,none⟩/\bn g 115 3 aZ.cells V (.slice p.1.1 qs.length p.1.2) qs
  | 10=>kq dy.heap.size V p.1.1 p.1.2 p.2.1 p.2.2 ws ae
  | 11=>p.1.1= some ⟨dy.heap.size,0,none⟩/\ay V dy.heap.size 163 #[]
  | 14=>∃g,(bA 11).1.1= some ⟨g,0,none⟩/\bn g 163 3 Out.cells V (.slice p.1.1 os.length p.1.2) os
  | _=>True
theorem KQ (h:v:=by
 refine XV ?_
 go_wp2
 exact hz ⟨((some ⟨k.world,0,none⟩,0),none,0),rfl,bP _ _,rfl,ay.new _ _ _⟩):v:=h
theorem ams (h:v:=by
 refine XV ?_
 obtain⟨gZ,uf,pn,⟨lJ,lb⟩,ld⟩:=fQ 0 (by simp [Oq])
 have jG:=lb.to ld;have iN:(bA 0).1.1= some ⟨gZ,0,none⟩:=lJ;have pa:=I (ju.o.fC.ad ((kr.o _).1 k.holds).1);have BX:=I jG;clear jG lb lJ pn ld fQ
 rw [iN]
 have ud:=I iN;clear iN
 go_wp2_with ((at_builtin;refine BF rfl _ _ 29 rfl gZ 89 i0 _ 7 48 Tryz.underlying29 bo dP dZ dV rfl WG aM.cells oT aGo gZ rfl BX.o (XZ _) aq c0 rs rfl pa.o m0 Xz KK ?_;intro bS dq ah fW fM))
 first | exact hz ⟨((some ⟨bS,0,none⟩,dq),none,0),rfl,fM,gZ,ud.o,fW⟩ | exact hz ⟨(some ⟨bS,0,none⟩,dq),(none,0),rfl,fM,gZ,ud.o,fW⟩ | exact hz ⟨some ⟨bS,0,none⟩,dq,none,0,rfl,fM,gZ,ud.o,fW⟩):v:=h
theorem amr (h:v:=by
 refine XV ?_
 obtain⟨gZ,uf,pn,⟨lJ,lb⟩,ld⟩:=fQ 4 (by simp [Oq])
 have jG:=lb.to ld;have iN:(bA 4).1.1= some ⟨gZ,0,none⟩:=lJ;have pa:=I (ju.o.dM.ad ((kr.o _).1 k.holds).1);have BX:=I jG;clear jG lb lJ pn ld fQ
 rw [iN]
 have ud:=I iN;clear iN
 go_wp2_with ((at_builtin;refine BF rfl _ _ 37 rfl gZ 115 Dc _ 3 24 Tryz.underlying37 agh NU NV NW rfl WG aZ.cells iT vQ gZ rfl BX.o (XZ _) au aw qs rfl pa.o m1 Xz KK ?_;intro bS dq ah fW fM))
 first | exact hz ⟨((some ⟨bS,0,none⟩,dq),none,0),rfl,fM,gZ,ud.o,fW⟩ | exact hz ⟨(some ⟨bS,0,none⟩,dq),(none,0),rfl,fM,gZ,ud.o,fW⟩ | exact hz ⟨some ⟨bS,0,none⟩,dq,none,0,rfl,fM,gZ,ud.o,fW⟩):v:=h
theorem amq (h:v:=by
 refine XV ?_
 obtain⟨gZ,uf,pn,⟨lJ,lb⟩,ld⟩:=fQ 11 (by simp [Oq])
 have jG:=lb.to ld;have iN:(bA 11).1.1= some ⟨gZ,0,none⟩:=lJ;have pa:=I (ju.o.ll.ad ((kr.o _).1 k.holds).1);have BX:=I jG;clear jG lb lJ pn ld fQ
 rw [iN]
 have ud:=I iN;clear iN
 go_wp2_with ((at_builtin;refine BF rfl _ _ 42 rfl gZ 163 gC _ 3 24 Tryz.underlying42 li agM agN agO rfl WG Out.cells sd HE gZ rfl BX.o (XZ _) aF c4 os rfl pa.o m4 Xz KK ?_;intro bS dq ah fW fM))
 first | exact hz ⟨((some ⟨bS,0,none⟩,dq),none,0),rfl,fM,gZ,ud.o,fW⟩ | exact hz ⟨(some ⟨bS,0,none⟩,dq),(none,0),rfl,fM,gZ,ud.o,fW⟩ | exact hz ⟨some ⟨bS,0,none⟩,dq,none,0,rfl,fM,gZ,ud.o,fW⟩):v:=h
theorem Sd (aq au ak al aF:QR) (c0 aw c2 c3 c4:Nat) (rs:List aM) (qs:List aZ) (tu se sp:Int) (ws:List Int) (ae:List aW) (os:List Out) (Z:fa aq au ak al aF c0 aw c2 c3 c4 rs qs ws ae os) (w:World) (R:eF w aq au ak al aF rs qs ws ae os):
 Rd 96 #[.agg #[aq rs c0,au qs aw,tu,se,sp,ak ws c2,al ae c3,aF os c4]] w λe ah=>∃bN d0 bZ d1 aU d2 bd d3 bI d4,e= .returned (.agg #[.slice bN rs d0,.slice bZ qs d1,tu,se,sp,.slice aU ws d2,.slice bd ae d3,.slice bI os d4])/\fu w ah bN d0 bZ d1 aU d2 bd d3 bI d4 rs qs ws ae os/\Below w w ah:=by
 obtain⟨i0,bo,dP,dZ,dV⟩:=Xo JK
 obtain⟨Dc,agh,NU,NV,NW⟩:=Xo xd
 obtain⟨gC,li,agM,agN,agO⟩:=Xo NS
 have ju:=I R;have jN:=I Z;have dD:=Z.h0;have dc:=Z.h1;have eL:=Z.h4;have m0:=Z.n0;have m1:=Z.n1;have m4:=Z.n4;clear R Z
 go_in
 go_upto_region 1 with fail
 refine fU λaO ar ag J=>?_
 have U:=ar;have aJ:=ag.aH;have af:=J.aH;have hC:=J.lt
 obtain⟨yy,Ep⟩ :∃X:World->Prop,∀V,X V↔(Below w w V/\ay V w 44 #[aq rs c0,au qs aw,tu,se,sp,ak ws c2,al ae c3,aF os c4]):=⟨_,λ_=>Xt⟩
 have kr:=I Ep;clear Ep
 haveI:Nonempty (cM yy):=⟨⟨aO,((kr.o _).2 ⟨U,ag⟩)⟩⟩
 clear af;replace aJ:=ay.qF (λK:cM yy=>((kr.o _).1 K.holds).2)
 go_wp2
 refine DB (Oq rs qs tu se sp ws ae os) yy [([],0),([1,2],3),([],4),([5,6],7),([8,9],10),([],11),([12,13],14)] [15] [([],16)] [] PV PV ((kr.o _).2 ⟨U.drew,ag⟩) (λW fz h k=>((kr.o _).2 ⟨((kr.o _).1 h).1.trans (k.mono ((kr.o _).1 h).1.size),((kr.o _).1 h).2.ad k ((kr.o _).1 h).2.lt⟩)) ?_
 intro bA
 refine iP (some 3) rfl (.slice (bA 0).1.1 0 0) rfl λhE eu=>?_
 refine Xn ?_
 refine VF ?_
 refine⟨λk fQ=>?_,eu _ ?_⟩
 .exact KQ
 simp only [Act.put]
 go_simp
 refine iP (some 6) rfl (.slice (bA 3).1.1 rs.length (bA 3).1.2) rfl λhE eu=>?_
 refine YB ?_
 repeat go_big_quiet_step (fail)
 refine VF ?_
 refine⟨λk fQ=>?_,eu _ ?_⟩
 .exact ams
 simp only [Act.put]
 go_simp
 refine iP (some 7) rfl (.slice (bA 4).1.1 0 0) rfl λhE eu=>?_
 refine Xn ?_
 refine VF ?_
 refine⟨λk fQ=>?_,eu _ ?_⟩
 .exact KQ
 simp only [Act.put]
 go_simp
 refine iP (some 10) rfl (.slice (bA 7).1.1 qs.length (bA 7).1.2) rfl λhE eu=>?_
 refine YB ?_
 repeat go_big_quiet_step (fail)
 refine VF ?_
 refine⟨λk fQ=>?_,eu _ ?_⟩
 .exact amr
 simp only [Act.put]
 go_simp
 refine iP (some 13) rfl (.agg #[tu,se,sp,.slice (bA 10).1.1 ws.length (bA 10).1.2,.slice (bA 10).2.1 ae.length (bA 10).2.2]) rfl λhE eu=>?_
 refine YB ?_
 repeat go_big_quiet_step (fail)
 refine VF ?_
 refine⟨λk fQ=>?_,eu _ ?_⟩
 .refine XV ?_
  go_wp2_with fail
  refine (Ol jN.o.h2 jN.o.h3 jN.o.n2 jN.o.n3 (ju.o.r2.ad ((kr.o _).1 k.holds).1) (ju.o.gS.ad ((kr.o _).1 k.holds).1)).mono ?_
  rintro e eB ⟨aU,d2,g3,d3,rfl,dv,eJ⟩
  go_wp2
  exact hz ⟨((aU,d2),some ⟨g3,0,none⟩,d3),rfl,eJ,dv⟩
 simp only [Act.put]
 go_simp
 refine iP (some 14) rfl (.slice (bA 11).1.1 0 0) rfl λhE eu=>?_
 refine Xn ?_
 refine VF ?_
 refine⟨λk fQ=>?_,eu _ ?_⟩
 .exact KQ
 simp only [Act.put]
 go_simp
 refine iP (some 17) rfl (.slice (bA 14).1.1 os.length (bA 14).1.2) rfl λhE eu=>?_
 refine YB ?_
 repeat go_big_quiet_step (fail)
 refine VF ?_
 refine⟨λk fQ=>?_,eu _ ?_⟩
 .exact amq
 simp only [Act.put]
 go_simp
 refine tU ?_
 refine Xp ?_
 repeat go_big_quiet_step (fail)
 refine VF ?_
 intro dy V W aC cv
 obtain⟨g3,e3,nn⟩ :∃g,(bA 0).1.1= some ⟨g,0,none⟩/\bn g 89 7 aM.cells (V 3) (.slice (bA 3).1.1 rs.length (bA 3).1.2) rs:=aC.post 3 Wn
 obtain⟨a3,_⟩ :(bA 0).1.1= some ⟨(dy 0),0,none⟩/\ay (V 0) (dy 0) 89 #[]:=aC.post 0 Wn
 have gT:(dy 0).heap.size= g3:=by rw [a3] at e3;exact Xc Addr.block (Wx e3)
 have cn:=(nn.aK (aC.aK 3 Wn)).base (B':=aO) (by rw [<- gT];exact (aC.oj 0 Wn).size)
 obtain⟨g7,e7,sX⟩ :∃g,(bA 4).1.1= some ⟨g,0,none⟩/\bn g 115 3 aZ.cells (V 7) (.slice (bA 7).1.1 qs.length (bA 7).1.2) qs:=aC.post 7 Wn
 obtain⟨a7,_⟩ :(bA 4).1.1= some ⟨(dy 4),0,none⟩/\ay (V 4) (dy 4) 115 #[]:=aC.post 4 Wn
 have OM:(dy 4).heap.size= g7:=by rw [a7] at e7;exact Xc Addr.block (Wx e7)
 have cm:=(sX.aK (aC.aK 7 Wn)).base (B':=aO) (by rw [<- OM];exact (aC.oj 4 Wn).size)
 obtain⟨g14,e14,xj⟩ :∃g,(bA 11).1.1= some ⟨g,0,none⟩/\bn g 163 3 Out.cells (V 14) (.slice (bA 14).1.1 os.length (bA 14).1.2) os:=aC.post 14 Wn
 obtain⟨a14,_⟩ :(bA 11).1.1= some ⟨(dy 11),0,none⟩/\ay (V 11) (dy 11) 163 #[]:=aC.post 11 Wn
 have OL:(dy 11).heap.size= g14:=by rw [a14] at e14;exact Xc Addr.block (Wx e14)
 have cx:=(xj.aK (aC.aK 14 Wn)).base (B':=aO) (by rw [<- OL];exact (aC.oj 11 Wn).size);have OA:kq (dy 10) (V 10) (bA 10).1.1 (bA 10).1.2 (bA 10).2.1 (bA 10).2.2 ws ae:=aC.post 10 Wn;have dv:=(OA.aK (aC.aK 10 Wn)).base (B':=aO) (aC.oj 10 Wn).size;clear aJ;have aY:Below aO aO W:=ai ao (aC.whole 10 Wn).rI
 replace U:=ai U aY;replace ag:=ag.to aY;replace J:=J.to aY;have af:=J.aH;clear aC OA nn sX xj a3 a7 a14 e3 e7 e14 gT OM OL cv m0 m1 m4
 generalize bA 3= cG at *
 generalize bA 7= dJ at *
 generalize bA 10= dt at *
 generalize bA 14= lP at *
 obtain⟨⟨bN,d0⟩,_,_⟩:=cG
 obtain⟨⟨bZ,d1⟩,_,_⟩:=dJ
 obtain⟨⟨aU,d2⟩,bd,d3⟩:=dt
 obtain⟨⟨bI,d4⟩,_,_⟩:=lP
 simp only at cn cm cx dv
 have bh:=dv.fc;have bf:=dv.fE;clear dv
 refine gA λff da=>?_
 refine Xn ?_
 refine VF ?_
 refine XV ?_
 have eg:=J.iX
 go_wp2
 clear af
 refine iO 0 λcP aE=>?_
 replace U:=aE.aN U;replace ag:=aE.dj ag;replace J:=aE.iV J;replace cn:=cn.cS aE (λk ax=>by first | exact gE k ax | (have:=cn.lt k ax;omega));replace cm:=cm.cS aE (λk ax=>by first | exact jf k ax | (have:=cm.lt k ax;omega));replace bh:=bh.cS aE (λk ax=>by first | exact eo k ax | (have:=bh.lt k ax;omega));replace bf:=bf.cS aE (λk ax=>by first | exact dL k ax | (have:=bf.lt k ax;omega))
 replace cx:=cx.cS aE (λk ax=>by first | exact gL k ax | (have:=cx.lt k ax;omega));have af:=J.aH
 refine gb (((kr.o _).2 ⟨U,ag⟩)) (da _ _ ?_)
 refine ky ?_
 refine Xn ?_
 refine VF ?_
 go_wp2
 exact hV ⟨bN,d0,bZ,d1,aU,d2,bd,d3,bI,d4,rfl,⟨cn.base KK,cm.base KK,bh.base KK,bf.base KK,cx.base KK⟩,U⟩ (by simp [results,Tryz.results96,go_sem,af])
theorem NY (aq au ak al aF:QR) (c0 aw c2 c3 c4:Nat) (rs:List aM) (qs:List aZ) (tu se sp:Int) (ws:List Int) (ae:List aW) (os:List Out) (Z:fa aq au ak al aF c0 aw c2 c3 c4 rs qs ws ae os) (w:World) (R:eF w aq au ak al aF rs qs ws ae os):
 Rd 106 #[.agg #[aq rs c0,au qs aw,tu,se,sp,ak ws c2,al ae c3,aF os c4]] w λe ah=>∃bN d0 bZ d1 aU d2 bd d3 bI d4,e= .returned (.agg #[.slice bN rs d0,.slice bZ qs d1,tu,se,sp,.slice aU ws d2,.slice bd ae d3,.slice bI os d4])/\fu w ah bN d0 bZ d1 aU d2 bd d3 bI d4 rs qs ws ae os/\Below w w ah:=by
 obtain⟨i0,bo,dP,dZ,dV⟩:=Xo JK
 obtain⟨Dc,agh,NU,NV,NW⟩:=Xo xd
 obtain⟨gC,li,agM,agN,agO⟩:=Xo NS
 have ju:=I R;have jN:=I Z;have dD:=Z.h0;have dc:=Z.h1;have eL:=Z.h4;have m0:=Z.n0;have m1:=Z.n1;have m4:=Z.n4;clear R Z
 go_in
 go_upto_region 1 with fail
 refine fU λaO ar ag J=>?_
 have U:=ar;have aJ:=ag.aH;have af:=J.aH;have hC:=J.lt
 obtain⟨yy,Ep⟩ :∃X:World->Prop,∀V,X V↔(Below w w V/\ay V w 44 #[aq rs c0,au qs aw,tu,se,sp,ak ws c2,al ae c3,aF os c4]):=⟨_,λ_=>Xt⟩
 have kr:=I Ep;clear Ep
 haveI:Nonempty (cM yy):=⟨⟨aO,((kr.o _).2 ⟨U,ag⟩)⟩⟩
 clear af;replace aJ:=ay.qF (λK:cM yy=>((kr.o _).1 K.holds).2)
 go_wp2
 refine DB (Oq rs qs tu se sp ws ae os) yy [([],0),([1,2],3),([],4),([5,6],7),([8,9],10),([],11),([12,13],14)] [15] [([],16)] [] PV PV ((kr.o _).2 ⟨U.drew,ag⟩) (λW fz h k=>((kr.o _).2 ⟨((kr.o _).1 h).1.trans (k.mono ((kr.o _).1 h).1.size),((kr.o _).1 h).2.ad k ((kr.o _).1 h).2.lt⟩)) ?_
 intro bA
 refine iP (some 3) rfl (.slice (bA 0).1.1 0 0) rfl λhE eu=>?_
 refine Xn ?_
 refine VF ?_
 refine⟨λk fQ=>?_,eu _ ?_⟩
 .exact KQ
 simp only [Act.put]
 go_simp
 refine iP (some 6) rfl (.slice (bA 3).1.1 rs.length (bA 3).1.2) rfl λhE eu=>?_
 refine YB ?_
 repeat go_big_quiet_step (fail)
 refine VF ?_
 refine⟨λk fQ=>?_,eu _ ?_⟩
 .exact ams
 simp only [Act.put]
 go_simp
 refine iP (some 7) rfl (.slice (bA 4).1.1 0 0) rfl λhE eu=>?_
 refine Xn ?_
 refine VF ?_
 refine⟨λk fQ=>?_,eu _ ?_⟩
 .exact KQ
 simp only [Act.put]
 go_simp
 refine iP (some 10) rfl (.slice (bA 7).1.1 qs.length (bA 7).1.2) rfl λhE eu=>?_
 refine YB ?_
 repeat go_big_quiet_step (fail)
 refine VF ?_
 refine⟨λk fQ=>?_,eu _ ?_⟩
 .exact amr
 simp only [Act.put]
 go_simp
 refine iP (some 13) rfl (.agg #[tu,se,sp,.slice (bA 10).1.1 ws.length (bA 10).1.2,.slice (bA 10).2.1 ae.length (bA 10).2.2]) rfl λhE eu=>?_
 refine YB ?_
 repeat go_big_quiet_step (fail)
 refine VF ?_
 refine⟨λk fQ=>?_,eu _ ?_⟩
 .refine XV ?_
  go_wp2_with fail
  refine (NZ jN.o.h2 jN.o.h3 jN.o.n2 jN.o.n3 (ju.o.r2.ad ((kr.o _).1 k.holds).1) (ju.o.gS.ad ((kr.o _).1 k.holds).1)).mono ?_
  rintro e eB ⟨aU,d2,bd,d3,rfl,dv,eJ⟩
  go_wp2
  exact hz ⟨((aU,d2),bd,d3),rfl,eJ,dv⟩
 simp only [Act.put]
 go_simp
 refine iP (some 14) rfl (.slice (bA 11).1.1 0 0) rfl λhE eu=>?_
 refine Xn ?_
 refine VF ?_
 refine⟨λk fQ=>?_,eu _ ?_⟩
 .exact KQ
 simp only [Act.put]
 go_simp
 refine iP (some 17) rfl (.slice (bA 14).1.1 os.length (bA 14).1.2) rfl λhE eu=>?_
 refine YB ?_
 repeat go_big_quiet_step (fail)
 refine VF ?_
 refine⟨λk fQ=>?_,eu _ ?_⟩
 .exact amq
 simp only [Act.put]
 go_simp
 refine tU ?_
 refine Xp ?_
 repeat go_big_quiet_step (fail)
 refine VF ?_
 intro dy V W aC cv
 obtain⟨g3,e3,nn⟩ :∃g,(bA 0).1.1= some ⟨g,0,none⟩/\bn g 89 7 aM.cells (V 3) (.slice (bA 3).1.1 rs.length (bA 3).1.2) rs:=aC.post 3 Wn
 obtain⟨a3,_⟩ :(bA 0).1.1= some ⟨(dy 0),0,none⟩/\ay (V 0) (dy 0) 89 #[]:=aC.post 0 Wn
 have gT:(dy 0).heap.size= g3:=by rw [a3] at e3;exact Xc Addr.block (Wx e3)
 have cn:=(nn.aK (aC.aK 3 Wn)).base (B':=aO) (by rw [<- gT];exact (aC.oj 0 Wn).size)
 obtain⟨g7,e7,sX⟩ :∃g,(bA 4).1.1= some ⟨g,0,none⟩/\bn g 115 3 aZ.cells (V 7) (.slice (bA 7).1.1 qs.length (bA 7).1.2) qs:=aC.post 7 Wn
 obtain⟨a7,_⟩ :(bA 4).1.1= some ⟨(dy 4),0,none⟩/\ay (V 4) (dy 4) 115 #[]:=aC.post 4 Wn
 have OM:(dy 4).heap.size= g7:=by rw [a7] at e7;exact Xc Addr.block (Wx e7)
 have cm:=(sX.aK (aC.aK 7 Wn)).base (B':=aO) (by rw [<- OM];exact (aC.oj 4 Wn).size)
 obtain⟨g14,e14,xj⟩ :∃g,(bA 11).1.1= some ⟨g,0,none⟩/\bn g 163 3 Out.cells (V 14) (.slice (bA 14).1.1 os.length (bA 14).1.2) os:=aC.post 14 Wn
 obtain⟨a14,_⟩ :(bA 11).1.1= some ⟨(dy 11),0,none⟩/\ay (V 11) (dy 11) 163 #[]:=aC.post 11 Wn
 have OL:(dy 11).heap.size= g14:=by rw [a14] at e14;exact Xc Addr.block (Wx e14)
 have cx:=(xj.aK (aC.aK 14 Wn)).base (B':=aO) (by rw [<- OL];exact (aC.oj 11 Wn).size);have OA:kq (dy 10) (V 10) (bA 10).1.1 (bA 10).1.2 (bA 10).2.1 (bA 10).2.2 ws ae:=aC.post 10 Wn;have dv:=(OA.aK (aC.aK 10 Wn)).base (B':=aO) (aC.oj 10 Wn).size;clear aJ;have aY:Below aO aO W:=ai ao (aC.whole 10 Wn).rI
 replace U:=ai U aY;replace ag:=ag.to aY;replace J:=J.to aY;have af:=J.aH;clear aC OA nn sX xj a3 a7 a14 e3 e7 e14 gT OM OL cv m0 m1 m4
 generalize bA 3= cG at *
 generalize bA 7= dJ at *
 generalize bA 10= dt at *
 generalize bA 14= lP at *
 obtain⟨⟨bN,d0⟩,_,_⟩:=cG
 obtain⟨⟨bZ,d1⟩,_,_⟩:=dJ
 obtain⟨⟨aU,d2⟩,bd,d3⟩:=dt
 obtain⟨⟨bI,d4⟩,_,_⟩:=lP
 simp only at cn cm cx dv
 have bh:=dv.fc;have bf:=dv.fE;clear dv
 refine gA λff da=>?_
 refine Xn ?_
 refine VF ?_
 refine XV ?_
 have eg:=J.iX
 go_wp2
 clear af
 refine iO 0 λcP aE=>?_
 replace U:=aE.aN U;replace ag:=aE.dj ag;replace J:=aE.iV J;replace cn:=cn.cS aE (λk ax=>by first | exact gE k ax | (have:=cn.lt k ax;omega));replace cm:=cm.cS aE (λk ax=>by first | exact jf k ax | (have:=cm.lt k ax;omega));replace bh:=bh.cS aE (λk ax=>by first | exact eo k ax | (have:=bh.lt k ax;omega));replace bf:=bf.cS aE (λk ax=>by first | exact dL k ax | (have:=bf.lt k ax;omega))
 replace cx:=cx.cS aE (λk ax=>by first | exact gL k ax | (have:=cx.lt k ax;omega));have af:=J.aH
 refine gb (((kr.o _).2 ⟨U,ag⟩)) (da _ _ ?_)
 refine ky ?_
 refine Xn ?_
 refine VF ?_
 go_wp2
 exact hV ⟨bN,d0,bZ,d1,aU,d2,bd,d3,bI,d4,rfl,⟨cn.base KK,cm.base KK,bh.base KK,bf.base KK,cx.base KK⟩,U⟩ (by simp [results,Tryz.results106,go_sem,af])
theorem XL {a b:Int} (v:Int) (az:v= if a < b then a else b) (w:World):Rd 131 #[a,b] w λe ah=>e= .returned v/\ah= w:=by
 subst az
 by_cases h:a < b
 .rw [XX h]
  go_in
  go_wp2
  go_ret
  exact⟨rfl,rfl⟩
 .rw [XU h]
  go_in
  go_wp2
  go_ret
  exact⟨rfl,rfl⟩
theorem akD (h:v:=by
 have eg:=J.iW
 go_wp2
 clear aJ af
 refine hs 0 λcP aE=>?_
 replace U:=aE.aN U;replace J:=aE.iK J;have af:=J.aL
 exact hV ⟨rfl,U⟩ Zo):v:=h
theorem aiR (tu se sp:Int) (ak:QR) (c2:Nat) (ws:List Int) (al:QR) (c3:Nat) (ae:List aW) (h2:ws) (h3:ae) (n2:ak= none->ws= []/\c2= 0) (n3:al= none->ae= []/\c3= 0) (cL:ws.length<=c2) (dS:ae.length<=c3) (n:Int) (az:qq ⟨tu,se,sp,ws,ae⟩ n= false) (w:World) (bp:aX 1 cE w ak ws) (bj:aX 3 aW.cells w al ae):
 Rd 240 #[.agg #[tu,se,sp,ak ws c2,al ae c3],n] w λe ah=>e= .returned (.tuple #[.agg #[(0:Int),(0:Int),(0:Int),(),()],(0:Int),false])/\Below w w ah:=by
 replace bp:=I bp;replace bj:=I bj;clear n2 n3 dS
 cases hf:hG tu se sp ws ae
 .have cI:=I hf;clear hf az
  go_in
  go_upto_region 1 with fail
  refine fU λaO ar ag J=>?_
  have U:=ar;have aJ:=ag.aL;have af:=J.aL
  go_wp2_with fail
  refine (oz c2 h2 h3 cL _ cI.o (bp.o.ad (ai U ao)) (bj.o.ad (ai U ao))).mono ?_
  rintro e aI ⟨rfl,aQ⟩
  have aj:=be aO aQ;replace U:=ai U aj;clear aJ;replace J:=J.to aj;replace af:=J.aL;have eg:=J.iW
  go_wp2
  clear af
  refine hs 0 λcP aE=>?_
  replace U:=aE.aN U;replace J:=aE.iK J;have af:=J.aL
  exact hV ⟨rfl,U⟩ Zo
 .cases aP:(sp == 0)
  case true=>
   have cI:=I hf;clear hf az
   go_in
   go_upto_region 1 with fail
   refine fU λaO ar ag J=>?_
   have U:=ar;have aJ:=ag.aL;have af:=J.aL
   go_wp2_with fail
   refine (oz c2 h2 h3 cL _ cI.o (bp.o.ad (ai U ao)) (bj.o.ad (ai U ao))).mono ?_
   rintro e aI ⟨rfl,aQ⟩
   have aj:=be aO aQ;replace U:=ai U aj;replace ag:=ag.to aj;replace aJ:=ag.aL;replace J:=J.to aj;replace af:=J.aL
   exact akD
  case false=>
   have bo:fB n 1 3600= false:=by simpa [qq,fp.ok,hf,aP] using az
   replace bo:=I bo;have cI:=I hf;clear hf az
   go_in
   go_upto_region 1 with fail
   refine fU λaO ar ag J=>?_
   have U:=ar;have aJ:=ag.aL;have af:=J.aL
   go_wp2_with fail
   refine (oz c2 h2 h3 cL _ cI.o (bp.o.ad (ai U ao)) (bj.o.ad (ai U ao))).mono ?_
   rintro e aI ⟨rfl,aQ⟩
   have aj:=be aO aQ;replace U:=ai U aj;replace ag:=ag.to aj;replace aJ:=ag.aL;replace J:=J.to aj;replace af:=J.aL
   go_wp2_with fail
   refine (lO _ bo.o _).mono ?_
   rintro e w0 ⟨rfl,h0⟩
   rw [h0]
   clear h0 w0
   exact akD
theorem aiS (tu se sp:Int) (ak:QR) (c2:Nat) (ws:List Int) (al:QR) (c3:Nat) (ae:List aW) (h2:ws) (h3:ae) (n2:ak= none->ws= []/\c2= 0) (n3:al= none->ae= []/\c3= 0) (cL:ws.length<=c2) (dS:ae.length<=c3) (n:Int) (az:qq ⟨tu,se,sp,ws,ae⟩ n= true) (w:World) (bp:aX 1 cE w ak ws) (bj:aX 3 aW.cells w al ae):
 Rd 240 #[.agg #[tu,se,sp,ak ws c2,al ae c3],n] w λe ah=>∃aU d2 bd d3,e= .returned (.tuple #[.agg #[tu,se,.int .i64 (lp ⟨tu,se,sp,ws,ae⟩ n).sp,.slice aU ws d2,.slice bd (lp ⟨tu,se,sp,ws,ae⟩ n).ae.length d3],.int .i64 (yh ⟨tu,se,sp,ws,ae⟩ n),true])/\kq w ah aU d2 bd d3 ws (lp ⟨tu,se,sp,ws,ae⟩ n).ae/\Below w w ah:=by
 refine Dd ?_ bp bj n2 n3 dS;clear bp bj n2 n3 dS;intro bp bj n2 n3 dS
 obtain⟨fo,tI,tF,zv⟩:=OS az
 have aP:(sp == 0)= false:=Xb.2 tI;have hlen:=Vv fo
 obtain⟨rY,nj,sP⟩:=Kd fo tI
 have Hi:=(nt.1 fo).t;have zD:=(nt.1 fo).s
 obtain⟨ar,aj,aY⟩:=zZ.1 nj
 have jH:=SU (xs:=ae) (m:=sp);have GX:=(nt.1 fo).ord
 obtain⟨⟨eP,st,cR⟩,lM⟩ :∃x,fr ae sp= x:=⟨_,rfl⟩
 simp only at sP aj aY GX
 rw [lM] at sP aj aY jH
 simp only at sP aj aY jH Hi zD
 have aFZ:=lM
 subst jH
 obtain⟨u,hu⟩ :∃u,u= (if n < se - cR then n else se - cR):=⟨_,rfl⟩
 have Gr:yh ⟨tu,se,eP,ws,ae⟩ n= u:=by simp [yh,lM,hu]
 have aug:0<=u/\u<=se - cR:=by rw [hu];split <;> omega
 have Mr:vV ⟨tu,se,eP,ws,ae⟩ n=⟨eP,st,cR + u⟩:=by simp [vV,lM,Gr]
 rw [Gr]
 have cI:Hid (hG tu se eP ws ae= true):=I fo;have kA:Hid (fB n 1 3600= true):=I (qT.2 ⟨tF,zv⟩);have rN:=I lM;have KS:=I Mr;have Uk:=I hu
 have aFY:ae.length<=1048574:=by simp only at hlen;omega
 have Hf:(gg ae ⟨eP,st,cR + u⟩).length<=1048575:=by have:=HT ae ⟨eP,st,cR + u⟩;omega
 have EP:fr (gg ae ⟨eP,st,cR + u⟩) eP=⟨eP,st,cR + u⟩:=by rw [Ku eP GX,XX rfl]
 replace EP:=I EP;replace Hf:=I Hf;clear fo az rY nj ar lM hlen aFZ GX Mr tI hu Gr tF zv
 go_in
 go_upto_region 1 with fail
 refine fU λaO ar ag J=>?_
 have U:=ar;have aJ:=ag.aL;have af:=J.aL;have hC:=J.lt
 go_wp2_with fail
 refine (oz c2 h2 h3 cL _ cI.o (bp.o.ad (ai U ao)) (bj.o.ad (ai U ao))).mono ?_
 rintro e aI ⟨rfl,aQ⟩
 have aj:=be aO aQ;replace U:=ai U aj;replace ag:=ag.to aj;replace aJ:=ag.aL;replace J:=J.to aj;replace af:=J.aL
 go_wp2_with fail
 refine (lO _ kA.o _).mono ?_
 rintro e w0 ⟨rfl,h0⟩
 rw [h0]
 clear h0 w0
 go_wp2_with fail
 refine (zP tu se eP ak ws.length c2 al c3 ae h3 eP ⟨eP,st,cR⟩ rN.o _ (bj.o.ad (ai U ao))).mono ?_
 rintro e bw ⟨rfl,bG⟩
 have aY:=be aI bG;replace U:=ai U aY;replace ag:=ag.to aY;replace aJ:=ag.aL;replace J:=J.to aY;replace af:=J.aL;have Tc:=aj.size;have aIa:=aY.size
 have qR:IntKind.i64.wrap (se - cR)= se - cR:=by rw [IntKind.wrap_i64];omega
 have NK:IntKind.i64.wrap (cR + u)= cR + u:=by rw [IntKind.wrap_i64];omega
 have np:=U.size
 go_upto_region 4 with fail
 refine dh λly cj bJ=>?_
 replace U:=ai U cj;have cT:=bJ.cb;replace ag:=ag.to cj;replace aJ:=ag.aL;replace J:=J.to cj;replace af:=J.aL
 go_wp2_with fail
 refine (XL u Uk.o _).mono ?_
 rintro e w0 ⟨rfl,h0⟩
 rw [h0]
 have MB:=bJ.frozen 2
 go_upto_region 6 with fail
 clear aJ af cT
 refine kL 2 λkE vY=>?_
 replace U:=vY.aN U;replace ag:=vY.dj ag;replace J:=vY.dj J;replace bJ:=vY.aHQ bJ;have aJ:=ag.aL;have af:=J.aL;have cT:=bJ.cb;clear MB;have atW:=bJ.lt
 go_wp2_with fail
 refine (agt h2 h3 n2.o n3.o dS.o (bp.o.ad (ai U ao)) (bj.o.ad (ai U ao))).mono ?_
 rintro e cO ⟨aU,d2,bd,d3,rfl,dv,eM⟩
 have dK:=be kE eM;replace U:=ai U dK;replace ag:=ag.to dK;replace aJ:=ag.aL;replace J:=J.to dK;replace af:=J.aL;replace bJ:=bJ.to dK;replace cT:=bJ.cb;have vX:=U.size;have ajH:=dK.size
 go_upto_region 7 with fail
 refine Xi λajU gm aR=>?_;have fb:=dv.aK gm;clear dv
 replace U:=ai U gm;have bE:=aR.aL;replace ag:=ag.to gm;replace aJ:=ag.aL;replace J:=J.to gm;replace af:=J.aL;replace bJ:=bJ.to gm;replace cT:=bJ.cb;have lN:=aR.lt;have bh:=fb.fc;have bf:=fb.fE;clear fb
 by_cases zp:cR + u= se
 .have wS:(cR + u == se)= true:=Xx.2 zp
  have e1:(lp ⟨tu,se,eP,ws,ae⟩ n).sp= 0/\(lp ⟨tu,se,eP,ws,ae⟩ n).ae= gg (gg ae ⟨eP,st,cR + u⟩) ⟨eP,st + 1,cR + u⟩:=by
   exact amR
  have xC:=I e1;clear e1 zp
  go_upto_region 8 with fail
  have jC:=I bh;have jD:=I bf
  go_wp2_with fail
  refine (agv h2 (by have:=Hf.o;omega) jC.o.tK jD.o.tK (nW jC.o fR) (nW jD.o hI) st (cR + u) EP.o KK KK (jC.o.ej fR) (jD.o.ej hI)).mono ?_
  rintro e fS ⟨ct,e2,cu,e3,rfl,dv,gv⟩
  have rZ:=be ajU gv;replace U:=ai U rZ;clear aJ;replace J:=J.to rZ;replace af:=J.aL;clear cT;replace aR:=aR.to rZ;replace bE:=aR.aL;have yK:=dv.fc;have yL:=dv.fE;have Vq:=aR.iW;have RX:=yK.bK aR;have RY:=yL.bK aR
  go_upto_region 9 with fail
  clear af bE
  refine hs 0 λAG oF=>?_
  replace U:=oF.aN U;replace J:=oF.dj J;replace aR:=oF.iK aR;replace yK:=yK.cS oF RX;replace yL:=yL.cS oF RY;have af:=J.aL;have bE:=aR.aL;clear Vq;have eg:=J.iW;replace RX:=yK.bK J;replace RY:=yL.bK J
  go_wp2
  clear af bE
  refine hs 0 λcP aE=>?_
  replace U:=aE.aN U;replace J:=aE.iK J;replace yK:=yK.cS aE RX;replace yL:=yL.cS aE RY;have af:=J.aL
  refine XY (v:= .tuple #[.agg #[tu,se,(0:Int),ct ws e2,cu (gg (gg ae ⟨eP,st,cR + u⟩) ⟨eP,st + 1,cR + u⟩).length e3],.int .i64 u,true]) Zo rfl ?_
  rw [xC.o.1,xC.o.2]
  exact⟨ct,e2,cu,e3,rfl,⟨yK.base KK,yL.base KK,yK.apart yL WG⟩,U⟩
 .have wS:(cR + u == se)= false:=Xb.2 zp
  have e1:(lp ⟨tu,se,eP,ws,ae⟩ n).sp= eP/\(lp ⟨tu,se,eP,ws,ae⟩ n).ae= gg ae ⟨eP,st,cR + u⟩:=by
   exact akN
  have xC:=I e1;clear e1 zp;have eg:=J.iW;have eo:=bh.bK J;have dL:=bf.bK J
  go_wp2
  clear aJ af cT bE
  refine hs 0 λcP aE=>?_
  replace U:=aE.aN U;replace J:=aE.iK J;replace bh:=bh.cS aE eo;replace bf:=bf.cS aE dL;have af:=J.aL
  refine XY (v:= .tuple #[.agg #[tu,se,eP,.slice aU ws d2,.slice bd (gg ae ⟨eP,st,cR + u⟩).length d3],.int .i64 u,true]) Zo rfl ?_
  rw [xC.o.1,xC.o.2]
  exact alR
theorem aFk (h:v:=by
 replace R:=I R;replace Z:=I Z
 go_in
 go_upto_region 1 with fail
 refine fU λaO ar ag J=>?_
 have U:=ar;have aJ:=ag.aH;have af:=J.aH;have hC:=J.lt
 go_wp2_with fail
 refine (gk.o aq au ak al aF c0 aw c2 c3 c4 rs qs tu se sp ws ae os Z.o _ (R.o.ad (ai U ao))).mono ?_
 rintro e aI ⟨bN,d0,bZ,d1,aU,d2,bd,d3,bI,d4,rfl,dv,aQ⟩
 have aj:=be aO aQ;replace U:=ai U aj;replace ag:=ag.to aj;replace aJ:=ag.aH;replace J:=J.to aj;replace af:=J.aH;have pE:=aj.size;have vX:=U.size
 go_upto_region 2 with fail
 refine Xi λbH aY aR=>?_;have wq:=dv.aK aY;clear dv
 replace U:=ai U aY;have bE:=aR.aH;replace ag:=ag.to aY;replace aJ:=ag.aH;replace J:=J.to aY;replace af:=J.aH;have cn:=wq.jg;have cx:=wq.kK;clear wq;have Gt:=aR.frozen 1
 go_upto_region 3 with fail
 have gE:=cn.bK aR;have gL:=cx.bK aR;clear aJ af bE
 refine kL 1 λCh jA=>?_
 replace U:=jA.aN U;replace ag:=jA.dj ag;replace J:=jA.dj J;replace aR:=jA.OB aR;replace cn:=cn.cS jA gE;replace cx:=cx.cS jA gL;have aJ:=ag.aH;have af:=J.aH;have bE:=aR.aH
 clear Gt;have uo:=aR.frozen 2;have wI:=aR.frozen 3;have Cr:=aR.frozen 4;have Cs:=aR.frozen 5;have Ct:=aR.frozen 6
 go_upto_region 4 with fail
 clear aJ af bE
 refine hs 2 λoL fK=>?_
 replace U:=fK.aN U;replace J:=fK.dj J;replace aR:=fK.Kh aR;replace cn:=cn.cS fK (λk ax=>by first | exact gE k ax | (have:=cn.lt k ax;omega));replace cx:=cx.cS fK (λk ax=>by first | exact gL k ax | (have:=cx.lt k ax;omega))
 have af:=J.aH;have bE:=aR.aH;clear uo wI Cr Cs Ct;have eg:=J.iX;replace gE:=cn.bK J;replace gL:=cx.bK J
 go_wp2
 clear af bE
 refine iO 0 λcP aE=>?_
 replace U:=aE.aN U;replace J:=aE.iV J;replace cn:=cn.cS aE gE;replace cx:=cx.cS aE gL;have af:=J.aH
 exact hV ⟨bN,d0,bI,d4,rfl,cn.base KK,cx.base KK,U⟩ (by simp [results,Tryz.results257,Tryz.results236,go_sem,af])):v:=h
theorem akb (Z:KL) {w:World} (R:eF w aq au ak al aF rs qs ws ae os):
 Rd 257 #[.agg KL,Ce LS LR] w λe ah=>∃bN d0 bI d4,e= .returned (.agg #[.slice bN rs d0,Ce LS LR,tu,se,(0:Int),(),(),.slice bI os d4])/\bn w 89 7 aM.cells ah (.slice bN rs d0) rs/\bn w 163 3 Out.cells ah (.slice bI os d4) os/\Below w w ah:=by have gk:=I @Sd;exact aFk
theorem ago (Z:KL) {w:World} (R:eF w aq au ak al aF rs qs ws ae os):
 Rd 236 #[.agg KL,Ce LS LR] w λe ah=>∃bN d0 bI d4,e= .returned (.agg #[.slice bN rs d0,Ce LS LR,tu,se,(0:Int),(),(),.slice bI os d4])/\bn w 89 7 aM.cells ah (.slice bN rs d0) rs/\bn w 163 3 Out.cells ah (.slice bI os d4) os/\Below w w ah:=by have gk:=I @NY;exact aFk
theorem azw (tu se sp:Int) (ak:QR) (c2:Nat) (ws:List Int) (al:QR) (c3:Nat) (ae:List aW) (h2:ws) (h3:ae) (n2:ak= none->ws= []/\c2= 0) (n3:al= none->ae= []/\c3= 0) (cL:ws.length<=c2) (dS:ae.length<=c3) (mem:Int) (eD:Int) (cq:List Int) (cw:List aW) (az:qf ⟨tu,se,sp,ws,ae⟩ mem= true) (he:ug ⟨tu,se,sp,ws,ae⟩ mem=⟨tu,se,eD,cq,cw⟩) (w:World) (bp:aX 1 cE w ak ws) (bj:aX 3 aW.cells w al ae):
 Rd 238 #[.agg #[tu,se,sp,ak ws c2,al ae c3],mem] w λe ah=>∃aU d2 bd d3,e= .returned (.tuple #[.agg #[tu,se,eD,.slice aU cq d2,.slice bd cw d3],true])/\kq w ah aU d2 bd d3 cq cw/\Below w w ah:=by
 have e1:=Xc fp.sp he;have e3:=Xc fp.ae he;have e2:=Xc fp.ws he
 simp only [ug,vL] at e1 e2 e3
 subst e1;subst e3;subst e2
 exact aiB tu se sp ak c2 ws al c3 ae h2 h3 n2 n3 cL dS mem az w bp bj
theorem azx (tu se sp:Int) (ak:QR) (c2:Nat) (ws:List Int) (al:QR) (c3:Nat) (ae:List aW) (h2:ws) (h3:ae) (n2:ak= none->ws= []/\c2= 0) (n3:al= none->ae= []/\c3= 0) (cL:ws.length<=c2) (dS:ae.length<=c3) (q:Int) (bt:xh ⟨tu,se,sp,ws,ae⟩ =some q) (eD:Int) (cq:List Int) (cw:List aW) (az:oB ⟨tu,se,sp,ws,ae⟩ =true) (he:vL ⟨tu,se,sp,ws,ae⟩ q=⟨tu,se,eD,cq,cw⟩) (w:World) (bp:aX 1 cE w ak ws) (bj:aX 3 aW.cells w al ae):
 Rd 239 #[.agg #[tu,se,sp,ak ws c2,al ae c3]] w λe ah=>∃aU d2 bd d3,e= .returned (.tuple #[.agg #[tu,se,eD,.slice aU cq d2,.slice bd cw d3],q,true])/\kq w ah aU d2 bd d3 cq cw/\Below w w ah:=by
 have e1:=Xc fp.sp he;have e3:=Xc fp.ae he;have e2:=Xc fp.ws he
 simp only [ug,vL] at e1 e2 e3
 subst e1;subst e3;subst e2
 exact aiQ tu se sp ak c2 ws al c3 ae h2 h3 n2 n3 cL dS az q bt w bp bj
theorem alS (h:v:=by
 have e4:(lp ⟨tu,se,sp,ws,ae⟩ val).ws= cq:=by rw [he]
 rw [<- e4];unfold lp;split <;> rfl):v:=h
theorem azy (tu se sp:Int) (ak:QR) (c2:Nat) (ws:List Int) (al:QR) (c3:Nat) (ae:List aW) (h2:ws) (h3:ae) (n2:ak= none->ws= []/\c2= 0) (n3:al= none->ae= []/\c3= 0) (cL:ws.length<=c2) (dS:ae.length<=c3) (val:Int) (eD:Int) (cq:List Int) (cw:List aW) (az:qq ⟨tu,se,sp,ws,ae⟩ val= true) (he:lp ⟨tu,se,sp,ws,ae⟩ val=⟨tu,se,eD,cq,cw⟩) (w:World) (bp:aX 1 cE w ak ws) (bj:aX 3 aW.cells w al ae):
 Rd 240 #[.agg #[tu,se,sp,ak ws c2,al ae c3],val] w λe ah=>∃aU d2 bd d3,e= .returned (.tuple #[.agg #[tu,se,eD,.slice aU cq d2,.slice bd cw d3],.int .i64 (yh ⟨tu,se,sp,ws,ae⟩ val),true])/\kq w ah aU d2 bd d3 cq cw/\Below w w ah:=by
 have e1:(lp ⟨tu,se,sp,ws,ae⟩ val).sp= eD:=by rw [he]
 have e3:(lp ⟨tu,se,sp,ws,ae⟩ val).ae= cw:=by rw [he]
 have e2:ws= cq:=by
  exact alS
 subst e1;subst e3;subst e2
 exact aiS tu se sp ak c2 ws al c3 ae h2 h3 n2 n3 cL dS val az w bp bj
theorem azz (tu se sp:Int) (ak:QR) (c2:Nat) (ws:List Int) (al:QR) (c3:Nat) (ae:List aW) (h2:ws) (h3:ae) (n2:ak= none->ws= []/\c2= 0) (n3:al= none->ae= []/\c3= 0) (cL:ws.length<=c2) (dS:ae.length<=c3) (eD:Int) (cq:List Int) (cw:List aW) (az:oH ⟨tu,se,sp,ws,ae⟩ =true) (he:oV ⟨tu,se,sp,ws,ae⟩ =⟨tu,se,eD,cq,cw⟩) (w:World) (bp:aX 1 cE w ak ws) (bj:aX 3 aW.cells w al ae):
 Rd 241 #[.agg #[tu,se,sp,ak ws c2,al ae c3]] w λe ah=>∃aU d2 bd d3,e= .returned (.tuple #[.agg #[tu,se,eD,.slice aU cq d2,.slice bd cw d3],true])/\kq w ah aU d2 bd d3 cq cw/\Below w w ah:=by
 have e1:(0:Int)= eD:=Xc fp.sp he
 have e3:(oV ⟨tu,se,sp,ws,ae⟩).ae= cw:=by rw [he]
 have e2:ws= cq:=Xc fp.ws he
 subst e1;subst e3;subst e2
 exact aiW tu se sp ak c2 ws al c3 ae h2 h3 n2 n3 cL dS az w bp bj
theorem azK (aq au ak al aF:QR) (c0 aw c2 c3 c4:Nat) (rs:List aM) (qs:List aZ) (tu se sp:Int) (ws:List Int) (ae:List aW) (os:List Out) (Z:fa aq au ak al aF c0 aw c2 c3 c4 rs qs ws ae os) (mem val yes no bR:Int) (eD:Int) (cq:List Int) (cw:List aW) (az:qf ⟨tu,se,sp,ws,ae⟩ mem= true) (he:ug ⟨tu,se,sp,ws,ae⟩ mem=⟨tu,se,eD,cq,cw⟩) (aS:ee rs qs= true) (cr:jk rs qs= true) (w:World) (R:eF w aq au ak al aF rs qs ws ae os):
 Rd 235 #[.agg #[aq rs c0,au qs aw,tu,se,sp,ak ws c2,al ae c3,aF os c4],.agg #[(3:Int),mem,val,yes,no,bR]] w λe ah=>∃ck e0 cf e1 aU d2 bd d3 cl e4,e= .returned (.tuple #[.agg #[.slice ck rs e0,.slice cf qs e1,tu,se,eD,.slice aU cq d2,.slice bd cw d3,.slice cl os e4],true])/\fu w ah ck e0 cf e1 aU d2 bd d3 cl e4 rs qs cq cw os/\Below w w ah:=by
 refine Ho ?_ R Z aS cr az he;clear R Z aS cr az he;intro R Z aS cr az he
 go_in
 go_upto_region 1 with fail
 refine gY λaO ar ag bl J=>?_
 have U:=ar;have aJ:=ag.aH;have a':=bl.cX;have af:=J.aH;have hC:=J.lt
 go_upto_region 2 with fail
 refine dh λmX aj dd=>?_
 replace U:=ai U aj;have bS:=dd.aL;replace ag:=ag.to aj;replace aJ:=ag.aH;replace bl:=bl.to aj;replace a':=bl.cX;replace J:=J.to aj;replace af:=J.aH;have wU:=dd.lt
 go_wp2_with fail
 refine (Hp Z.o.h0 Z.o.h1 aS.o true cr.o (R.o.fC.ad (ai U ao)) (R.o.dM.ad (ai U ao))).mono ?_
 rintro e bw ⟨rfl,bG⟩
 have aY:=be mX bG;replace U:=ai U aY;replace ag:=ag.to aY;replace aJ:=ag.aH;replace bl:=bl.to aY;replace a':=bl.cX;replace J:=J.to aY;replace af:=J.aH;replace dd:=dd.to aY;replace bS:=dd.aL;have uV:=aY.size
 go_wp2_with fail
 refine (azw tu se sp ak c2 ws al c3 ae Z.o.h2 Z.o.h3 Z.o.n2 Z.o.n3 Z.o.cL Z.o.dS mem eD cq cw az.o he.o _ (R.o.r2.ad (ai U ao)) (R.o.gS.ad (ai U ao))).mono ?_
 rintro e bH ⟨aU,d2,bd,d3,rfl,dv,db⟩
 have cj:=be bw db;replace U:=ai U cj;replace ag:=ag.to cj;replace aJ:=ag.aH;clear a';replace J:=J.to cj;replace af:=J.aH;replace dd:=dd.to cj;replace bS:=dd.aL;have bh:=dv.fc;have bf:=dv.fE;clear dv;have wH:=dd.iW;have eo:=bh.bK dd;have dL:=bf.bK dd
 go_upto_region 12 with fail
 clear aJ af bS
 refine hs 0 λpP gz=>?_
 replace U:=gz.aN U;replace ag:=gz.dj ag;replace J:=gz.dj J;replace dd:=gz.iK dd;replace bh:=bh.cS gz eo;replace bf:=bf.cS gz dL;have aJ:=ag.aH;have af:=J.aH;have bS:=dd.aL;clear eo dL wH;have fI:=dd.lt
 go_wp2_with fail
 refine (NY aq au ak al aF c0 aw c2 c3 c4 rs qs tu se sp ws ae os Z.o _ (R.o.ad (ai U ao))).mono ?_
 rintro e cO ⟨ck,e0,cf,e1,ct,e2,cu,e3,cl,e4,rfl,dv,eM⟩
 have dK:=be pP eM;replace U:=ai U dK;replace bh:=bh.aK dK;replace bf:=bf.aK dK;clear aJ;replace J:=J.to dK;replace af:=J.aH;replace dd:=dd.to dK;replace bS:=dd.aL;have ti:=dK.size;have Ta:=U.size
 go_upto_region 15 with fail
 refine Xi λrb gm aR=>?_;have kC:=dv.aK gm;replace bh:=bh.aK gm;replace bf:=bf.aK gm
 replace U:=ai U gm;have bE:=aR.aH;replace J:=J.to gm;replace af:=J.aH;replace dd:=dd.to gm;replace bS:=dd.aL;have cn:=kC.jg;have cm:=kC.hx;have cx:=kC.kK;clear kC;have uo:=aR.frozen 2;have wI:=aR.frozen 3;have Cr:=aR.frozen 4;have Cs:=aR.frozen 5;have Ct:=aR.frozen 6;have gE:=cn.bK aR;have jf:=cm.bK aR;have eo:=bh.bK aR
 have dL:=bf.bK aR;have gL:=cx.bK aR
 go_upto_region 16 with fail
 clear af bS bE
 refine hs 2 λoL fK=>?_
 replace U:=fK.aN U;replace J:=fK.dj J;replace aR:=fK.Kh aR;replace bh:=bh.cS fK eo;replace bf:=bf.cS fK dL;replace cn:=cn.cS fK gE;replace cm:=cm.cS fK jf
 replace cx:=cx.cS fK gL;have af:=J.aH;have bE:=aR.aH;clear uo wI Cr Cs Ct;replace gE:=cn.bK J;replace jf:=cm.bK J;replace eo:=bh.bK J;replace dL:=bf.bK J;replace gL:=cx.bK J;have eg:=J.iX
 go_wp2
 clear af bE
 refine iO 0 λcP aE=>?_
 replace U:=aE.aN U;replace J:=aE.iV J;replace bh:=bh.cS aE eo;replace bf:=bf.cS aE dL;replace cn:=cn.cS aE gE;replace cm:=cm.cS aE jf;replace cx:=cx.cS aE gL;have af:=J.aH
 exact hV ⟨ck,e0,cf,e1,aU,d2,bd,d3,cl,e4,rfl,⟨cn.base KK,cm.base KK,bh.base KK,bf.base KK,cx.base KK⟩,U⟩ Zc
theorem aag (h:v:=by
 rintro e bw ⟨aU,d2,bd,d3,rfl,dv,bG⟩
 have aY:=be mX bG;replace U:=ai U aY;replace ag:=ag.to aY;replace aJ:=ag.aH;clear a';replace J:=J.to aY;replace af:=J.aH;replace dd:=dd.to aY;replace bS:=dd.aL;have bh:=dv.fc;have bf:=dv.fE;clear dv;have wH:=dd.iW;have eo:=bh.bK dd;have dL:=bf.bK dd
 go_upto_region 12 with fail
 clear aJ af bS
 refine hs 0 λpP gz=>?_
 replace U:=gz.aN U;replace ag:=gz.dj ag;replace J:=gz.dj J;replace dd:=gz.iK dd;replace bh:=bh.cS gz eo;replace bf:=bf.cS gz dL;have aJ:=ag.aH;have af:=J.aH;have bS:=dd.aL;clear eo dL wH;have fI:=dd.lt
 go_wp2_with fail
 refine (NY aq au ak al aF c0 aw c2 c3 c4 rs qs tu se sp ws ae os Z.o _ (R.o.ad (ai U ao))).mono ?_
 rintro e bH ⟨ck,e0,cf,e1,ct,e2,cu,e3,cl,e4,rfl,dv,db⟩
 have cj:=be pP db;replace U:=ai U cj;replace bh:=bh.aK cj;replace bf:=bf.aK cj;clear aJ;replace J:=J.to cj;replace af:=J.aH;replace dd:=dd.to cj;replace bS:=dd.aL;have yj:=cj.size;have Ta:=U.size
 go_upto_region 15 with fail
 refine Xi λrb dK aR=>?_;have kC:=dv.aK dK;replace bh:=bh.aK dK;replace bf:=bf.aK dK
 replace U:=ai U dK;have bE:=aR.aH;replace J:=J.to dK;replace af:=J.aH;replace dd:=dd.to dK;replace bS:=dd.aL;have cn:=kC.jg;have cm:=kC.hx;have cx:=kC.kK;clear kC;have uo:=aR.frozen 2;have wI:=aR.frozen 3;have Cr:=aR.frozen 4;have Cs:=aR.frozen 5;have Ct:=aR.frozen 6;have gE:=cn.bK aR;have jf:=cm.bK aR;have eo:=bh.bK aR
 have dL:=bf.bK aR;have gL:=cx.bK aR
 go_upto_region 16 with fail
 clear af bS bE
 refine hs 2 λoL fK=>?_
 replace U:=fK.aN U;replace J:=fK.dj J;replace aR:=fK.Kh aR;replace bh:=bh.cS fK eo;replace bf:=bf.cS fK dL;replace cn:=cn.cS fK gE;replace cm:=cm.cS fK jf
 replace cx:=cx.cS fK gL;have af:=J.aH;have bE:=aR.aH;clear uo wI Cr Cs Ct;replace gE:=cn.bK J;replace jf:=cm.bK J;replace eo:=bh.bK J;replace dL:=bf.bK J;replace gL:=cx.bK J;have eg:=J.iX
 go_wp2
 clear af bE
 refine iO 0 λcP aE=>?_
 replace U:=aE.aN U;replace J:=aE.iV J;replace bh:=bh.cS aE eo;replace bf:=bf.cS aE dL;replace cn:=cn.cS aE gE;replace cm:=cm.cS aE jf;replace cx:=cx.cS aE gL;have af:=J.aH
 exact hV ⟨ck,e0,cf,e1,aU,d2,bd,d3,cl,e4,rfl,⟨cn.base KK,cm.base KK,bh.base KK,bf.base KK,cx.base KK⟩,U⟩ Zc):v:=h
theorem azM (aq au ak al aF:QR) (c0 aw c2 c3 c4:Nat) (rs:List aM) (qs:List aZ) (tu se sp:Int) (ws:List Int) (ae:List aW) (os:List Out) (Z:fa aq au ak al aF c0 aw c2 c3 c4 rs qs ws ae os) (mem val yes no bR:Int) (q:Int) (bt:xh ⟨tu,se,sp,ws,ae⟩ =some q) (eD:Int) (cq:List Int) (cw:List aW) (az:oB ⟨tu,se,sp,ws,ae⟩ =true) (he:vL ⟨tu,se,sp,ws,ae⟩ q=⟨tu,se,eD,cq,cw⟩) (aS:ee rs qs= true) (cr:jk rs qs= true) (w:World) (R:eF w aq au ak al aF rs qs ws ae os):
 Rd 235 #[.agg #[aq rs c0,au qs aw,tu,se,sp,ak ws c2,al ae c3,aF os c4],.agg #[(4:Int),mem,val,yes,no,bR]] w λe ah=>∃ck e0 cf e1 aU d2 bd d3 cl e4,e= .returned (.tuple #[.agg #[.slice ck rs e0,.slice cf qs e1,tu,se,eD,.slice aU cq d2,.slice bd cw d3,.slice cl os e4],true])/\fu w ah ck e0 cf e1 aU d2 bd d3 cl e4 rs qs cq cw os/\Below w w ah:=by
 refine Dd ?_ R Z az he bt;clear R Z az he bt;intro R Z az he bt;clear aS cr
 go_in
 go_upto_region 1 with fail
 refine gY λaO ar ag bl J=>?_
 have U:=ar;have aJ:=ag.aH;have a':=bl.cX;have af:=J.aH;have hC:=J.lt
 go_upto_region 2 with fail
 refine dh λmX aj dd=>?_
 replace U:=ai U aj;have bS:=dd.aL;replace ag:=ag.to aj;replace aJ:=ag.aH;replace bl:=bl.to aj;replace a':=bl.cX;replace J:=J.to aj;replace af:=J.aH;have wU:=dd.lt
 go_wp2_with fail
 refine (azx tu se sp ak c2 ws al c3 ae Z.o.h2 Z.o.h3 Z.o.n2 Z.o.n3 Z.o.cL Z.o.dS q bt.o eD cq cw az.o he.o _ (R.o.r2.ad (ai U ao)) (R.o.gS.ad (ai U ao))).mono ?_
 exact aag
theorem azO (aq au ak al aF:QR) (c0 aw c2 c3 c4:Nat) (rs:List aM) (qs:List aZ) (tu se sp:Int) (ws:List Int) (ae:List aW) (os:List Out) (Z:fa aq au ak al aF c0 aw c2 c3 c4 rs qs ws ae os) (mem val yes no bR:Int) (eD:Int) (cq:List Int) (cw:List aW) (az:qq ⟨tu,se,sp,ws,ae⟩ val= true) (he:lp ⟨tu,se,sp,ws,ae⟩ val=⟨tu,se,eD,cq,cw⟩) (aS:ee rs qs= true) (cr:jk rs qs= true) (w:World) (R:eF w aq au ak al aF rs qs ws ae os):
 Rd 235 #[.agg #[aq rs c0,au qs aw,tu,se,sp,ak ws c2,al ae c3,aF os c4],.agg #[(5:Int),mem,val,yes,no,bR]] w λe ah=>∃ck e0 cf e1 aU d2 bd d3 cl e4,e= .returned (.tuple #[.agg #[.slice ck rs e0,.slice cf qs e1,tu,se,eD,.slice aU cq d2,.slice bd cw d3,.slice cl os e4],true])/\fu w ah ck e0 cf e1 aU d2 bd d3 cl e4 rs qs cq cw os/\Below w w ah:=by
 refine sa ?_ R Z az he;clear R Z az he;intro R Z az he;clear aS cr
 go_in
 go_upto_region 1 with fail
 refine gY λaO ar ag bl J=>?_
 have U:=ar;have aJ:=ag.aH;have a':=bl.cX;have af:=J.aH;have hC:=J.lt
 go_upto_region 2 with fail
 refine dh λmX aj dd=>?_
 replace U:=ai U aj;have bS:=dd.aL;replace ag:=ag.to aj;replace aJ:=ag.aH;replace bl:=bl.to aj;replace a':=bl.cX;replace J:=J.to aj;replace af:=J.aH;have wU:=dd.lt
 go_wp2_with fail
 refine (azy tu se sp ak c2 ws al c3 ae Z.o.h2 Z.o.h3 Z.o.n2 Z.o.n3 Z.o.cL Z.o.dS val eD cq cw az.o he.o _ (R.o.r2.ad (ai U ao)) (R.o.gS.ad (ai U ao))).mono ?_
 exact aag
theorem azQ (aq au ak al aF:QR) (c0 aw c2 c3 c4:Nat) (rs:List aM) (qs:List aZ) (tu se sp:Int) (ws:List Int) (ae:List aW) (os:List Out) (Z:fa aq au ak al aF c0 aw c2 c3 c4 rs qs ws ae os) (mem val yes no bR:Int) (eD:Int) (cq:List Int) (cw:List aW) (az:oH ⟨tu,se,sp,ws,ae⟩ =true) (he:oV ⟨tu,se,sp,ws,ae⟩ =⟨tu,se,eD,cq,cw⟩) (aS:ee rs qs= true) (cr:jk rs qs= true) (w:World) (R:eF w aq au ak al aF rs qs ws ae os):
 Rd 235 #[.agg #[aq rs c0,au qs aw,tu,se,sp,ak ws c2,al ae c3,aF os c4],.agg #[(6:Int),mem,val,yes,no,bR]] w λe ah=>∃ck e0 cf e1 aU d2 bd d3 cl e4,e= .returned (.tuple #[.agg #[.slice ck rs e0,.slice cf qs e1,tu,se,eD,.slice aU cq d2,.slice bd cw d3,.slice cl os e4],true])/\fu w ah ck e0 cf e1 aU d2 bd d3 cl e4 rs qs cq cw os/\Below w w ah:=by
 refine sa ?_ R Z az he;clear R Z az he;intro R Z az he;clear aS cr
 go_in
 go_upto_region 1 with fail
 refine gY λaO ar ag bl J=>?_
 have U:=ar;have aJ:=ag.aH;have a':=bl.cX;have af:=J.aH;have hC:=J.lt
 go_upto_region 2 with fail
 refine dh λmX aj dd=>?_
 replace U:=ai U aj;have bS:=dd.aL;replace ag:=ag.to aj;replace aJ:=ag.aH;replace bl:=bl.to aj;replace a':=bl.cX;replace J:=J.to aj;replace af:=J.aH;have wU:=dd.lt
 go_wp2_with fail
 refine (azz tu se sp ak c2 ws al c3 ae Z.o.h2 Z.o.h3 Z.o.n2 Z.o.n3 Z.o.cL Z.o.dS eD cq cw az.o he.o _ (R.o.r2.ad (ai U ao)) (R.o.gS.ad (ai U ao))).mono ?_
 exact aag
theorem akE (h:v:=by
 have eg:=J.iX
 go_wp2
 clear af
 refine iO 0 λcP aE=>?_
 replace U:=aE.aN U;replace J:=aE.iV J;have af:=J.aH
 exact hV ⟨rfl,U⟩ Zc):v:=h
theorem azJ (Z:KL) {no:Int} (az:qf ⟨tu,se,sp,ws,ae⟩ mem= false) (cr:jk rs qs= true) (aS:ee rs qs= true) {w:World} (R:eF w aq au ak al aF rs qs ws ae os):
 Rd 235 #[.agg KL,.agg #[(3:Int),mem,val,yes,no,bR]] w λe ah=>e= .returned (.tuple #[.agg #[(),(),(0:Int),(0:Int),(0:Int),(),(),()],false])/\Below w w ah:=by
 replace R:=I R;replace Z:=I Z;replace aS:=I aS;replace az:=I az;replace cr:=I cr
 go_in
 go_upto_region 1 with fail
 refine gY λaO ar ag bl J=>?_
 have U:=ar;have aJ:=ag.aH;have a':=bl.cX;have af:=J.aH;have hC:=J.lt
 go_upto_region 2 with fail
 refine dh λmX aj dd=>?_
 replace U:=ai U aj;have bS:=dd.aL;replace ag:=ag.to aj;replace aJ:=ag.aH;replace bl:=bl.to aj;replace a':=bl.cX;replace J:=J.to aj;replace af:=J.aH
 go_wp2_with fail
 refine (Hp Z.o.h0 Z.o.h1 aS.o true cr.o (R.o.fC.ad (ai U ao)) (R.o.dM.ad (ai U ao))).mono ?_
 rintro e bw ⟨rfl,bG⟩
 have aY:=be mX bG;replace U:=ai U aY;replace ag:=ag.to aY;replace aJ:=ag.aH;replace bl:=bl.to aY;replace a':=bl.cX;replace J:=J.to aY;replace af:=J.aH;replace dd:=dd.to aY;replace bS:=dd.aL
 go_wp2_with fail
 refine (aiA tu se sp ak c2 ws al c3 ae Z.o.h2 Z.o.h3 Z.o.n2 Z.o.n3 Z.o.cL Z.o.dS mem az.o _ (R.o.r2.ad (ai U ao)) (R.o.gS.ad (ai U ao))).mono ?_
 rintro e bH ⟨rfl,db⟩
 have cj:=be bw db;replace U:=ai U cj;clear aJ;clear a';replace J:=J.to cj;replace af:=J.aH;replace dd:=dd.to cj;replace bS:=dd.aL;have wH:=dd.iW
 go_upto_region 12 with fail
 clear af bS
 refine hs 0 λpP gz=>?_
 replace U:=gz.aN U;replace J:=gz.dj J;have af:=J.aH;clear wH
 exact akE
theorem aai (h:v:=by
 rintro e bw ⟨rfl,bG⟩
 have aY:=be mX bG;replace U:=ai U aY;clear aJ;clear a';replace J:=J.to aY;replace af:=J.aH;replace dd:=dd.to aY;replace bS:=dd.aL;have wH:=dd.iW
 go_upto_region 12 with fail
 clear af bS
 refine hs 0 λpP gz=>?_
 replace U:=gz.aN U;replace J:=gz.dj J;have af:=J.aH;clear wH;have eg:=J.iX
 go_wp2
 clear af
 refine iO 0 λcP aE=>?_
 replace U:=aE.aN U;replace J:=aE.iV J;have af:=J.aH
 exact hV ⟨rfl,U⟩ Zc):v:=h
theorem azL (Z:KL) {no:Int} (az:oB ⟨tu,se,sp,ws,ae⟩ =false) (aS:ee rs qs= true) {w:World} (R:eF w aq au ak al aF rs qs ws ae os):
 Rd 235 #[.agg KL,.agg #[(4:Int),mem,val,yes,no,bR]] w λe ah=>e= .returned (.tuple #[.agg #[(),(),(0:Int),(0:Int),(0:Int),(),(),()],false])/\Below w w ah:=by
 replace R:=I R;replace Z:=I Z;clear aS;replace az:=I az
 go_in
 go_upto_region 1 with fail
 refine gY λaO ar ag bl J=>?_
 have U:=ar;have aJ:=ag.aH;have a':=bl.cX;have af:=J.aH;have hC:=J.lt
 go_upto_region 2 with fail
 refine dh λmX aj dd=>?_
 replace U:=ai U aj;have bS:=dd.aL;replace ag:=ag.to aj;replace aJ:=ag.aH;replace bl:=bl.to aj;replace a':=bl.cX;replace J:=J.to aj;replace af:=J.aH
 go_wp2_with fail
 refine (aiP tu se sp ak c2 ws al c3 ae Z.o.h2 Z.o.h3 Z.o.n2 Z.o.n3 Z.o.cL Z.o.dS az.o _ (R.o.r2.ad (ai U ao)) (R.o.gS.ad (ai U ao))).mono ?_
 exact aai
theorem azN (Z:KL) {no:Int} (az:qq ⟨tu,se,sp,ws,ae⟩ val= false) (aS:ee rs qs= true) {w:World} (R:eF w aq au ak al aF rs qs ws ae os):
 Rd 235 #[.agg KL,.agg #[(5:Int),mem,val,yes,no,bR]] w λe ah=>e= .returned (.tuple #[.agg #[(),(),(0:Int),(0:Int),(0:Int),(),(),()],false])/\Below w w ah:=by
 replace R:=I R;replace Z:=I Z;clear aS;replace az:=I az
 go_in
 go_upto_region 1 with fail
 refine gY λaO ar ag bl J=>?_
 have U:=ar;have aJ:=ag.aH;have a':=bl.cX;have af:=J.aH;have hC:=J.lt
 go_upto_region 2 with fail
 refine dh λmX aj dd=>?_
 replace U:=ai U aj;have bS:=dd.aL;replace ag:=ag.to aj;replace aJ:=ag.aH;replace bl:=bl.to aj;replace a':=bl.cX;replace J:=J.to aj;replace af:=J.aH
 go_wp2_with fail
 refine (aiR tu se sp ak c2 ws al c3 ae Z.o.h2 Z.o.h3 Z.o.n2 Z.o.n3 Z.o.cL Z.o.dS val az.o _ (R.o.r2.ad (ai U ao)) (R.o.gS.ad (ai U ao))).mono ?_
 exact aai
theorem azP (Z:KL) {no:Int} (az:oH ⟨tu,se,sp,ws,ae⟩ =false) (aS:ee rs qs= true) {w:World} (R:eF w aq au ak al aF rs qs ws ae os):
 Rd 235 #[.agg KL,.agg #[(6:Int),mem,val,yes,no,bR]] w λe ah=>e= .returned (.tuple #[.agg #[(),(),(0:Int),(0:Int),(0:Int),(),(),()],false])/\Below w w ah:=by
 replace R:=I R;replace Z:=I Z;clear aS;replace az:=I az
 go_in
 go_upto_region 1 with fail
 refine gY λaO ar ag bl J=>?_
 have U:=ar;have aJ:=ag.aH;have a':=bl.cX;have af:=J.aH;have hC:=J.lt
 go_upto_region 2 with fail
 refine dh λmX aj dd=>?_
 replace U:=ai U aj;have bS:=dd.aL;replace ag:=ag.to aj;replace aJ:=ag.aH;replace bl:=bl.to aj;replace a':=bl.cX;replace J:=J.to aj;replace af:=J.aH
 go_wp2_with fail
 refine (aiV tu se sp ak c2 ws al c3 ae Z.o.h2 Z.o.h3 Z.o.n2 Z.o.n3 Z.o.cL Z.o.dS az.o _ (R.o.r2.ad (ai U ao)) (R.o.gS.ad (ai U ao))).mono ?_
 exact aai
theorem azI (Z:KL) {no:Int} (cr:jk rs qs= false) (aS:ee rs qs= true) {w:World} (R:eF w aq au ak al aF rs qs ws ae os):
 Rd 235 #[.agg KL,.agg #[(3:Int),mem,val,yes,no,bR]] w λe ah=>e= .returned (.tuple #[.agg #[(),(),(0:Int),(0:Int),(0:Int),(),(),()],false])/\Below w w ah:=by
 replace R:=I R;replace Z:=I Z;replace aS:=I aS;replace cr:=I cr
 go_in
 go_upto_region 1 with fail
 refine gY λaO ar ag bl J=>?_
 have U:=ar;have aJ:=ag.aH;have a':=bl.cX;have af:=J.aH
 go_upto_region 2 with fail
 refine dh λmX aj dd=>?_
 replace U:=ai U aj;replace ag:=ag.to aj;replace aJ:=ag.aH;replace bl:=bl.to aj;replace a':=bl.cX;replace J:=J.to aj;replace af:=J.aH
 go_wp2_with fail
 refine (Hp Z.o.h0 Z.o.h1 aS.o false cr.o (R.o.fC.ad (ai U ao)) (R.o.dM.ad (ai U ao))).mono ?_
 rintro e bw ⟨rfl,bG⟩
 have aY:=be mX bG;replace U:=ai U aY;clear aJ;clear a';replace J:=J.to aY;replace af:=J.aH
 exact akE
theorem azR (Z:KL) {kind no:Int} (wN:(kind == 3)= false) (Cv:(kind == 4)= false) (aDw:(kind == 5)= false) (arJ:(kind == 6)= false) (aS:ee rs qs= true) {w:World} (R:eF w aq au ak al aF rs qs ws ae os):
 Rd 235 #[.agg KL,.agg #[kind,mem,val,yes,no,bR]] w λe ah=>e= .returned (.tuple #[.agg #[(),(),(0:Int),(0:Int),(0:Int),(),(),()],false])/\Below w w ah:=by
 clear R Z aS
 go_in
 go_upto_region 1 with fail
 refine gY λaO ar ag bl J=>?_
 have U:=ar;have a':=bl.cX;have af:=J.aH
 go_upto_region 2 with fail
 refine dh λmX aj dd=>?_
 replace U:=ai U aj;replace bl:=bl.to aj;replace a':=bl.cX;replace J:=J.to aj;replace af:=J.aH;have eg:=J.iX
 go_wp2
 clear a' af
 refine iO 0 λcP aE=>?_
 replace U:=aE.aN U;replace J:=aE.iV J;have af:=J.aH
 exact hV ⟨rfl,U⟩ Zc
end Go.Proofs.YtlaaemmmbodaaaaGreatDoor
