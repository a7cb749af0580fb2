/- Parts. -/
import Derived.Test.YtlaaemmmbodaaaaGreatDoorFx9
set_option maxHeartbeats 16000000
set_option maxRecDepth 100000
set_option linter.all false
open Go Go.RowKit Go.Proofs.YtlaaemmmbodaaaaGreatDoor
variable {s x v cV cW y z:VU} {B g d0 d1 d2 d3 d4 c0 aw c2 c3 c4:Nat} {bN bZ aU bd bI aq au ak al aF A:QR} {rs:List aM} {qs:List aZ} {ws l:List Int} {ae:List aW} {os:List Out} {m n:di} {a:pJ} {tu se sp cU kind mem val yes bR:Int} {u:Prop} {KL:VG aq au ak al aF c0 aw c2 c3 c4 rs qs ws ae os tu se sp}
namespace Go.Proofs.YtlaaemmmbodaaaaGreatDoor
theorem ZE (h:u:=by simp [results,Tryz.results110,go_sem,z0]):u:=h
theorem ZT (h:u:=by simp [results,Tryz.results114,go_sem,z0]):u:=h
theorem Zr (h:u:=by simp [results,Tryz.results112,go_sem,z0]):u:=h
theorem Zu (h:u:=by simp [results,Tryz.results18,go_sem,z0]):u:=h
theorem aGG (h:u:=by simp [results,Tryz.results111,go_sem,z0]):u:=h
theorem SV (c:UInt8):∀(l u:List UInt8),u ∈ mf c l->u.length<=l.length
 | [],u,h=>by simp [mf] at h;subst h;simp
 | x ::l,u,h=>by
  unfold mf at h
  split at h
  .rcases Xl.1 h with rfl | h
   .simp
   .have:=SV c l u h;simp;omega
  .split at h
   .simp at h;subst h;simp
   .rename_i v vs he
    rcases Xl.1 h with rfl | h
    .have:=SV c l v (by rw [he];simp);simp;omega
    .have:=SV c l u (by rw [he];simp [h]);simp;omega
theorem HU {c:UInt8} (h:x ∈ hj c s):x.size<=s.size:=by
 obtain⟨u,hu,rfl⟩:=YP.1 h
 have h1:=SV c s.data.toList u hu
 show u.toArray.size<=_
 rw [List.size_toArray]
 simpa using h1
theorem aIH (c:UInt8) (s:VU):(hj c s).length<=s.size + 1:=by
 unfold hj
 rw [YZ]
 have:=aII c s.data.toList
 simpa using this
theorem OT (c:UInt8) (s:VU):hj c s≠[]:=by
 unfold hj
 have:=aIJ c s.data.toList
 intro e
 exact this (List.map_eq_nil_iff.1 e)
theorem fu.hb {w ah:World} {cs:Array Value} (h:fu B w bN d0 bZ d1 aU d2 bd d3 bI d4 rs qs ws ae os) (aB:ay w g 46 cs) (cy:w.grownBy ah (some g)):fu B ah bN d0 bZ d1 aU d2 bd d3 bI d4 rs qs ws ae os:=
 ⟨h.jg.kept cy (λk ax e=>h.jg.mP aB WG k ax (Wx e)),h.hx.kept cy (λk ax e=>h.hx.mP aB WG k ax (Wx e)),h.fc.kept cy (λk ax e=>h.fc.mP aB WG k ax (Wx e)),h.fE.kept cy (λk ax e=>h.fE.mP aB WG k ax (Wx e)),h.kK.kept cy (λk ax e=>h.kK.mP aB WG k ax (Wx e))⟩
theorem akY (h:u:=by
 rw [hm] at H
 exact H.mono λe ah ⟨he,aB⟩=>⟨[],[],0,0,0,[],[],[],none,0,none,0,none,0,none,0,none,0,false,he,I Wn,agV,aB⟩):u:=h
theorem anC (h:u:=by
 rw [hm] at H
 obtain⟨dQ,dY,dX,dW,dU,cq,cw,dR⟩:=n
 exact H.mono λe ah ⟨bN,d0,bZ,d1,aU,d2,bd,d3,bI,d4,he,aV,aB⟩=>⟨dQ,dY,dX,dW,dU,cq,cw,dR,bN,d0,bZ,d1,aU,d2,bd,d3,bI,d4,true,he,I Wn,aV,aB⟩):u:=h
theorem avs (aq au ak al aF:QR) (c0 aw c2 c3 c4:Nat) (rs:List aM) (qs:List aZ) (tu se sp:Int) (ws:List Int) (ae:List aW) (os:List Out) (Z:fa aq au ak al aF c0 aw c2 c3 c4 rs qs ws ae os) (kind mem val yes no bR:Int) (h:hL ⟨rs,qs,tu,se,sp,ws,ae,os⟩) (w:World) (R:eF w aq au ak al aF rs qs ws ae os):
 Rd 103 #[.agg #[aq rs c0,au qs aw,tu,se,sp,ak ws c2,al ae c3,aF os c4],.agg #[kind,mem,val,yes,no,bR]] w λe ah=>∃(dQ:List aM) (dY:List aZ) (dX dW dU:Int) (cq:List Int) (cw:List aW) (dR:List Out) (ck:QR) (e0:Nat) (cf:QR) (e1:Nat) (ct:QR) (e2:Nat) (cu:QR) (e3:Nat) (cl:QR) (e4:Nat) (b:Bool),e= .returned (.tuple #[.agg #[ck dQ e0,cf dY e1,dX,dW,dU,ct cq e2,cu cw e3,cl dR e4],b])/\Hid (hY ⟨rs,qs,tu,se,sp,ws,ae,os⟩ ⟨kind,mem,val,yes,no,bR⟩ =if b= true then some ⟨dQ,dY,dX,dW,dU,cq,cw,dR⟩ else none)/\fu w ah ck e0 cf e1 ct e2 cu e3 cl e4 dQ dY cq cw dR/\Below w w ah:=by
 have H:=avg aq au ak al aF c0 aw c2 c3 c4 rs qs tu se sp ws ae os Z kind mem val yes no bR h w R
 cases hm:hY ⟨rs,qs,tu,se,sp,ws,ae,os⟩ ⟨kind,mem,val,yes,no,bR⟩ with
 | none=>
  exact akY
 | some n=>
  exact anC
theorem aha (h:hL m) (hm:hY m a= some n):-999999<=n.dF/\n.dF<=999999:=by
 have H:=nt.1 (Oh h hm).hF
 rcases H.p with h0 | h1
 .have:n.dF= 0:=h0
  omega
 .have:=qT.1 h1
  have e:(di.hF n).sp= n.dF:=rfl
  omega
theorem agZ (hm:hY m a= some n) (ax:a.kind= 7):0 < n.bQ.length:=by
 have e:sk m a= some n:=by
  unfold hY at hm
  rw [XU KK,XU KK,XX ax] at hm
  split at hm
  .exact hm
  .cases hm
 obtain⟨ps,q,_,_,_,rfl⟩:=OY e
 simp [di.KH]
theorem aqK {r:List ByteArray} (h:oR (fA v)= none):qj m (v ::r)= none:=by rw [qj,h]
theorem aqM {p:VU} {r:List ByteArray} (h:oR (fA v)= some p) (bu:nF m.bT p r= none):qj m (v ::r)= none:=by simp only [qj,h,bu]
theorem adq {p:VU} {r:List ByteArray} (h:oR (fA v)= some p) (bu:nF m.bT p r= some l) (de:wv (fA v) l= none):qj m (v ::r)= (mh m (fA v) l).map (λs=>(m,s)):=by simp only [qj,h,bu,de]
theorem adp {p:VU} {r:List ByteArray} (h:oR (fA v)= some p) (bu:nF m.bT p r= some l) (de:wv (fA v) l= some a):qj m (v ::r)= (hY m a).map (λn=>(n,tb n a.kind)):=by simp only [qj,h,bu,de]
theorem ayo {p:VU} {r:List ByteArray} (h:nF rs p r= some l):l.length= p.size:=by
 unfold nF at h
 split at h
 .rename_i he;rw [aFz h,he]
 .cases h
theorem ama (h:u:=by
 replace v0:=bU.aH
 have RZ:=kQ.bK bU;have Sa:=kD.bK bU;have sV:=fq.bK bU;have sW:=fv.bK bU;have Sb:=kZ.bK bU;have Ej:=bU.iX;have BI:=bU.lt
 refine Dt 10 [11] #[true,true,true,true,true,true,true,true,true,true,true,true] PV ((cH.o _).2 U) (λK fj=>?_)
 refine XV ?_
 go_wp2
 clear v0
 refine iO 0 λly ea=>?_
 replace U:=ea.aN U;replace bU:=ea.iV bU;have aDt:=ea.eC;have aEV:=ea.sz;replace kQ:=kQ.cS ea RZ;replace kD:=kD.cS ea Sa;replace fq:=fq.cS ea sV;replace fv:=fv.cS ea sW;replace kZ:=kZ.cS ea Sb
 have v0:=bU.aH
 refine⟨rfl,(cH.o _).2 U,?_⟩
 refine Xp ?_
 repeat go_big_quiet_step (fail)
 refine VF ?_
 refine fj _ _ ?_
 clear fj K
 refine aGi PV ((cH.o _).2 U) ?_
 go_wp2_with fail
 go_meet
 exact⟨bK,b,dQ,dY,dX,dW,dU,cq,cw,dR,ck,e0,cf,e1,ct,e2,cu,e3,cl,e4,rfl,rfl,CP,tX,bU,⟨kQ,kD,fq,fv,kZ⟩,U⟩):u:=h
theorem aqN {p:Nat} (h:hL KL) {l:VU} (aT:l.size<=160) {w:World} (VJ:B<=p) (qH:B<=w.heap.size) (aR:ay w p 46 #[aq rs c0,au qs aw,tu,se,sp,ak ws c2,al ae c3,aF os c4,cV,cW,cU]) (aV:fu B w aq c0 au aw ak c2 al c3 aF c4 rs qs ws ae os) (bX:∀W,w.grownBy W (some p)->ob W):
  Rd 56 #[.pointer (some ⟨p,0,none⟩),l] w λe ah=>∃(dQ:List aM) (dY:List aZ) (dX dW dU:Int) (cq:List Int) (cw:List aW) (dR:List Out) (ck:QR) (e0:Nat) (cf:QR) (e1:Nat) (ct:QR) (e2:Nat) (cu:QR) (e3:Nat) (cl:QR) (e4:Nat) (x:VU) (b:Bool),e= .returned (.tuple #[x,.bool b])/\Hid (qj KL (hj 32 l)= if b= true then some (⟨dQ,dY,dX,dW,dU,cq,cw,dR⟩,x) else none)/\Hid (b= false->(⟨dQ,dY,dX,dW,dU,cq,cw,dR⟩ :di)=⟨rs,qs,tu,se,sp,ws,ae,os⟩)/\ay ah p 46 #[ck dQ e0,cf dY e1,dX,dW,dU,ct cq e2,cu cw e3,cl dR e4,cV,cW,cU]/\fu B ah ck e0 cf e1 ct e2 cu e3 cl e4 dQ dY cq cw dR/\w.grownBy ah (some p):=by
  have jm:=uO h
  simp only at jm
  obtain⟨m0,m1,m2,m3,m4⟩:=jm
  have yJ:=I (aV.uN KK KK KK KK KK);have lE:=I h;have rO:=I (λW (h:Cf W)=>XE l 32 KK W h);have CV:=aIH 32 l;have DU:=I (show∀x ∈ hj 32 l,x.size<=1000 from λx av=>by have:=HU av;omega);have afv:=OT 32 l
  generalize hj 32 l= vs at *
  obtain⟨v0,Ad,rfl⟩ :∃v0 Ad,vs= v0 ::Ad:=by
    cases vs with
    | nil=>exact absurd rfl afv
    | cons a b=>exact⟨a,b,rfl⟩
  have aui:Ad.length<=160:=by simp only [YK] at CV;omega
  obtain⟨op,hop⟩ :∃o,oR (fA v0)= o:=⟨_,rfl⟩
  have Au:=λW=>axV v0 W
  rw [hop] at Au
  have DN:=I hop;have IH:=I bX;have ih:=I aR;have pN:=I aV;have gu:=I aV.rd;have Ru:=aR.lt;clear CV afv hop h bX aR aV
  go_in
  go_wp2_with fail
  refine (rO.o _ (IH.o w (ht _ _)).m).mono ?_
  rintro e bm ⟨UL,wn,rfl,qe,U⟩
  obtain⟨nS,akc,Ms⟩:=sf qe Wn
  injection Ms with Mt _ Mu
  subst Mt
  subst Mu
  have sK:=nW qe jP
  simp only [YK] at sK
  have g0:=me qe jP (j:=0) (x:=v0) rfl (i:=0) (u:= .string v0) rfl
  simp only [Xy,XW] at g0
  have zr:=(qe.lt nS rfl).2;replace qe:=I qe;have mI:=I (gu.o.ad U)
  cases op with
  | none=>
    replace Au:=I Au
    simp only [Option.getD_none,ZB] at Au
    go_wp2_with fail
    refine (Au.o _).mono ?_
    rintro e aHg ⟨rfl,cF⟩
    rw [cF]
    clear cF aHg
    go_wp2
    go_ret2
    exact⟨rs,qs,tu,se,sp,ws,ae,os,aq,c0,au,aw,ak,c2,al,c3,aF,c4,⟨#[]⟩,false,rfl,I (aqK DN.o),I (λ_=>rfl),ih.o.ad U ih.o.lt,pN.o.aK U,bL U _⟩
  | some pt=>
    replace Au:=I Au
    simp only [Yf,Yw] at Au
    go_wp2_with fail
    refine (Au.o _).mono ?_
    rintro e aHg ⟨rfl,cF⟩
    rw [cF]
    clear cF aHg
    go_upto_region 5 with fail
    go_cut [9,10] (λv9 v10 W=>∃(li:List Int) (tO:Bool) (DZ:QR) (Hv:Nat),v9= .slice DZ li Hv/\v10= .bool tO/\Hid (nF rs pt Ad= if tO= true then some li else none)/\bn bm 3 1 cE W (DZ li Hv) li/\Below bm bm W)
    case first=>
      have BW:Hid (∀W,Below bm bm W->(wn= 1->aX 1 hh W (some ⟨nS,0,none⟩) Ad)/\aX 1 hh W (some ⟨nS,1,none⟩) Ad):=I (λW cv=>⟨λe=>by
        have:Ad= []:=YD.1 KK
        rw [this];exact aX.nil,by
        have h:=Ki (qe.o.aK cv).ej 1
        simpa using h⟩)
      obtain⟨dx,et⟩ :∃X:World->Prop,∀V,X V↔Below bm bm V:=⟨_,λ_=>Xt⟩
      have cH:=I et;clear et
      haveI:Nonempty (cM dx):=⟨⟨bm,(cH.o _).2 (Wt _ _)⟩⟩
      have abA:=I (ih.o.ad U ih.o.lt)
      have cA:=λK:cM dx=>((abA.o.ad ((cH.o _).1 K.holds) abA.o.lt).cell 0).trans (show _= some (aq rs c0) from rfl)
      clear g0 zr qe
      by_cases qR:wn= 1
      case' pos=>
        subst qR
        obtain rfl:Ad= []:=YD.1 KK
        clear sK aui
      all_goals
        refine nZ dx [([0,1,2,3,4,5,6,7],8)] [9,10,11,12,13] PV PV ((cH.o _).2 (Wt _ _).drew) ?_
        have fO:Below bm bm bm.drew:=(Wt _ _).drew
        generalize bm.drew= wd at *
        refine gA λff da=>?_
        refine ZR ?_
        repeat go_big_quiet_step (fail)
        refine VF ?_
        refine XV ?_
        go_wp2_with fail
        first
          | refine (aif aq c0 rs KK yJ.o.ev (mS lE.o.jn).1 pt _ _ Ad (by first | omega | simp) (λx av=>DU.o x Ye) wd (mI.o.fC.ad fO) (BW.o wd fO).2 (IH.o wd (bL (ai U fO) _))).mono ?_
          | refine (aif aq c0 rs KK yJ.o.ev (mS lE.o.jn).1 pt _ _ [] (by first | omega | simp) (λx av=>DU.o x Ye) wd (mI.o.fC.ad fO) ((BW.o wd fO).1 (by first | trivial | rfl)) (IH.o wd (bL (ai U fO) _))).mono ?_
        rintro e aI ⟨li,tO,DZ,Hv,rfl,oe,lq,aQ⟩
        have jM:=ai fO aQ;replace lq:=I (lq.base (B':=bm) fO.size);skip
        go_wp2
        refine gb ((cH.o _).2 jM) (da _ _ ?_)
        refine ky ?_
        refine Yp ?_
        repeat go_big_quiet_step (fail)
        refine VF ?_
        go_wp2_with fail
        go_meet
        exact⟨li,tO,DZ,Hv,rfl,rfl,oe,lq.o,jM⟩
    case rest=>
     obtain⟨li,tO,DZ,Hv,rfl,rfl,oe,lq,jM⟩:=hcut
     generalize wc= aI at *
     replace lq:=I lq;have bz:=ai U jM;replace g0:=(jM.cell (p:=⟨nS,0,none⟩) zr).trans g0;replace zr:nS < aI.heap.size:=YW zr jM.size;have ts:=I (ih.o.ad bz ih.o.lt);have jC:=I (pN.o.aK bz);clear U jM mI qe
     cases tO
     . have ha:nF rs pt Ad= none:=by simpa using oe.o
       replace ha:=I ha
       go_wp2
       go_ret2
       exact⟨rs,qs,tu,se,sp,ws,ae,os,aq,c0,au,aw,ak,c2,al,c3,aF,c4,⟨#[]⟩,false,rfl,I (aqM DN.o ha.o),I (λ_=>rfl),ts.o,jC.o,bL bz _⟩
     have tH:nF rs pt Ad= some li:=by simpa using oe.o
     have CM:=ayo tH;replace tH:=I tH;clear oe
     have Ak:=λW (h:aX 1 cE W DZ li)=>apb v0 DZ Hv li (λq bt=>by rw [DN.o] at bt;cases bt;exact CM) W h
     obtain⟨aHG,EK⟩ :∃o,wv (fA v0) li= o:=⟨_,rfl⟩
     rw [EK] at Ak
     replace EK:=I EK;replace CM:=I CM
     cases aHG with
     | none=>
       replace Ak:=I Ak
       simp only [UO,ZB] at Ak
       go_wp2_with fail
       refine (Ak.o _ (lq.o.ej (hf:=fR))).mono ?_
       rintro e bw ⟨rfl,bG⟩
       go_upto_region 10 with fail
       refine Xi λgH YH _=>?_;have GF:=ai bG YH
       have yW:=ai bz GF;replace g0:=(GF.cell (p:=⟨nS,0,none⟩) zr).trans g0;have atj:nS < gH.heap.size:=YW zr GF.size;have aoy:=I (lq.o.aK GF)
       obtain⟨dx,et⟩ :∃X:World->Prop,∀V,X V↔Below gH gH V:=⟨_,λ_=>Xt⟩
       have cH:=I et;clear et
       haveI:Nonempty (cM dx):=⟨⟨gH,(cH.o _).2 (Wt _ _)⟩⟩
       have LO:=I (ih.o.ad yW ih.o.lt);have PG:=I (gu.o.ad yW)
       obtain⟨cA,x1,cB,cY,cZ,dG,dH,dA,gV,gW,gU⟩:=ay.pS (λK:cM dx=>LO.o.ad ((cH.o _).1 K.holds) LO.o.lt)
       have kz:=λK:cM dx=>(((cH.o _).1 K.holds).cell (p:=⟨nS,0,none⟩) atj).trans g0
       clear g0
       refine nZ dx [([0,1,2,3,4,5,6,7],8)] [9,10,11,12] PV PV ((cH.o _).2 (Wt _ _).drew) ?_
       have fO:Below gH gH gH.drew:=(Wt _ _).drew
       generalize gH.drew= ajW at *
       refine gA λff da=>?_
       refine ZR ?_
       repeat go_big_quiet_step (fail)
       refine VF ?_
       refine XV ?_
       go_wp2_with fail
       refine (apz aq au ak al aF c0 aw c2 c3 c4 rs qs tu se sp ws ae os yJ.o lE.o v0 pt DN.o DZ Hv li CM.o EK.o ajW (PG.o.ad fO) (aoy.o.aK fO).ej (IH.o ajW (bL (ai yW fO) _))).mono ?_
       rintro e cO ⟨x,rfl,av,eM⟩
       have FD:=ai fO eM;replace av:=I av
       go_wp2
       refine gb ((cH.o _).2 FD) (da _ _ ?_)
       refine ky ?_
       refine Yo ?_
       repeat go_big_quiet_step (fail)
       refine VF ?_
       have AQ:=ai yW FD;clear cA x1 cB cY cZ dG dH dA gV gW gU kz cH this
       cases bt:mh ⟨rs,qs,tu,se,sp,ws,ae,os⟩ (fA v0) li with
       | none=>
         have eS:=I bt;clear bt
         go_wp2
         go_ret2
         exact⟨rs,qs,tu,se,sp,ws,ae,os,aq,c0,au,aw,ak,c2,al,c3,aF,c4,x,false,rfl,I (by rw [adq DN.o tH.o EK.o,eS.o];rfl),I (λ_=>rfl),ih.o.ad AQ ih.o.lt,pN.o.aK AQ,bL AQ _⟩
       | some y=>
         have e:=av.o y bt;have eS:=I bt;clear bt
         go_wp2
         go_ret2
         exact⟨rs,qs,tu,se,sp,ws,ae,os,aq,c0,au,aw,ak,c2,al,c3,aF,c4,x,true,rfl,I (by rw [adq DN.o tH.o EK.o,eS.o,e];rfl),I (λ_=>rfl),ih.o.ad AQ ih.o.lt,pN.o.aK AQ,bL AQ _⟩
     | some a=>
       obtain⟨kind,mem,val,yes,no,bR⟩:=a
       replace Ak:=I Ak
       simp only [UO,Yw] at Ak
       go_wp2_with fail
       refine (Ak.o _ (lq.o.ej (hf:=fR))).mono ?_
       rintro e bw ⟨rfl,bG⟩
       go_upto_region 11 with fail
       obtain⟨ab,EB⟩ :∃b,b= bw.heap.size:=⟨_,rfl⟩
       refine Xi λgH YH VE=>?_;have GF:=ai bG YH;rw [<- EB] at VE
       rw [<- EB]
       have yW:=ai bz GF
       have asw:w.heap.size<=ab:=by have:=bz.size;have:=bG.size;omega
       clear EB g0 zr;have LO:=I (ih.o.ad yW ih.o.lt);have PG:=I (gu.o.ad yW);have Pp:=I VE
       go_cut [13,14] (λaBH aBI W=>∃(bK:Nat) (b:Bool) (dQ:List aM) (dY:List aZ) (dX dW dU:Int) (cq:List Int) (cw:List aW) (dR:List Out) (ck:QR) (e0:Nat) (cf:QR) (e1:Nat) (ct:QR) (e2:Nat) (cu:QR) (e3:Nat) (cl:QR) (e4:Nat),aBH= .pointer (some ⟨bK,0,none⟩)/\aBI= .bool b/\gH.heap.size<=bK/\Hid (hY ⟨rs,qs,tu,se,sp,ws,ae,os⟩ ⟨kind,mem,val,yes,no,bR⟩ =if b= true then some ⟨dQ,dY,dX,dW,dU,cq,cw,dR⟩ else none)/\ay W bK 44 #[ck dQ e0,cf dY e1,dX,dW,dU,ct cq e2,cu cw e3,cl dR e4]/\fu gH W ck e0 cf e1 ct e2 cu e3 cl e4 dQ dY cq cw dR/\Below gH gH W)
       case first=>
         have aas:=I (λW (h:eF W aq au ak al aF rs qs ws ae os)=>avs aq au ak al aF c0 aw c2 c3 c4 rs qs tu se sp ws ae os yJ.o kind mem val yes no bR lE.o W h);have abo:=PG;clear ih pN gu IH ts jC bz bG GF yW asw lq VE rO Ak Au PG qH Ru
         generalize gH= w at *
         obtain⟨dx,et⟩ :∃X:World->Prop,∀V,X V↔Below w w V:=⟨_,λ_=>Xt⟩
         have cH:=I et;clear et
         haveI:Nonempty (cM dx):=⟨⟨w,(cH.o _).2 (Wt _ _)⟩⟩
         refine akj dx [0,1,2,3,4] #[true,true,true,true,true,false,false,false,false,false,false,false] PV PV ((cH.o _).2 (Wt _ _).drew) (λK fj=>?_)
         obtain⟨cA,x1,cB,cY,cZ,dG,dH,dA,gV,gW,gU⟩:=ay.pS (λK:cM dx=>LO.o.ad ((cH.o _).1 K.holds) LO.o.lt)
         have a0:=ay.Vb (λK:cM dx=>Pp.o.ad ((cH.o _).1 K.holds) Pp.o.lt)
         refine Yp ?_
         repeat go_big_quiet_step (fail)
         refine VF ?_
         refine fj _ _ ?_
         have U:Below w w w.drew:=(Wt _ _).drew;clear fj K cA x1 cB cY cZ dG dH dA gV gW gU a0
         generalize w.drew= wd at *
         refine aGj 5 [6,7,8] #[true,true,true,true,true,true,true,true,true,false,false,false] 9 [] #[true,true,true,true,true,false,false,false,false,true,false,false] PV ((cH.o _).2 U) (λK fj=>?_) (λK fj=>?_)
         . skip
           refine XV ?_
           have pE:=U.size
           go_wp2_with fail
           refine (aas.o _ (abo.o.ad (ai U ao))).mono ?_
           rintro e bm ⟨dQ,dY,dX,dW,dU,cq,cw,dR,ck,e0,cf,e1,ct,e2,cu,e3,cl,e4,b,rfl,tX,ef,bD⟩
           have ar:=be wd bD;replace U:=ai U ar;replace ef:=ef.base (B':=w) KK;have kQ:=ef.jg;have kD:=ef.hx;have fq:=ef.fc;have fv:=ef.fE;have kZ:=ef.kK;clear ef pE
           go_wp2
           refine⟨rfl,(cH.o _).2 U,?_⟩
           refine YI ?_
           repeat go_big_quiet_step (fail)
           refine VF ?_
           refine fj _ _ ?_
           refine Dt 9 [] #[true,true,true,true,true,true,true,true,true,true,false,false] PV ((cH.o _).2 U) (λK fj=>?_)
           refine XV ?_
           obtain⟨bK,lh⟩ :∃b,b= bm.heap.size:=⟨_,rfl⟩
           have CP:w.heap.size<=bK:=by have:=U.size;omega
           go_wp2
           refine dh λiB aj bU=>?_
           replace kQ:=kQ.aK aj;replace kD:=kD.aK aj;replace fq:=fq.aK aj;replace fv:=fv.aK aj;replace kZ:=kZ.aK aj;replace U:=ai U aj
           obtain⟨v0,v1,v2,v3,v4,v5,v6,hJ⟩:=bU.aH
           rw [<- lh] at bU v0 v1 v2 v3 v4 v5 v6 hJ
           rw [<- lh]
           clear lh v0 v1 v2 v3 v4 v5 v6 hJ
           refine⟨rfl,(cH.o _).2 U,?_⟩
           refine Xn ?_
           refine VF ?_
           refine fj _ _ ?_
           generalize iB= uY at *
           exact ama
         . skip
           refine XV ?_
           obtain⟨bK,lh⟩ :∃b,b= wd.heap.size:=⟨_,rfl⟩
           have CP:w.heap.size<=bK:=by have:=U.size;omega
           go_wp2
           refine dh λiB ar bU=>?_
           replace U:=ai U ar
           obtain⟨v0,v1,v2,v3,v4,v5,v6,hJ⟩:=bU.aH
           rw [<- lh] at bU v0 v1 v2 v3 v4 v5 v6 hJ
           rw [<- lh]
           clear lh v0 v1 v2 v3 v4 v5 v6 hJ
           refine⟨rfl,(cH.o _).2 U,?_⟩
           refine Xn ?_
           refine VF ?_
           refine fj _ _ ?_
           refine Dt 5 [6,7,8] #[true,true,true,true,true,true,true,true,true,true,false,false] PV ((cH.o _).2 U) (λK fj=>?_)
           refine XV ?_
           have pE:=U.size
           go_wp2_with fail
           refine (aas.o _ (abo.o.ad (ai U ao))).mono ?_
           rintro e aI ⟨dQ,dY,dX,dW,dU,cq,cw,dR,ck,e0,cf,e1,ct,e2,cu,e3,cl,e4,b,rfl,tX,ef,aQ⟩
           have aj:=be iB aQ;replace U:=ai U aj;replace bU:=bU.to aj
           replace ef:=ef.base (B':=w) KK;have kQ:=ef.jg;have kD:=ef.hx;have fq:=ef.fc;have fv:=ef.fE;have kZ:=ef.kK;clear ef pE
           go_wp2
           refine⟨rfl,(cH.o _).2 U,?_⟩
           refine YI ?_
           repeat go_big_quiet_step (fail)
           refine VF ?_
           refine fj _ _ ?_
           generalize aI= uY at *
           exact ama
       case rest=>
         obtain⟨bK,b,dQ,dY,dX,dW,dU,cq,cw,dR,ck,e0,cf,e1,ct,e2,cu,e3,cl,e4,rfl,rfl,CP,tX,bU,ef,En⟩:=hcut
         generalize wc= ly at *
         have MH:=ai yW En
         cases b
         . have rB:hY ⟨rs,qs,tu,se,sp,ws,ae,os⟩ ⟨kind,mem,val,yes,no,bR⟩ =none:=by simpa using tX.o
           have Ap:=I rB;clear rB
           go_wp2
           go_ret2
           exact⟨rs,qs,tu,se,sp,ws,ae,os,aq,c0,au,aw,ak,c2,al,c3,aF,c4,⟨#[]⟩,false,rfl,I (by rw [adp DN.o tH.o EK.o,Ap.o];rfl),I (λ_=>rfl),ih.o.ad MH ih.o.lt,pN.o.aK MH,bL MH _⟩
         . have rB:hY ⟨rs,qs,tu,se,sp,ws,ae,os⟩ ⟨kind,mem,val,yes,no,bR⟩ =some ⟨dQ,dY,dX,dW,dU,cq,cw,dR⟩:=by simpa using tX.o
           have Ap:=I rB;clear rB;have MW:=ih.o.ad MH ih.o.lt;have aIm:=Pp.o.ad En Pp.o.lt;have aEy:=yW.size
           have atH:bK≠p:=KK
           have kS:ab≠p:=KK
           have abB:=I MW;have aoS:=I (ef.base (B':=B) KK);have hn:=bU.aH;have qk:=MW.iX;have aCg:=MW.ca;clear ef
           go_upto_region 15 with fail
           clear hn qk aCg
           refine iO 0 λcP aE=>?_
           have eT:=aE.ahJ abB.o;have aIn:=aE.dj bU atH;have hA9:=aE.dj aIm kS;have UF:=aoS.o.hb abB.o aE.eC;have ph:=bx (bL MH (some p)) aE.eC
           have n9:=aIn.aH;have a9:=hA9.cX;have rn:=I eT;have FU:=I UF;have BP:=I ph;have Av:=I UF.rd.ll;have xU:=(uO (Oh lE.o Ap.o)).2.2.2.2
           simp only at xU
           clear MW aIm bU eT aIn hA9 UF ph aE
           go_wp2_with fail
           refine (ape dQ dY dX dW dU cq cw dR ck e0 cf e1 ct e2 cu e3 cl e4 ⟨kind,mem,val,yes,no,bR⟩ (aha lE.o Ap.o) (λax=>agZ Ap.o ax) KK cP Av.o (IH.o cP BP.o).t).mono ?_
           rintro e fH ⟨rfl,mA⟩
           go_wp2
           go_ret2
           exact⟨dQ,dY,dX,dW,dU,cq,cw,dR,ck,e0,cf,e1,ct,e2,cu,e3,cl,e4,_,true,rfl,I (by rw [adp DN.o tH.o EK.o,Ap.o];rfl),I (λe=>by cases e),rn.o.ad mA rn.o.lt,FU.o.aK mA,bx BP.o (bL mA _)⟩
theorem hD {w:World} {Q:World->Prop} (k:Nat) {a0 a1 a2 a3 a4 a5 a6 a7 a8 a9 a10:Value} (h:∀W,er w g k [a0,a1,a2,a3,a4,a5,a6,a7,a8,a9,a10] W->Q W):Q (World.setCell (World.setCell (World.setCell (World.setCell (World.setCell (World.setCell (World.setCell (World.setCell (World.setCell (World.setCell (World.setCell w ⟨g,k,none⟩ a0) ⟨g,k + 1,none⟩ a1) ⟨g,k + 2,none⟩ a2) ⟨g,k + 3,none⟩ a3) ⟨g,k + 4,none⟩ a4) ⟨g,k + 5,none⟩ a5) ⟨g,k + 6,none⟩ a6) ⟨g,k + 7,none⟩ a7) ⟨g,k + 8,none⟩ a8) ⟨g,k + 9,none⟩ a9) ⟨g,k + 10,none⟩ a10):=h _ (er.cons (er.cons (er.cons (er.cons (er.cons (er.cons (er.cons (er.cons (er.cons (er.cons (er.cons er.nil)))))))))))
theorem aFm (h:u:=by
 replace Z:=I Z
 go_in
 go_upto_region 1 with fail
 refine fU λaO ar aR J=>?_
 replace R:=R.ad ar;have U:=ar;have bE:=aR.ca;obtain⟨z0,bF,z2,z3,z4,z5,ek,ig,iE,z9,iD⟩:=J.ca
 replace R:=I R;clear bE z0 bF z2 z3 z4 z5 ek ig iE z9 iD
 obtain⟨dx,et⟩ :∃X:World->Prop,∀V,X V↔ay V w 46 #[aq rs c0,au qs aw,tu,se,sp,ak ws c2,al ae c3,aF os c4,cV,cW,cU]:=⟨_,λ_=>Xt⟩
 have cH:=I et;clear et
 haveI:Nonempty (cM dx):=⟨⟨aO,(cH.o _).2 aR⟩⟩
 refine nZ dx [([0,1,3,4],2),([5],6)] [] PV PV ((cH.o _).2 aR) ?_
 have bE:=ay.pS (λK:cM dx=>(cH.o _).1 K.holds);have fO:Below w w aO.drew:=ai U (Wt _ _).drew;have qy:=I (R.o.ad (Wt _ _).drew);have qJ:ay aO.drew w 46 #[aq rs c0,au qs aw,tu,se,sp,ak ws c2,al ae c3,aF os c4,cV,cW,cU]:=aR
 have aIx:ay aO.drew (w.heap.size + 1) 46 #[(),(),(0:Int),(0:Int),(0:Int),(),(),(),.string ⟨#[]⟩,.string ⟨#[]⟩,(0:Int)]:=J;clear aR J
 generalize aO.drew= wd at *
 refine gA λff da=>?_
 refine Yo ?_
 repeat go_big_quiet_step (fail)
 refine VF ?_
 refine XV ?_
 go_wp2_with fail
 refine (gk.o aq au ak al aF c0 aw c2 c3 c4 rs qs tu se sp ws ae os Z.o wd qy.o).mono ?_
 rintro e aI ⟨bN,d0,bZ,d1,aU,d2,bd,d3,bI,d4,rfl,hM,aQ⟩
 have mv:=qJ.to aQ;have ou:=aIx.to aQ;have jM:=ai fO aQ;have aIl:=fO.size;have kB:=I (hM.base (B':=w) aIl);clear hM
 go_wp2
 refine gb ((cH.o _).2 mv) (da _ _ ?_)
 refine gA λff da=>?_
 refine Xp ?_
 repeat go_big_quiet_step (fail)
 refine VF ?_
 refine XV ?_
 have DY:=I ou;have af:=ou.ca;have eO:=ou.hk;clear ou
 go_wp2
 clear af eO
 refine hD 0 λcP aE=>?_
 have eT:=aE.dj mv;have cp:=aE.jo DY.o;have hg:=kB.o.hb DY.o aE.eC;have fg:=aE.aN jM
 refine gb ((cH.o _).2 eT) (da _ _ ?_)
 refine ky ?_
 refine Xn ?_
 refine VF ?_
 clear bE
 have z0:=cp.ca
 go_wp2
 exact hV ⟨bN,d0,bZ,d1,aU,d2,bd,d3,bI,d4,rfl,hg,fg⟩ (by simp [results,Tryz.results54,Tryz.results58,go_sem,z0])):u:=h
theorem Sc (Z:KL) {w:World} (R:eF w aq au ak al aF rs qs ws ae os):
 Rd 54 #[.agg #[aq rs c0,au qs aw,tu,se,sp,ak ws c2,al ae c3,aF os c4,cV,cW,cU]] w λe ah=>∃(bN:QR) (d0:Nat) (bZ:QR) (d1:Nat) (aU:QR) (d2:Nat) (bd:QR) (d3:Nat) (bI:QR) (d4:Nat),e= .returned (.agg #[bN rs d0,bZ qs d1,tu,se,sp,aU ws d2,bd ae d3,bI os d4,cV,cW,cU])/\fu w ah bN d0 bZ d1 aU d2 bd d3 bI d4 rs qs ws ae os/\Below w w ah:=by have gk:=I @Sd;exact aFm
theorem Ow (Z:KL) {w:World} (R:eF w aq au ak al aF rs qs ws ae os):
 Rd 58 #[.agg #[aq rs c0,au qs aw,tu,se,sp,ak ws c2,al ae c3,aF os c4,cV,cW,cU]] w λe ah=>∃(bN:QR) (d0:Nat) (bZ:QR) (d1:Nat) (aU:QR) (d2:Nat) (bd:QR) (d3:Nat) (bI:QR) (d4:Nat),e= .returned (.agg #[bN rs d0,bZ qs d1,tu,se,sp,aU ws d2,bd ae d3,bI os d4,cV,cW,cU])/\fu w ah bN d0 bZ d1 aU d2 bd d3 bI d4 rs qs ws ae os/\Below w w ah:=by have gk:=I @NY;exact aFm
theorem axe {l:VU} {b:Bool} (h:qj m (hj 32 l)= if b= true then some (n,x) else none) (aB:b= false->n= m):rE m l= (n,if b then x else (⟨#[63]⟩ :VU)):=by
 unfold rE lI
 rw [h]
 cases b
 .rw [aB rfl];rfl
 .rfl
theorem KP (h:u:=by
 exact⟨rs,qs,tu,se,sp,ws,ae,os,cV,cW,cU,bN,d0,bZ,d1,aU,d2,bd,d3,bI,d4,_,rfl,I (by rw [(fP.o).1,(fP.o).2]),hg,fg⟩):u:=h
theorem akL (h:u:=by
 by_cases h2:200 < y.size
 .go_wp2_with fail
  go_meet
  exact⟨_,rfl,I (by rw [qb,XX h2]),rfl⟩
 .go_wp2_with fail
  go_meet
  exact⟨_,rfl,I (by rw [qb,XU h2]),rfl⟩):u:=h
theorem auM (Z:KL) (cF:cV.size + cW.size<=1048576) {l:VU} (aT:l.size<=1048576) {w:World} (R:eF w aq au ak al aF rs qs ws ae os) (bX:ob w):
 Rd 18 #[.agg #[aq rs c0,au qs aw,tu,se,sp,ak ws c2,al ae c3,aF os c4,cV,cW,cU],l] w λe ah=>∃(dQ:List aM) (dY:List aZ) (dX dW dU:Int) (cq:List Int) (cw:List aW) (dR:List Out) (um uS:VU) (uj:Int) (ck:QR) (e0:Nat) (cf:QR) (e1:Nat) (ct:QR) (e2:Nat) (cu:QR) (e3:Nat) (cl:QR) (e4:Nat) (y:VU),e= .returned (.tuple #[.agg #[ck dQ e0,cf dY e1,dX,dW,dU,ct cq e2,cu cw e3,cl dR e4,um,uS,uj],.string y])/\Hid ((lX (⟨rs,qs,tu,se,sp,ws,ae,os,cV,cW,cU⟩ :dE) l,qD (⟨rs,qs,tu,se,sp,ws,ae,os,cV,cW,cU⟩ :dE) l)= ((⟨dQ,dY,dX,dW,dU,cq,cw,dR,um,uS,uj⟩ :dE),y))/\fu w ah ck e0 cf e1 ct e2 cu e3 cl e4 dQ dY cq cw dR/\Below w w ah:=by
 replace Z:=I Z;have LH:=bX
 cases aN:gJ (⟨rs,qs,tu,se,sp,ws,ae,os,cV,cW,cU⟩ :dE)
 .have cI:=I aN
  have fP:=I (Qu (l:=l) aN);clear aN
  go_in
  go_upto_region 1 with fail
  refine fU λaO ar aR J=>?_
  replace R:=R.ad ar;replace bX:=bX.ad ar;have U:=ar
  have cA:=aR.ca
  obtain⟨z0,bF,z2,z3,z4,z5,ek,ig,iE,z9,iD⟩:=J.ca;clear z0 bF z2 z3 z4 z5 ek ig iE z9 iD
  have fk:=I J;clear J LH
  go_wp2_with fail
  refine (zN (⟨rs,qs,tu,se,sp,ws,ae,os,cV,cW,cU⟩ :dE) Z.o.h0 Z.o.h1 Z.o.h2 Z.o.h3 Z.o.h4 cF _ cI.o ((R.ad ao)).fC ((R.ad ao)).dM ((R.ad ao)).r2 ((R.ad ao)).gS ((R.ad ao)).ll Z.o.ev Z.o.eU Z.o.cL Z.o.dS Z.o.hl ((bX.ad ao)).t).mono ?_
  rintro e aI ⟨rfl,aQ⟩
  have aj:=be aO aQ;replace U:=ai U aj;replace R:=R.ad aj;replace aR:=aR.to aj
  replace cA:=aR.ca
  have uJ:=U.size;have vu:=aj
  go_wp2_with fail
  refine (Sc Z.o R).mono ?_
  rintro e bw ⟨bN,d0,bZ,d1,aU,d2,bd,d3,bI,d4,rfl,hM,bG⟩
  have aY:=be aI bG;replace U:=ai U aY;clear cA;have kB:=I (hM.base (B':=w) uJ);clear hM;have cp:=fk.o.ad (ai vu aY) fk.o.lt;have af:=cp.ca;have eO:=cp.hk;have js:=I cp;clear cp R
  go_wp2
  clear af eO
  refine hD 0 λcP aE=>?_
  have cp:=aE.jo js.o;have hg:=kB.o.hb js.o aE.eC;have fg:=aE.aN U;clear aE U
  have z0:=cp.ca
  refine XY (v:= .tuple #[.agg #[bN rs d0,bZ qs d1,tu,se,sp,aU ws d2,bd ae d3,bI os d4,cV,cW,cU],.string (⟨#[110,111]⟩ :VU)]) Zu rfl ?_
  exact KP
 .have cI:=I aN
  obtain⟨tO,hQ⟩ :∃b,mF l ⟨#[]⟩ =b:=⟨_,rfl⟩
  have uc:=I hQ
  cases tO
  .have fP:=I (Qs aN hQ)
   clear aN hQ
   go_in
   go_upto_region 1 with fail
   refine fU λaO ar aR J=>?_
   replace R:=R.ad ar;replace bX:=bX.ad ar;have U:=ar
   have cA:=aR.ca
   obtain⟨z0,bF,z2,z3,z4,z5,ek,ig,iE,z9,iD⟩:=J.ca;clear z0 bF z2 z3 z4 z5 ek ig iE z9 iD
   have fk:=I J;clear J LH
   go_wp2_with fail
   refine (zN (⟨rs,qs,tu,se,sp,ws,ae,os,cV,cW,cU⟩ :dE) Z.o.h0 Z.o.h1 Z.o.h2 Z.o.h3 Z.o.h4 cF _ cI.o ((R.ad ao)).fC ((R.ad ao)).dM ((R.ad ao)).r2 ((R.ad ao)).gS ((R.ad ao)).ll Z.o.ev Z.o.eU Z.o.cL Z.o.dS Z.o.hl ((bX.ad ao)).t).mono ?_
   rintro e aI ⟨rfl,aQ⟩
   have aj:=be aO aQ;replace U:=ai U aj;replace R:=R.ad aj;replace aR:=aR.to aj
   replace cA:=aR.ca
   have vu:=aj
   go_wp2_with fail
   refine (Db aT (Xd _) _ uc.o _).mono ?_
   rintro e bw ⟨rfl,bG⟩
   have aY:=be aI bG;replace U:=ai U aY;replace R:=R.ad aY;replace aR:=aR.to aY
   replace cA:=aR.ca
   have uJ:=U.size;replace vu:=ai vu aY
   go_wp2_with fail
   refine (Sc Z.o R).mono ?_
   rintro e bH ⟨bN,d0,bZ,d1,aU,d2,bd,d3,bI,d4,rfl,hM,db⟩
   have cj:=be bw db;replace U:=ai U cj;clear cA;have kB:=I (hM.base (B':=w) uJ);clear hM;have cp:=fk.o.ad (ai vu cj) fk.o.lt;have af:=cp.ca;have eO:=cp.hk;have js:=I cp;clear cp R
   go_wp2
   clear af eO
   refine hD 0 λcP aE=>?_
   have cp:=aE.jo js.o;have hg:=kB.o.hb js.o aE.eC;have fg:=aE.aN U;clear aE U
   have z0:=cp.ca
   refine XY (v:= .tuple #[.agg #[bN rs d0,bZ qs d1,tu,se,sp,aU ws d2,bd ae d3,bI os d4,cV,cW,cU],.string (⟨#[98,97,100]⟩ :VU)]) Zu rfl ?_
   exact KP
  .obtain⟨oN,wS⟩ :∃b,(cU == 60)= b:=⟨_,rfl⟩
   cases oN
   rotate_left
   .have fP:=I (Qt aN hQ wS)
    clear aN hQ
    go_in
    go_upto_region 1 with fail
    refine fU λaO ar aR J=>?_
    replace R:=R.ad ar;replace bX:=bX.ad ar;have U:=ar
    have cA:=aR.ca
    obtain⟨z0,bF,z2,z3,z4,z5,ek,ig,iE,z9,iD⟩:=J.ca;clear z0 bF z2 z3 z4 z5 ek ig iE z9 iD
    have fk:=I J;clear J LH
    go_wp2_with fail
    refine (zN (⟨rs,qs,tu,se,sp,ws,ae,os,cV,cW,cU⟩ :dE) Z.o.h0 Z.o.h1 Z.o.h2 Z.o.h3 Z.o.h4 cF _ cI.o ((R.ad ao)).fC ((R.ad ao)).dM ((R.ad ao)).r2 ((R.ad ao)).gS ((R.ad ao)).ll Z.o.ev Z.o.eU Z.o.cL Z.o.dS Z.o.hl ((bX.ad ao)).t).mono ?_
    rintro e aI ⟨rfl,aQ⟩
    have aj:=be aO aQ;replace U:=ai U aj;replace R:=R.ad aj;replace aR:=aR.to aj
    replace cA:=aR.ca
    have vu:=aj
    go_wp2_with fail
    refine (Db aT (Xd _) _ uc.o _).mono ?_
    rintro e bw ⟨rfl,bG⟩
    have aY:=be aI bG;replace U:=ai U aY;replace R:=R.ad aY;replace aR:=aR.to aY
    replace cA:=aR.ca
    have uJ:=U.size;replace vu:=ai vu aY
    go_wp2_with fail
    refine (Sc Z.o R).mono ?_
    rintro e bH ⟨bN,d0,bZ,d1,aU,d2,bd,d3,bI,d4,rfl,hM,db⟩
    have cj:=be bw db;replace U:=ai U cj;clear cA;have kB:=I (hM.base (B':=w) uJ);clear hM;have cp:=fk.o.ad (ai vu cj) fk.o.lt;have af:=cp.ca;have eO:=cp.hk;have js:=I cp;clear cp R
    go_wp2
    clear af eO
    refine hD 0 λcP aE=>?_
    have cp:=aE.jo js.o;have hg:=kB.o.hb js.o aE.eC;have fg:=aE.aN U;clear aE U
    have z0:=cp.ca
    refine XY (v:= .tuple #[.agg #[bN rs d0,bZ qs d1,tu,se,sp,aU ws d2,bd ae d3,bI os d4,cV,cW,cU],.string (⟨#[102,117,108,108]⟩ :VU)]) Zu rfl ?_
    exact KP
   .have fP:=I (Qv aN hQ wS)
    have aeW:=(aih hQ).2;have lE:Hid (hL ⟨rs,qs,tu,se,sp,ws,ae,os⟩):=I (Gl aN);have TL:=I (show (⟨cV,cW,cU⟩ :ft).bY.size + (⟨cV,cW,cU⟩ :ft).bW.size<=1048576 from cF);clear aN hQ
    go_in
    go_upto_region 1 with fail
    refine fU λaO ar aR J=>?_
    replace R:=R.ad ar;replace bX:=bX.ad ar;have U:=ar
    have cA:=aR.ca
    obtain⟨z0,bF,z2,z3,z4,z5,ek,ig,iE,z9,iD⟩:=J.ca;have Ps:=I LH;have ih:=I aR
    have aFg:=J.lt;clear z0 bF z2 z3 z4 z5 ek ig iE z9 iD;have fk:=I J;clear J LH
    go_wp2_with fail
    refine (zN (⟨rs,qs,tu,se,sp,ws,ae,os,cV,cW,cU⟩ :dE) Z.o.h0 Z.o.h1 Z.o.h2 Z.o.h3 Z.o.h4 cF _ cI.o ((R.ad ao)).fC ((R.ad ao)).dM ((R.ad ao)).r2 ((R.ad ao)).gS ((R.ad ao)).ll Z.o.ev Z.o.eU Z.o.cL Z.o.dS Z.o.hl ((bX.ad ao)).t).mono ?_
    rintro e aI ⟨rfl,aQ⟩
    have aj:=be aO aQ;replace U:=ai U aj;replace R:=R.ad aj;replace aR:=aR.to aj
    replace cA:=aR.ca
    have vu:=aj
    go_wp2_with fail
    refine (Db aT (Xd _) _ uc.o _).mono ?_
    rintro e bw ⟨rfl,bG⟩
    have aY:=be aI bG;replace U:=ai U aY;replace R:=R.ad aY;replace aR:=aR.to aY
    replace cA:=aR.ca
    have uJ:=U.size;replace vu:=ai vu aY
    go_wp2_with fail
    refine (Sc Z.o R).mono ?_
    rintro e bH ⟨bN,d0,bZ,d1,aU,d2,bd,d3,bI,d4,rfl,hM,db⟩
    have cj:=be bw db;replace U:=ai U cj;clear cA;have Wk:=ai vu cj;have kB:=I (hM.base (B':=w) uJ);clear hM
    go_upto_region 8 with fail
    obtain⟨yb,ni⟩ :∃b,b= bH.heap.size:=⟨_,rfl⟩
    refine Xi λaIs QY VX=>?_;rw [<- ni] at VX
    have aEm:aO.heap.size<=yb:=by rw [ni];exact Wk.size
    rw [<- ni]
    have aen:=ai Wk QY;have MV:=ai U QY;have aot:=I (kB.o.aK QY);have Ud:Hid (∀W,aIs.grownBy W (some yb)->ob W):=I (λW cv=>Ps.o.ad (MV.grown cv MV.size (λq bt=>by have aj:=Wx bt;omega)));have wk:=I VX;have auk:=MV.size;clear ni VX R bX aR U QY vu Wk
    go_wp2_with fail
    refine (aqN lE.o aeW KK auk wk.o aot.o Ud.o).mono ?_
    rintro e du ⟨dQ,dY,dX,dW,dU,cq,cw,dR,ck,e0,cf,e1,ct,e2,cu,e3,cl,e4,x,b,rfl,oJ,rm,nT,gN,VP⟩
    have zg:=aen.grown VP aen.size (λq bt=>by have aj:=Wx bt;omega);have QS:=MV.grown VP MV.size (λq bt=>by have aj:=Wx bt;omega);replace nT:=I nT;replace gN:=I gN;clear VP
    go_upto_if 37 with fail
    go_cut [7] (λhJ W=>∃y,hJ= .string y/\Hid (rE ⟨rs,qs,tu,se,sp,ws,ae,os⟩ l= (⟨dQ,dY,dX,dW,dU,cq,cw,dR⟩,y))/\du= W)
    case first=>
     have hp:=I (axe oJ.o rm.o)
     cases b
     .go_wp2_with fail
      go_meet
      exact⟨_,rfl,hp,rfl⟩
     .go_wp2_with fail
      go_meet
      exact⟨_,rfl,hp,rfl⟩
    case rest=>
     obtain⟨y,rfl,Ao,hw⟩:=hcut
     subst hw
     clear oJ rm
     go_upto_if 40 with fail
     go_cut [7] (λhJ W=>∃hU,hJ= .string hU/\Hid (qb y= hU)/\du= W)
     case first=>
      exact akL
     case rest=>
      obtain⟨hU,rfl,DS,hw⟩:=hcut
      subst hw
      have rD:hU.size<=1048576:=by
       rw [<- DS.o]
       unfold qb
       split
       .decide
       .omega
      have oc:=λW (h:jV W)=>auv ⟨cV,cW,cU⟩ TL.o ⟨l,hU⟩ aT rD W h
      obtain⟨g,cy⟩ :∃g,eK ⟨cV,cW,cU⟩ ⟨l,hU⟩ =g:=⟨_,rfl⟩
      rw [cy] at oc
      replace cy:=I cy
      obtain⟨um,uS,uj⟩:=g
      replace oc:=I oc
      simp only at oc
      have bE:=(ih.o.ad zg ih.o.lt).ca
      go_wp2_with fail
      refine (oc.o du (Ps.o.ad QS).t).mono ?_
      rintro e eB ⟨rfl,eJ⟩
      have ix:=nT.o.ad eJ nT.o.lt;have FU:=I ix;have oC:=ix.ca;have Mz:=ix.hk;clear bE ix
      go_upto_region 14 with fail
      clear oC Mz
      refine ra 8 λEd jL=>?_
      have pT:=jL.aHT FU.o;have bf:=(gN.o.aK eJ).hb FU.o jL.eC;have eT:=jL.aN (ai zg eJ);have Jp:=jL.aN (ai QS eJ);have cp:=fk.o.ad eT fk.o.lt
      have js:=I cp;have jD:=I bf;have oC:=pT.ca;have af:=cp.ca;have eO:=cp.hk;clear cp bf jL pT
      go_wp2
      clear oC af eO
      refine hD 0 λWF DA=>?_
      have Wm:=DA.jo js.o;have OF:=jD.o.hb js.o DA.eC;have Tz:=DA.aN Jp;clear DA
      have z0:=Wm.ca
      refine XY (v:= .tuple #[.agg #[ck dQ e0,cf dY e1,dX,dW,dU,ct cq e2,cu cw e3,cl dR e4,um,uS,uj],.string hU]) Zu rfl ?_
      exact⟨dQ,dY,dX,dW,dU,cq,cw,dR,um,uS,uj,ck,e0,cf,e1,ct,e2,cu,e3,cl,e4,hU,rfl,I (by
       rw [fP.o.1,fP.o.2]
       unfold wF
       rw [show rE (dE.nA (⟨rs,qs,tu,se,sp,ws,ae,os,cV,cW,cU⟩ :dE)) l= (⟨dQ,dY,dX,dW,dU,cq,cw,dR⟩,y) from Ao.o]
       simp only
       rw [DS.o,show eK (dE.log (⟨rs,qs,tu,se,sp,ws,ae,os,cV,cW,cU⟩ :dE)) ⟨l,hU⟩ =⟨um,uS,uj⟩ from cy.o]
       rfl),OF,Tz⟩
def IP (B:Nat) (cV cW:ByteArray) (cU:Int) (r:di×ByteArray) (e:Ending) (ah:World):Prop:=∃(dQ:List aM) (dY:List aZ) (dX dW dU:Int) (cq:List Int) (cw:List aW) (dR:List Out) (ck:Option Addr) (e0:Nat) (cf:Option Addr) (e1:Nat) (ct:Option Addr) (e2:Nat) (cu:Option Addr) (e3:Nat) (cl:Option Addr) (e4:Nat) (y:ByteArray),e= .returned (.tuple #[.agg #[.slice ck dQ.length e0,.slice cf dY.length e1,.int .i64 dX,.int .i64 dW,.int .i64 dU,.slice ct cq.length e2,.slice cu cw.length e3,.slice cl dR.length e4,.string cV,.string cW,.int .i64 cU],.string y])/\Hid (r= (⟨dQ,dY,dX,dW,dU,cq,cw,dR⟩,y))/\fu B ah ck e0 cf e1 ct e2 cu e3 cl e4 dQ dY cq cw dR
theorem Og {w:World} (h:fu B w bN d0 bZ d1 aU d2 bd d3 bI d4 rs qs ws ae os) (hm:hL KL):fa bN bZ aU bd bI d0 d1 d2 d3 d4 rs qs ws ae os:=by
 obtain⟨a0,a1,a2,a3,a4⟩:=uO hm
 simp only at a0 a1 a2 a3 a4
 exact h.uN KK KK KK KK KK
theorem aAj (Z:KL) {no:Int} (h:hL KL) {w:World} (R:eF w aq au ak al aF rs qs ws ae os):
 Rd 154 #[.agg KL,.agg #[kind,mem,val,yes,no,bR]] w λe ah=>∃(dQ:List aM) (dY:List aZ) (dX dW dU:Int) (cq:List Int) (cw:List aW) (dR:List Out) (ck:QR) (e0:Nat) (cf:QR) (e1:Nat) (ct:QR) (e2:Nat) (cu:QR) (e3:Nat) (cl:QR) (e4:Nat) (b:Bool),e= .returned (.tuple #[.agg #[ck dQ e0,cf dY e1,dX,dW,dU,ct cq e2,cu cw e3,cl dR e4],b])/\Hid (hY KL ⟨kind,mem,val,yes,no,bR⟩ =if b= true then some ⟨dQ,dY,dX,dW,dU,cq,cw,dR⟩ else none)/\fu w ah ck e0 cf e1 ct e2 cu e3 cl e4 dQ dY cq cw dR/\Below w w ah:=by
 have H:=aiG aq au ak al aF c0 aw c2 c3 c4 rs qs tu se sp ws ae os Z kind mem val yes no bR h w R
 cases hm:hY ⟨rs,qs,tu,se,sp,ws,ae,os⟩ ⟨kind,mem,val,yes,no,bR⟩ with
 | none=>
  exact akY
 | some n=>
  exact anC
theorem Df (h:hL KL) {no:Int} {w:World} (qH:B<=w.heap.size) (aV:fu B w aq c0 au aw ak c2 al c3 aF c4 rs qs ws ae os):
 Rd 187 #[.agg #[aq rs c0,au qs aw,tu,se,sp,ak ws c2,al ae c3,aF os c4,cV,cW,cU],.agg #[kind,mem,val,yes,no,bR],s] w λe ah=>IP B cV cW cU (qX KL ⟨kind,mem,val,yes,no,bR⟩ s) e ah/\Below w w ah:=by
 have yJ:=I (Og aV h);have lE:=I h;have iJ:=I aV;have R:=aV.rd;clear h aV
 go_in
 go_upto_region 1 with fail
 refine gY λaO ar aR fj J=>?_
 replace R:=R.ad ar;have U:=ar
 have cA:=aR.ca
 have jx:=fj.cX;obtain⟨z0,bF,z2,z3,z4,z5,ek,ig,iE,z9,iD⟩:=J.ca;have fk:=I J;have gI:=I aR
 have vJ:=J.lt;clear z0 bF z2 z3 z4 z5 ek ig iE z9 iD J
 go_wp2_with fail
 refine (aAj yJ.o lE.o R).mono ?_
 rintro e aI ⟨dQ,dY,dX,dW,dU,cq,cw,dR,ck,e0,cf,e1,ct,e2,cu,e3,cl,e4,b,rfl,tX,gN,aQ⟩
 have vk:=I (gN.base (B':=B) (by have:=U.size;omega));clear gN
 cases b
 .have rB:qX ⟨rs,qs,tu,se,sp,ws,ae,os⟩ ⟨kind,mem,val,yes,no,bR⟩ s= (⟨rs,qs,tu,se,sp,ws,ae,os⟩,(⟨#[63]⟩ :VU)):=by
   have e:hY ⟨rs,qs,tu,se,sp,ws,ae,os⟩ ⟨kind,mem,val,yes,no,bR⟩ =none:=by simpa using tX.o
   rw [qX,e]
  have Ap:=I rB;clear rB
  go_upto_region 2 with fail
  refine Xi λbw YH _=>?_;have bG:=ai aQ YH
  have iw:=ai U bG;clear cA jx;have bE:=(gI.o.ad bG gI.o.lt).ca;have dB:=fk.o.ad bG fk.o.lt;have dO:=I dB;have af:=dB.ca;have eO:=dB.hk;clear dB
  go_wp2
  clear af eO bE
  refine hD 0 λcP aE=>?_
  have cp:=aE.jo dO.o;have hg:=(iJ.o.aK iw).hb dO.o aE.eC;have fg:=aE.aN iw;clear aE
  have z0:=cp.ca
  refine XY (v:= .tuple #[.agg #[aq rs c0,au qs aw,tu,se,sp,ak ws c2,al ae c3,aF os c4,cV,cW,cU],.string (⟨#[63]⟩ :VU)]) (by simp [results,Tryz.results187,go_sem,z0]) rfl ?_
  exact⟨⟨rs,qs,tu,se,sp,ws,ae,os,aq,c0,au,aw,ak,c2,al,c3,aF,c4,_,rfl,I (Ap.o),hg⟩,fg⟩
 .have rB:qX ⟨rs,qs,tu,se,sp,ws,ae,os⟩ ⟨kind,mem,val,yes,no,bR⟩ s= (⟨dQ,dY,dX,dW,dU,cq,cw,dR⟩,s):=by
   have e:hY ⟨rs,qs,tu,se,sp,ws,ae,os⟩ ⟨kind,mem,val,yes,no,bR⟩ =some ⟨dQ,dY,dX,dW,dU,cq,cw,dR⟩:=by simpa using tX.o
   rw [qX,e]
  have Ap:=I rB;clear rB
  go_upto_region 4 with fail
  obtain⟨bK,lh⟩ :∃b,b= aI.heap.size:=⟨_,rfl⟩
  refine Xi λbw Ni bU=>?_;have bG:=ai aQ Ni
  rw [<- lh] at bU
  rw [<- lh]
  clear lh;have iw:=ai U bG;have aou:=I (vk.o.aK Ni);clear cA jx;have bE:=(gI.o.ad bG gI.o.lt).ca;have afA:=(gI.o.ad bG gI.o.lt).lt;have hn:=bU.aH
  go_upto_region 5 with fail
  obtain⟨aIu,aFs⟩ :∃b,b= bw.heap.size:=⟨_,rfl⟩
  refine Xi λbH Nk dN=>?_;rw [<- aFs] at dN
  rw [<- aFs]
  have aEw:w.heap.size<=aIu:=by have:=iw.size;omega
  have aEx:aO.heap.size<=aIu:=by have:=bG.size;omega
  have fm:=ai iw Nk;have kR:=ai bG Nk;have Jl:=bU.to Nk;have aov:=I (aou.o.aK Nk)
  clear bE afA bU aFs;have bX:=I dN;replace hn:=Jl.aH;have gr:=dN.ca;have aqO:=dN.hk;clear dN
  go_upto_region 6 with fail
  clear hn gr aqO
  refine iO 0 λCh jA=>?_
  have aIk:=jA.ahJ bX.o;have hd:=aov.o.hb bX.o jA.eC;have nh:=jA.aN kR;have om:=jA.aN fm;have lD:=I hd;have gr:=aIk.ca
  clear jA aIk hd Jl;have dB:=fk.o.ad nh fk.o.lt;have dO:=I dB;have af:=dB.ca;have eO:=dB.hk;clear dB
  go_wp2
  clear af eO gr
  refine hD 0 λcP aE=>?_
  have cp:=aE.jo dO.o;have hg:=(lD.o).hb dO.o aE.eC;have fg:=aE.aN om;clear aE
  have z0:=cp.ca
  refine XY (v:= .tuple #[.agg #[ck dQ e0,cf dY e1,dX,dW,dU,ct cq e2,cu cw e3,cl dR e4,cV,cW,cU],s]) (by simp [results,Tryz.results187,go_sem,z0]) rfl ?_
  exact⟨⟨dQ,dY,dX,dW,dU,cq,cw,dR,ck,e0,cf,e1,ct,e2,cu,e3,cl,e4,_,rfl,I (Ap.o),hg⟩,fg⟩
def xg (m:di):Nat->Int->di×ByteArray
 | 7,n=>qX m ⟨2,n,0,0,0,0⟩ (⟨#[111,107]⟩ :ByteArray)
 | 8,n=>qX m ⟨3,n,0,0,0,0⟩ (⟨#[111,107]⟩ :ByteArray)
 | 9,n=>qX m ⟨5,0,n,0,0,0⟩ (⟨#[111,107]⟩ :ByteArray)
 | 10,n=>qX m ⟨8,n,0,0,0,0⟩ (⟨#[111,107]⟩ :ByteArray)
 | 11,n=>(m,(mh m 11 [n]).getD (⟨#[63]⟩ :ByteArray))
 | 12,n=>(m,(mh m 12 [n]).getD (⟨#[63]⟩ :ByteArray))
 | _,_=>(m,(⟨#[63]⟩ :ByteArray))
theorem aho (m:di) (i:Nat) (n:Int) (h7:i≠7) (h8:i≠8) (h9:i≠9) (h10:i≠10) (h11:i≠11) (h12:i≠12):xg m i n= (m,(⟨#[63]⟩ :VU)):=by
 unfold xg
 split <;> first | rfl | (exfalso;omega)
theorem Tl (h:u:=by
 rintro e aI ⟨⟨dQ,dY,dX,dW,dU,cq,cw,dR,ck,e0,cf,e1,ct,e2,cu,e3,cl,e4,y,rfl,fl,gN⟩,aQ⟩
 have vk:=I gN;clear gN;have iL:=ai U aQ;have dB:=fk.o.ad aQ fk.o.lt;have dO:=I dB;have af:=dB.ca;have eO:=dB.hk;clear dB
 go_wp2
 clear af eO
 refine hD 0 λcP aE=>?_
 have cp:=aE.jo dO.o;have hg:=(vk.o).hb dO.o aE.eC;have fg:=aE.aN iL;clear aE
 have z0:=cp.ca
 refine XY (v:= .tuple #[.agg #[ck dQ e0,cf dY e1,dX,dW,dU,ct cq e2,cu cw e3,cl dR e4,cV,cW,cU],y]) ZT rfl ?_
 exact⟨⟨dQ,dY,dX,dW,dU,cq,cw,dR,ck,e0,cf,e1,ct,e2,cu,e3,cl,e4,_,rfl,I (fl.o),hg⟩,fg⟩):u:=h
theorem alE (h:u:=by
 exact⟨⟨rs,qs,tu,se,sp,ws,ae,os,aq,c0,au,aw,ak,c2,al,c3,aF,c4,_,rfl,I (aau.o),hg⟩,fg⟩):u:=h
theorem alF (h:u:=by
 exact⟨⟨rs,qs,tu,se,sp,ws,ae,os,aq,c0,au,aw,ak,c2,al,c3,aF,c4,_,rfl,I (anZ.o),hg⟩,fg⟩):u:=h
theorem alG (h:u:=by
 exact⟨⟨rs,qs,tu,se,sp,ws,ae,os,aq,c0,au,aw,ak,c2,al,c3,aF,c4,_,rfl,I (abw.o),hg⟩,fg⟩):u:=h
theorem awy (B:Nat) (aq au ak al aF:QR) (c0 aw c2 c3 c4:Nat) (rs:List aM) (qs:List aZ) (tu se sp:Int) (ws:List Int) (ae:List aW) (os:List Out) (cV cW:VU) (cU:Int) (h:hL ⟨rs,qs,tu,se,sp,ws,ae,os⟩) (s:VU) (n:Int) (w:World) (qH:B<=w.heap.size) (aV:fu B w aq c0 au aw ak c2 al c3 aF c4 rs qs ws ae os):
 Rd 114 #[.agg #[aq rs c0,au qs aw,tu,se,sp,ak ws c2,al ae c3,aF os c4,cV,cW,cU],s,n] w λe ah=>IP B cV cW cU (xg ⟨rs,qs,tu,se,sp,ws,ae,os⟩ (fA s) n) e ah/\Below w w ah:=by
 have fP:=IZ s
 generalize fA s= i at *
 obtain⟨-,-,-,-,-,-,-,f7,f8,f9,f10,f11,f12,-,-⟩:=fP
 have lK:hG tu se sp ws ae= true:=h.hF;have Z:=Og aV h;have Py:=I (λW (h1:aX 1 cE W ak ws) (h2:aX 3 aW.cells W al ae)=>azW tu se sp ak c2 ws al c3 ae Z.h2 Z.h3 Z.cL lK n W h1 h2)
 have lY:-1000000000 < (if fy n then se - (fr ae n).dp else 0)/\(if fy n then se - (fr ae n).dp else 0) < 1000000000:=by
  split
  .rename_i hm
   have:=SS lK hm
   omega
  .omega
 have aau:Hid (xg ⟨rs,qs,tu,se,sp,ws,ae,os⟩ 11 n= (⟨rs,qs,tu,se,sp,ws,ae,os⟩,if fy n then eW (if fy n then se - (fr ae n).dp else 0) else (⟨#[63]⟩ :VU))):=I (by
  show (_,((if fy n then some (eW (se - (fr ae n).dp)) else none:Option ByteArray).getD (⟨#[63]⟩ :VU)))= _
  cases fy n <;> rfl)
 have lg:=JW.2 h;have atA:=aGu os n os.length;have xU:=(uO h).2.2.2.2
 simp only at xU
 obtain⟨b,aB⟩ :∃b,fy n= b:=⟨_,rfl⟩
 obtain⟨v1,vF⟩ :∃v,v= if b then (jy os n os.length).1 else 0:=⟨_,rfl⟩
 obtain⟨v2,rC⟩ :∃v,v= if b then (jy os n os.length).2 else 0:=⟨_,rfl⟩
 have TQ:=I (λW (ez:eF W aq au ak al aF rs qs ws ae os)=>aAl ⟨rs,qs,tu,se,sp,ws,ae,os⟩ aq au ak al aF c0 aw c2 c3 c4 Z.h0 Z.h1 Z.h2 Z.h3 Z.h4 n (.tuple #[v1,v2,.bool b]) (by rw [Bp,lg,aB,vF,rC];cases b <;> rfl) W ez.fC ez.dM ez.r2 ez.gS ez.ll Z.ev Z.eU Z.cL Z.dS Z.hl)
 have anZ:Hid (xg ⟨rs,qs,tu,se,sp,ws,ae,os⟩ 12 n= (⟨rs,qs,tu,se,sp,ws,ae,os⟩,if b then eW v1 ++ (⟨#[32]⟩ :VU) ++ eW v2 else (⟨#[63]⟩ :VU))):=I (by
  show (_,((if fy n then some (sb [(jy os n os.length).1,(jy os n os.length).2]) else none:Option ByteArray).getD (⟨#[63]⟩ :VU)))= _
  rw [aB,vF,rC]
  cases b <;> rfl)
 have uK:(-1000000000 < v1/\v1 < 1000000000)∧-1000000000 < v2/\v2 < 1000000000:=by
  rw [vF,rC]
  cases b
  .simp
  .simp only [if_true];omega
 rw [aB] at Py aau lY
 generalize (if b then se - (fr ae n).dp else 0)= v at *
 replace h:=I h;replace aV:=I aV;clear Z lg atA xU lK aB vF rC
 go_in
 go_upto_region 1 with fail
 refine fU λaO ar aR J=>?_
 have U:=ar
 have cA:=aR.ca
 obtain⟨z0,bF,z2,z3,z4,z5,ek,ig,iE,z9,iD⟩:=J.ca;have fk:=I J;have gI:=I aR;have vJ:=J.lt
 have AP:B<=aO.heap.size:=by have:=U.size;omega
 have jT:=I (aV.o.aK U);clear z0 bF z2 z3 z4 z5 ek ig iE z9 iD J aR aV
 by_cases h7:i= 7
 .subst h7
  simp only [Nat.reduceBEq] at f7 f8 f9 f10 f11 f12
  go_wp2_with fail
  refine (Df h.o AP jT.o).mono ?_
  exact Tl
 by_cases h8:i= 8
 .subst h8
  simp only [Nat.reduceBEq] at f7 f8 f9 f10 f11 f12
  go_wp2_with fail
  refine (Df h.o AP jT.o).mono ?_
  exact Tl
 by_cases h9:i= 9
 .subst h9
  simp only [Nat.reduceBEq] at f7 f8 f9 f10 f11 f12
  go_wp2_with fail
  refine (Df h.o AP jT.o).mono ?_
  exact Tl
 by_cases h10:i= 10
 .subst h10
  simp only [Nat.reduceBEq] at f7 f8 f9 f10 f11 f12
  go_wp2_with fail
  refine (Df h.o AP jT.o).mono ?_
  exact Tl
 by_cases h11:i= 11
 .subst h11
  simp only [Nat.reduceBEq] at f7 f8 f9 f10 f11 f12
  go_wp2_with fail
  refine (Py.o _ jT.o.rd.r2 jT.o.rd.gS).mono ?_
  rintro e aI ⟨rfl,aQ⟩
  have iL:=ai U aQ;have jC:=I (jT.o.aK aQ)
  cases b
  .skip
   have dB:=fk.o.ad aQ fk.o.lt;have dO:=I dB;have af:=dB.ca;have eO:=dB.hk;clear dB;have bE:=(gI.o.ad aQ gI.o.lt).ca;clear cA
   go_wp2
   clear af eO bE
   refine hD 0 λcP aE=>?_
   have cp:=aE.jo dO.o;have hg:=(jC.o).hb dO.o aE.eC;have fg:=aE.aN iL;clear aE
   have z0:=cp.ca
   refine XY (v:= .tuple #[.agg #[aq rs c0,au qs aw,tu,se,sp,ak ws c2,al ae c3,aF os c4,cV,cW,cU],.string (⟨#[63]⟩ :VU)]) ZT rfl ?_
   exact alE
  .go_upto_region 13 with fail
   have kh:=gI.o.ad aQ gI.o.lt
   obtain⟨dx,et⟩ :∃X:World->Prop,∀V,X V↔ay V w 46 #[aq rs c0,au qs aw,tu,se,sp,ak ws c2,al ae c3,aF os c4,cV,cW,cU]:=⟨_,λ_=>Xt⟩
   have cH:=I et;clear et
   haveI:Nonempty (cM dx):=⟨⟨aI,(cH.o _).2 kh⟩⟩
   refine nZ dx [([0,1],2),([],3)] [4] PV PV ((cH.o _).2 kh) ?_
   replace cA:=ay.pS (λK:cM dx=>(cH.o _).1 K.holds)
   have fO:Below w w aI.drew:=ai iL (Wt _ _).drew;have qJ:ay aI.drew w 46 #[aq rs c0,au qs aw,tu,se,sp,ak ws c2,al ae c3,aF os c4,cV,cW,cU]:=kh;have sG:=fk.o.ad aQ fk.o.lt;have lG:Hid (ay aI.drew (w.heap.size + 1) 46 #[(),(),(0:Int),(0:Int),(0:Int),(),(),(),.string ⟨#[]⟩,.string ⟨#[]⟩,(0:Int)]):=I sG
   have kf:=I (jC.o.aK (Wt _ _).drew);clear kh sG
   generalize aI.drew= wd at *
   refine gA λff da=>?_
   refine YB ?_
   repeat go_big_quiet_step (fail)
   refine VF ?_
   refine XV ?_
   go_wp2_with fail
   refine (py v lY.1 lY.2 _).mono ?_
   rintro e bw ⟨rfl,bG⟩
   have iw:=ai fO bG;have hA:=qJ.to bG
   go_wp2
   refine gb ((cH.o _).2 hA) (da _ _ ?_)
   refine gA λff da=>?_
   refine Xn ?_
   refine VF ?_
   refine XV ?_
   have dO:=I (lG.o.ad bG lG.o.lt);have af:=dO.o.ca;have eO:=dO.o.hk
   go_wp2
   clear af eO
   refine hD 0 λcP aE=>?_
   have eT:=aE.dj (hA);have cp:=aE.jo dO.o;have hg:=(kf.o.aK bG).hb dO.o aE.eC;have fg:=aE.aN iw;clear aE
   refine gb ((cH.o _).2 eT) (da _ _ ?_)
   refine ky ?_
   refine Xp ?_
   repeat go_big_quiet_step (fail)
   refine VF ?_
   clear cA
   go_wp2
   have z0:=cp.ca
   refine XY (v:= .tuple #[.agg #[aq rs c0,au qs aw,tu,se,sp,ak ws c2,al ae c3,aF os c4,cV,cW,cU],.string (eW v)]) ZT rfl ?_
   exact alE
 by_cases h12:i= 12
 .subst h12
  simp only [Nat.reduceBEq] at f7 f8 f9 f10 f11 f12
  go_wp2_with fail
  refine (TQ.o _ jT.o.rd).mono ?_
  rintro e aI ⟨rfl,aQ⟩
  have iL:=ai U aQ;have jC:=I (jT.o.aK aQ)
  cases b
  .skip
   have dB:=fk.o.ad aQ fk.o.lt;have dO:=I dB;have af:=dB.ca;have eO:=dB.hk;clear dB;have bE:=(gI.o.ad aQ gI.o.lt).ca;clear cA
   go_wp2
   clear af eO bE
   refine hD 0 λcP aE=>?_
   have cp:=aE.jo dO.o;have hg:=(jC.o).hb dO.o aE.eC;have fg:=aE.aN iL;clear aE
   have z0:=cp.ca
   refine XY (v:= .tuple #[.agg #[aq rs c0,au qs aw,tu,se,sp,ak ws c2,al ae c3,aF os c4,cV,cW,cU],.string (⟨#[63]⟩ :VU)]) ZT rfl ?_
   exact alF
  .have qQ:=mQ v1 KK
   have pY:=mQ v2 KK
   go_upto_region 17 with fail
   have kh:=gI.o.ad aQ gI.o.lt
   obtain⟨dx,et⟩ :∃X:World->Prop,∀V,X V↔ay V w 46 #[aq rs c0,au qs aw,tu,se,sp,ak ws c2,al ae c3,aF os c4,cV,cW,cU]:=⟨_,λ_=>Xt⟩
   have cH:=I et;clear et
   haveI:Nonempty (cM dx):=⟨⟨aI,(cH.o _).2 kh⟩⟩
   refine nZ dx [([0,1,4],2),([3],5),([6],7)] [8] PV PV ((cH.o _).2 kh) ?_
   replace cA:=ay.pS (λK:cM dx=>(cH.o _).1 K.holds)
   have fO:Below w w aI.drew:=ai iL (Wt _ _).drew;have qJ:ay aI.drew w 46 #[aq rs c0,au qs aw,tu,se,sp,ak ws c2,al ae c3,aF os c4,cV,cW,cU]:=kh;have sG:=fk.o.ad aQ fk.o.lt;have lG:Hid (ay aI.drew (w.heap.size + 1) 46 #[(),(),(0:Int),(0:Int),(0:Int),(),(),(),.string ⟨#[]⟩,.string ⟨#[]⟩,(0:Int)]):=I sG
   have kf:=I (jC.o.aK (Wt _ _).drew);clear kh sG
   generalize aI.drew= wd at *
   refine gA λff da=>?_
   refine YI ?_
   repeat go_big_quiet_step (fail)
   refine VF ?_
   refine XV ?_
   go_wp2_with fail
   refine (py v1 uK.1.1 uK.1.2 _).mono ?_
   rintro e bw ⟨rfl,bG⟩
   have iw:=ai fO bG;have hA:=qJ.to bG;have Cc:=I (lG.o.ad bG lG.o.lt)
   go_wp2
   refine gb ((cH.o _).2 hA) (da _ _ ?_)
   refine gA λff da=>?_
   refine Xp ?_
   repeat go_big_quiet_step (fail)
   refine VF ?_
   refine XV ?_
   go_wp2_with fail
   refine (py v2 uK.2.1 uK.2.2 _).mono ?_
   rintro e bH ⟨rfl,db⟩
   have fm:=ai iw db;have kR:=hA.to db
   go_wp2
   refine gb ((cH.o _).2 kR) (da _ _ ?_)
   refine gA λff da=>?_
   refine Xp ?_
   repeat go_big_quiet_step (fail)
   refine VF ?_
   refine XV ?_
   have dO:=I (Cc.o.ad db Cc.o.lt);have af:=dO.o.ca;have eO:=dO.o.hk
   go_wp2
   clear af eO
   refine hD 0 λcP aE=>?_
   have eT:=aE.dj (kR);have cp:=aE.jo dO.o;have hg:=((kf.o.aK bG).aK db).hb dO.o aE.eC;have fg:=aE.aN fm;clear aE
   refine gb ((cH.o _).2 eT) (da _ _ ?_)
   refine ky ?_
   refine Xp ?_
   repeat go_big_quiet_step (fail)
   refine VF ?_
   clear cA
   go_wp2
   have z0:=cp.ca
   refine XY (v:= .tuple #[.agg #[aq rs c0,au qs aw,tu,se,sp,ak ws c2,al ae c3,aF os c4,cV,cW,cU],.string (eW v1 ++ (⟨#[32]⟩ :VU) ++ eW v2)]) ZT rfl ?_
   exact alF
 have abw:=I (aho ⟨rs,qs,tu,se,sp,ws,ae,os⟩ i n h7 h8 h9 h10 h11 h12);have dB:=fk.o.ad (Wt _ _) fk.o.lt;have dO:=I dB;have af:=dB.ca;have eO:=dB.hk;clear dB
 go_wp2
 clear af eO
 refine hD 0 λcP aE=>?_
 have cp:=aE.jo dO.o;have hg:=(jT.o).hb dO.o aE.eC;have fg:=aE.aN U;clear aE
 have z0:=cp.ca
 refine XY (v:= .tuple #[.agg #[aq rs c0,au qs aw,tu,se,sp,ak ws c2,al ae c3,aF os c4,cV,cW,cU],.string (⟨#[63]⟩ :VU)]) ZT rfl ?_
 exact alG
theorem OG (s:VU):∃v b,gf s= b/\Go.Proofs.YtlaaemmmbodaaaaGreatDoor.qZ s= .tuple #[.int .i64 v,.bool b]/\(b= true->jh s.data.toList= v):=by
 cases h:gf s
 .exact⟨0,false,rfl,ahZ h,λe=>by cases e⟩
 .exact⟨_,true,rfl,aia h,λ_=>rfl⟩
theorem OQ (s:VU) (aP:s.size<=1048576) (v:Int) (b:Bool) (h:Go.Proofs.YtlaaemmmbodaaaaGreatDoor.qZ s= .tuple #[v,b]) (w:World):Rd 113 #[s] w λe ah=>e= .returned (.tuple #[v,b])/\Below w w ah:=by
 have ju:=I (λW=>awr s Xz W)
 rw [h] at ju
 clear h
 go_in
 go_wp2_with fail
 refine (ju.o _).mono ?_
 rintro e bm ⟨rfl,bD⟩
 have ar:=be w bD;have U:Below w w bm:=ar
 go_wp2
 go_ret2
 exact⟨rfl,(ai U ao)⟩
def RT (m:di) (b:Bool) (v:Int):Option aM->di×ByteArray
 | some r=>if b then qX m ⟨1,v,r.id,0,0,0⟩ (⟨#[111,107]⟩ :ByteArray) else (m,(⟨#[63]⟩ :ByteArray))
 | none=>(m,(⟨#[63]⟩ :ByteArray))
theorem ahf {v:Int} {r:aM}:RT m true v (some r)= qX m ⟨1,v,r.id,0,0,0⟩ (⟨#[111,107]⟩ :VU):=by rw [RT,XX rfl]
def JY (m:di) (x y:ByteArray):di×ByteArray:=RT m (gf y) (jh y.data.toList) (yS m.bT x)
theorem amK (h:u:=by
 skip
 go_in
 go_upto_region 1 with fail
 refine fU λaO ar aR J=>?_
 have U:=ar
 have cA:=aR.ca
 obtain⟨z0,bF,z2,z3,z4,z5,ek,ig,iE,z9,iD⟩:=J.ca;have fk:=I J;have gI:=I aR;have sS:=aR.lt
 have vJ:=J.lt;have jT:=I (aV.o.aK U);clear z0 bF z2 z3 z4 z5 ek ig iE z9 iD J aR
 go_wp2_with fail
 refine (LA.o _).mono ?_
 rintro e aI ⟨rfl,aQ⟩
 have iL:=ai U aQ;have bE:=(gI.o.ad aQ gI.o.lt).ca;have zL:=(gI.o.ad aQ gI.o.lt).lt;clear cA
 go_wp2_with fail
 refine (DR.o _ (jT.o.aK aQ).rd.fC).mono ?_
 rintro e bw ⟨rfl,bG⟩
 have iw:=ai iL bG;have hA:=ai aQ bG;clear bE zL
 simp only [Du,Yw,ZB]
 go_upto_region 3 with fail
 obtain⟨tO,hQ⟩ :∃b,b= bw.heap.size:=⟨_,rfl⟩
 refine Xi λbH YH bU=>?_;have kR:=ai hA YH;have fm:=ai iw YH
 rw [<- hQ] at bU
 rw [<- hQ]
 clear hQ;have bE:=(gI.o.ad kR gI.o.lt).ca;have Rz:=(gI.o.ad kR gI.o.lt).lt;have kX:=I (jT.o.aK kR);have dB:=fk.o.ad kR fk.o.lt;have dO:=I dB;have af:=dB.ca;have eO:=dB.hk;have jq:=dB.lt;clear dB
 go_wp2
 clear af eO jq bE
 refine hD 0 λcP aE=>?_
 have cp:=aE.jo dO.o;have hg:=(kX.o).hb dO.o aE.eC;have fg:=aE.aN fm;clear aE
 have z0:=cp.ca
 refine XY (v:= .tuple #[.agg #[aq rs c0,au qs aw,tu,se,sp,ak ws c2,al ae c3,aF os c4,cV,cW,cU],.string (⟨#[63]⟩ :VU)]) aGG rfl ?_
 exact⟨⟨rs,qs,tu,se,sp,ws,ae,os,aq,c0,au,aw,ak,c2,al,c3,aF,c4,_,rfl,I (FQ.o),hg⟩,fg⟩):u:=h
theorem awx (B:Nat) (aq au ak al aF:QR) (c0 aw c2 c3 c4:Nat) (rs:List aM) (qs:List aZ) (tu se sp:Int) (ws:List Int) (ae:List aW) (os:List Out) (cV cW:VU) (cU:Int) (h:hL ⟨rs,qs,tu,se,sp,ws,ae,os⟩) (x y:VU) (hy:y.size<=1048576) (w:World) (qH:B<=w.heap.size) (aV:fu B w aq c0 au aw ak c2 al c3 aF c4 rs qs ws ae os):
 Rd 111 #[.agg #[aq rs c0,au qs aw,tu,se,sp,ak ws c2,al ae c3,aF os c4,cV,cW,cU],x,y] w λe ah=>IP B cV cW cU (JY ⟨rs,qs,tu,se,sp,ws,ae,os⟩ x y) e ah/\Below w w ah:=by
 obtain⟨v,b,aB,bu,az⟩:=OG y
 have LA:=I (λW=>OQ y hy v b bu W)
 obtain⟨o,dn⟩ :∃o,yS rs x= o:=⟨_,rfl⟩
 have Z:=Og aV h;have DR:=I (λW (h1:aX 7 aM.cells W aq rs)=>azC aq c0 rs Z.h0 (mS h.jn).1 x o dn W h1)
 have FQ:Hid (JY ⟨rs,qs,tu,se,sp,ws,ae,os⟩ x y= RT ⟨rs,qs,tu,se,sp,ws,ae,os⟩ b v o):=I (by
  rw [JY,aB,show yS (di.bT ⟨rs,qs,tu,se,sp,ws,ae,os⟩) x= o from dn]
  cases o
  .rfl
  .cases b
   .rfl
   .rw [az rfl])
 replace h:=I h;replace aV:=I aV;clear Z aB bu az dn
 cases b
 .rcases o with - | r
  .exact amK
  .skip
   go_in
   go_upto_region 1 with fail
   refine fU λaO ar aR J=>?_
   have U:=ar
   obtain⟨z0,bF,z2,z3,z4,z5,ek,ig,iE,z9,iD⟩:=J.ca;have fk:=I J;have gI:=I aR
   have jT:=I (aV.o.aK U);clear z0 bF z2 z3 z4 z5 ek ig iE z9 iD J aR
   go_wp2_with fail
   refine (LA.o _).mono ?_
   rintro e aI ⟨rfl,aQ⟩
   have iL:=ai U aQ;have bE:=(gI.o.ad aQ gI.o.lt).ca
   go_wp2_with fail
   refine (DR.o _ (jT.o.aK aQ).rd.fC).mono ?_
   rintro e bw ⟨rfl,bG⟩
   have iw:=ai iL bG;have hA:=ai aQ bG;clear bE
   simp only [Du,Yw,ZB]
   go_upto_region 3 with fail
   obtain⟨tO,hQ⟩ :∃b,b= bw.heap.size:=⟨_,rfl⟩
   refine Xi λbH YH bU=>?_;have kR:=ai hA YH;have fm:=ai iw YH
   rw [<- hQ] at bU
   rw [<- hQ]
   clear hQ;have bE:=(gI.o.ad kR gI.o.lt).ca;have kX:=I (jT.o.aK kR);have dB:=fk.o.ad kR fk.o.lt;have dO:=I dB;have af:=dB.ca;have eO:=dB.hk;clear dB
   go_wp2
   clear af eO bE
   refine hD 0 λcP aE=>?_
   have cp:=aE.jo dO.o;have hg:=(kX.o).hb dO.o aE.eC;have fg:=aE.aN fm;clear aE
   have z0:=cp.ca
   refine XY (v:= .tuple #[.agg #[aq rs c0,au qs aw,tu,se,sp,ak ws c2,al ae c3,aF os c4,cV,cW,cU],.string (⟨#[63]⟩ :VU)]) aGG rfl ?_
   exact⟨⟨rs,qs,tu,se,sp,ws,ae,os,aq,c0,au,aw,ak,c2,al,c3,aF,c4,_,rfl,I (FQ.o),hg⟩,fg⟩
 .rcases o with - | r
  .exact amK
  .skip
   go_in
   go_upto_region 1 with fail
   refine fU λaO ar aR J=>?_
   have U:=ar
   obtain⟨z0,bF,z2,z3,z4,z5,ek,ig,iE,z9,iD⟩:=J.ca;have fk:=I J;have gI:=I aR
   have jT:=I (aV.o.aK U);clear z0 bF z2 z3 z4 z5 ek ig iE z9 iD J aR
   go_wp2_with fail
   refine (LA.o _).mono ?_
   rintro e aI ⟨rfl,aQ⟩
   have iL:=ai U aQ;have bE:=(gI.o.ad aQ gI.o.lt).ca
   go_wp2_with fail
   refine (DR.o _ (jT.o.aK aQ).rd.fC).mono ?_
   rintro e bw ⟨rfl,bG⟩
   have iw:=ai iL bG;have hA:=ai aQ bG;clear bE
   simp only [Du,Yw,ZB]
   go_upto_region 3 with fail
   obtain⟨tO,hQ⟩ :∃b,b= bw.heap.size:=⟨_,rfl⟩
   refine Xi λbH YH bU=>?_;have kR:=ai hA YH;have fm:=ai iw YH
   rw [<- hQ] at bU
   rw [<- hQ]
   clear hQ;have bE:=(gI.o.ad kR gI.o.lt).ca;have Rz:=(gI.o.ad kR gI.o.lt).lt;have kX:=I (jT.o.aK kR);have n0:=(bU.cell 0).trans (show _= some (.int .i64 r.id) from rfl)
   go_wp2_with fail
   refine (Df h.o (by have:=fm.size;omega) kX.o).mono ?_
   rintro e cO ⟨⟨dQ,dY,dX,dW,dU,cq,cw,dR,ck,e0,cf,e1,ct,e2,cu,e3,cl,e4,kO,rfl,fl,gN⟩,eM⟩
   replace gN:=I gN;have nh:=ai kR eM;have om:=ai fm eM;clear bE n0 bU;have dB:=fk.o.ad nh fk.o.lt;have dO:=I dB;have af:=dB.ca;have eO:=dB.hk;clear dB
   go_wp2
   clear af eO
   refine hD 0 λcP aE=>?_
   have cp:=aE.jo dO.o;have hg:=(gN.o).hb dO.o aE.eC;have fg:=aE.aN om;clear aE
   have z0:=cp.ca
   refine XY (v:= .tuple #[.agg #[ck dQ e0,cf dY e1,dX,dW,dU,ct cq e2,cu cw e3,cl dR e4,cV,cW,cU],kO]) aGG rfl ?_
   exact⟨⟨dQ,dY,dX,dW,dU,cq,cw,dR,ck,e0,cf,e1,ct,e2,cu,e3,cl,e4,_,rfl,I (FQ.o.trans (ahf.trans fl.o)),hg⟩,fg⟩
theorem ayB {w:World} (h:aX 1 hh w A [x,y,z]):∃b o,A= some ⟨b,o,none⟩/\b < w.heap.size/\w.cell? ⟨b,o,none⟩ =some (.string x)/\w.cell? ⟨b,o + 1,none⟩ =some (.string y)/\w.cell? ⟨b,o + 2,none⟩ =some (.string z):=by
 obtain⟨b,o,e,aB,aN⟩:=h Wn
 exact⟨b,o,e,aB,by simpa using aN 0 x rfl 0 _ rfl,by simpa using aN 1 y rfl 0 _ rfl,by simpa using aN 2 z rfl 0 _ rfl⟩
def HY (m:di) (x y z:ByteArray):di×ByteArray:=if gf x && (gf y && gf z) then wx m ⟨7,0,0,jh x.data.toList,jh y.data.toList,jh z.data.toList⟩ else (m,(⟨#[63]⟩ :ByteArray))
theorem abY (h:hY m a= none):wx m a= (m,(⟨#[63]⟩ :VU)):=by rw [wx,h]
theorem apd {x y z:Int} (h:hY m ⟨7,0,0,x,y,z⟩ =some n):wx m ⟨7,0,0,x,y,z⟩ =(n,if Ob n then (⟨#[97,100,111,112,116,101,100]⟩ :VU) else (⟨#[108,111,115,116]⟩ :VU)):=by
 rw [wx,h]
 show (n,tb n 7)= _
 rw [tb,XU WG,XX rfl]
theorem aaf (h:u:=by
 skip
 have dB:=fk.o.ad kR fk.o.lt;have dO:=I dB;have af:=dB.ca;have eO:=dB.hk;have jq:=dB.lt;clear dB
 go_wp2
 clear af eO jq bE
 refine hD 0 λcP aE=>?_
 have cp:=aE.jo dO.o;have hg:=(kX.o).hb dO.o aE.eC;have fg:=aE.aN fm;clear aE
 have z0:=cp.ca
 refine XY (v:= .tuple #[.agg #[aq rs c0,au qs aw,tu,se,sp,ak ws c2,al ae c3,aF os c4,cV,cW,cU],.string (⟨#[63]⟩ :VU)]) Zr rfl ?_
 exact⟨⟨rs,qs,tu,se,sp,ws,ae,os,aq,c0,au,aw,ak,c2,al,c3,aF,c4,_,rfl,I (Ul.o),hg⟩,fg⟩):u:=h
theorem alA (h:u:=by
 exact⟨⟨dQ,dY,dX,dW,dU,cq,cw,dR,ck,e0,cf,e1,ct,e2,cu,e3,cl,e4,_,rfl,I (aby.o),hg⟩,fg⟩):u:=h
theorem alh (h:u:=by
 exact⟨⟨dQ,dY,dX,dW,dU,cq,cw,dR,ck,e0,cf,e1,ct,e2,cu,e3,some ⟨nb,off,none⟩,e4,_,rfl,I (KU.o),hg⟩,fg⟩):u:=h
theorem awA (h:hL KL) {yQ:Nat} (av:x.size<=1048576) (hy:y.size<=1048576) (cF:z.size<=1048576) {w:World} (qH:B<=w.heap.size) (aV:fu B w aq c0 au aw ak c2 al c3 aF c4 rs qs ws ae os) (Mc:aX 1 hh w A [x,y,z]):
 Rd 112 #[.agg #[aq rs c0,au qs aw,tu,se,sp,ak ws c2,al ae c3,aF os c4,cV,cW,cU],A 3 yQ] w λe ah=>IP B cV cW cU (HY KL x y z) e ah/\Below w w ah:=by
 obtain⟨v1,dc,bD,gR,vF⟩:=OG x
 obtain⟨v2,dr,aQ,nk,rC⟩:=OG y
 obtain⟨v3,eb,bG,afk,Ry⟩:=OG z
 have DP:=I (λW=>OQ x av v1 dc gR W);have As:=I (λW=>OQ y hy v2 dr nk W);have DQ:=I (λW=>OQ z cF v3 eb afk W)
 have Ul:Hid (HY ⟨rs,qs,tu,se,sp,ws,ae,os⟩ x y z= if dc && (dr && eb) then wx ⟨rs,qs,tu,se,sp,ws,ae,os⟩ ⟨7,0,0,v1,v2,v3⟩ else (⟨rs,qs,tu,se,sp,ws,ae,os⟩,(⟨#[63]⟩ :VU))):=I (by
  rw [HY,bD,aQ,bG]
  cases dc
  .rfl
  cases dr
  .rfl
  cases eb
  .rfl
  rw [vF rfl,rC rfl,Ry rfl])
 obtain⟨nN,Bq,rfl,uB,g0,g1,g2⟩:=ayB Mc
 have aG:=I (And.intro g0 (And.intro g1 g2));replace uB:=I uB;replace h:=I h;replace aV:=I aV;clear bD aQ bG gR nk afk vF rC Ry g0 g1 g2 Mc
 go_in
 go_upto_region 1 with fail
 refine fU λaO ar aR J=>?_
 have U:=ar
 obtain⟨z0,bF,z2,z3,z4,z5,ek,ig,iE,z9,iD⟩:=J.ca;have fk:=I J;have gI:=I aR
 have jT:=I (aV.o.aK U);clear z0 bF z2 z3 z4 z5 ek ig iE z9 iD J aR;have g0:=(U.cell (p:=⟨nN,_,none⟩) uB.o).trans aG.o.1
 go_wp2_with fail
 refine (DP.o _).mono ?_
 rintro e aI ⟨rfl,aQ⟩
 have iL:=ai U aQ;clear g0;have g1:=(iL.cell (p:=⟨nN,_,none⟩) uB.o).trans aG.o.2.1
 go_wp2_with fail
 refine (As.o _).mono ?_
 rintro e bw ⟨rfl,bG⟩
 have iw:=ai iL bG;have hA:=ai aQ bG;clear g1;have g2:=(iw.cell (p:=⟨nN,_,none⟩) uB.o).trans aG.o.2.2
 go_wp2_with fail
 refine (DQ.o _).mono ?_
 rintro e bH ⟨rfl,db⟩
 have fm:=ai iw db;have kR:=ai hA db;clear g2;have bE:=(gI.o.ad kR gI.o.lt).ca;have Rz:=(gI.o.ad kR gI.o.lt).lt;have kX:=I (jT.o.aK kR)
 go_upto_region 4 with fail
 cases dc
 .exact aaf
 cases dr
 .exact aaf
 cases eb
 .exact aaf
 go_wp2_with fail
 refine (Df h.o (by have:=fm.size;omega) kX.o).mono ?_
 rintro e cO ⟨⟨dQ,dY,dX,dW,dU,cq,cw,dR,ck,e0,cf,e1,ct,e2,cu,e3,cl,e4,kO,rfl,fl,gN⟩,eM⟩
 replace gN:=I gN;have nh:=ai kR eM;have om:=ai fm eM;clear bE Rz
 go_upto_region 7 with fail
 obtain⟨bK,lh⟩ :∃b,b= cO.heap.size:=⟨_,rfl⟩
 refine Xi λdk YH bU=>?_;have xM:=ai nh YH
 have vr:=ai om YH;have wu:=gN.o.aK YH
 rw [<- lh] at bU
 rw [<- lh]
 clear lh;have hn:=bU.ca;have sv:=I wu;clear gN bU
 cases hm:hY ⟨rs,qs,tu,se,sp,ws,ae,os⟩ ⟨7,0,0,v1,v2,v3⟩ with
 | none=>
  have e:=fl.o
  rw [qX,hm] at e
  have aby:Hid (HY ⟨rs,qs,tu,se,sp,ws,ae,os⟩ x y z= (⟨dQ,dY,dX,dW,dU,cq,cw,dR⟩,(⟨#[63]⟩ :VU))):=I (Ul.o.trans ((abY hm).trans (by injection e with e1 e2;rw [e1])))
  obtain rfl:(⟨#[63]⟩ :VU)= kO:=(Prod.mk.inj e).2
  clear e hm wu
  have dB:=fk.o.ad xM fk.o.lt;have dO:=I dB;have af:=dB.ca;have eO:=dB.hk;clear dB
  go_wp2
  clear af eO hn
  refine hD 0 λcP aE=>?_
  have cp:=aE.jo dO.o;have hg:=(sv.o).hb dO.o aE.eC;have fg:=aE.aN vr;clear aE
  have z0:=cp.ca
  refine XY (v:= .tuple #[.agg #[ck dQ e0,cf dY e1,dX,dW,dU,ct cq e2,cu cw e3,cl dR e4,cV,cW,cU],.string (⟨#[63]⟩ :VU)]) Zr rfl ?_
  exact alA
 | some k=>
  have e:=fl.o
  rw [qX,hm] at e
  obtain rfl:(⟨#[108,111,115,116]⟩ :VU)= kO:=(Prod.mk.inj e).2
  have ax:=(Prod.mk.inj e).1
  rw [ax] at hm
  have zx:0 < dR.length:=agZ hm rfl
  have xU:dR:=by have:=(uO (Oh h.o hm)).2.2.2.2;simp only at this;omega
  have KU:=I (Ul.o.trans (apd hm))
  obtain⟨j,cc⟩ :∃j,j + 1= dR.length:=⟨dR.length - 1,by omega⟩
  obtain⟨nb,off,o,rfl,eN,dn,aew⟩:=wu.rd.ll.at_ (Wt _ _) (k:=j) KK
  have mO:Ob ⟨dQ,dY,dX,dW,dU,cq,cw,dR⟩ =o.jv:=by simp only [Ob,<- cc,Nat.add_sub_cancel,dn]
  have u2:=aew 2 _ rfl (aD.self _)
  simp only [aD.self] at u2
  obtain⟨yb,ni⟩ :∃b,o.jv= b:=⟨_,rfl⟩
  rw [ni] at u2 mO
  rw [mO] at KU
  have GM:((dR.length:Int) - 1)= (j:Int):=KK
  have iy:j < dR.length:=KK
  clear e hm wu ax zx cc dn aew mO ni
  cases yb
  .skip
   have dB:=fk.o.ad xM fk.o.lt;have dO:=I dB;have af:=dB.ca;have eO:=dB.hk;clear dB
   go_wp2
   clear af eO hn u2 GM iy xU
   refine hD 0 λcP aE=>?_
   have cp:=aE.jo dO.o;have hg:=(sv.o).hb dO.o aE.eC;have fg:=aE.aN vr;clear aE
   have z0:=cp.ca
   refine XY (v:= .tuple #[.agg #[ck dQ e0,cf dY e1,dX,dW,dU,ct cq e2,cu cw e3,.slice (some ⟨nb,off,none⟩) dR e4,cV,cW,cU],.string (⟨#[108,111,115,116]⟩ :VU)]) Zr rfl ?_
   exact alh
  .skip
   have dB:=fk.o.ad xM fk.o.lt;have dO:=I dB;have af:=dB.ca;have eO:=dB.hk;clear dB
   go_wp2
   clear af eO hn u2 GM iy xU
   refine hD 0 λcP aE=>?_
   have cp:=aE.jo dO.o;have hg:=(sv.o).hb dO.o aE.eC;have fg:=aE.aN vr;clear aE
   have z0:=cp.ca
   refine XY (v:= .tuple #[.agg #[ck dQ e0,cf dY e1,dX,dW,dU,ct cq e2,cu cw e3,.slice (some ⟨nb,off,none⟩) dR e4,cV,cW,cU],.string (⟨#[97,100,111,112,116,101,100]⟩ :VU)]) Zr rfl ?_
   exact alh
def yt (m:di):Nat->di×ByteArray
 | 0=>wx m ⟨4,0,0,0,0,0⟩
 | 1=>qX m ⟨6,0,0,0,0,0⟩ (⟨#[111,107]⟩ :ByteArray)
 | 2=>qX m ⟨9,0,0,0,0,0⟩ (⟨#[111,107]⟩ :ByteArray)
 | 3=>(m,ny (m.ch.map (nE m.bT)))
 | 4=>(m,ny ((gD m.bT m.ch).map (mm m.bT)))
 | 5=>(m,sb (mU m.hF))
 | 6=>(m,sb (mr m.bQ m.bQ.length))
 | _=>(m,(⟨#[63]⟩ :ByteArray))
theorem ajX (m:di) (i:Nat) (h0:i≠0) (h1:i≠1) (h2:i≠2) (h3:i≠3) (h4:i≠4) (h5:i≠5) (h6:i≠6):yt m i= (m,(⟨#[63]⟩ :VU)):=by
 unfold yt
 split <;> first | rfl | (exfalso;omega)
theorem apc (h:hY m ⟨4,0,0,0,0,0⟩ =some n):wx m ⟨4,0,0,0,0,0⟩ =(n,eW n.dF):=by
 rw [wx,h]
 show (n,tb n 4)= _
 rw [tb,XX rfl]
theorem alC (h:u:=by
 rintro e aI ⟨⟨dQ,dY,dX,dW,dU,cq,cw,dR,ck,e0,cf,e1,ct,e2,cu,e3,cl,e4,y,rfl,fl,gN⟩,aQ⟩
 have vk:=I gN;clear gN;have iL:=ai tm aQ;have dB:=fk.o.ad aQ fk.o.lt;have dO:=I dB;have af:=dB.ca;have eO:=dB.hk;have jq:=dB.lt;clear dB
 go_wp2
 clear af eO jq
 refine hD 0 λcP aE=>?_
 have cp:=aE.jo dO.o;have hg:=(vk.o).hb dO.o aE.eC;have fg:=aE.aN iL;clear aE
 have z0:=cp.ca
 refine XY (v:= .tuple #[.agg #[ck dQ e0,cf dY e1,dX,dW,dU,ct cq e2,cu cw e3,cl dR e4,cV,cW,cU],y]) ZE rfl ?_
 exact⟨⟨dQ,dY,dX,dW,dU,cq,cw,dR,ck,e0,cf,e1,ct,e2,cu,e3,cl,e4,_,rfl,I (fl.o),hg⟩,fg⟩):u:=h
theorem awB (h:hL KL) {w:World} (qH:B<=w.heap.size) (aV:fu B w aq c0 au aw ak c2 al c3 aF c4 rs qs ws ae os):
 Rd 110 #[.agg #[aq rs c0,au qs aw,tu,se,sp,ak ws c2,al ae c3,aF os c4,cV,cW,cU],s] w λe ah=>IP B cV cW cU (yt KL (fA s)) e ah/\Below w w ah:=by
 have fP:=IZ s
 generalize fA s= i at *
 obtain⟨f0,f1,f2,f3,f4,f5,f6,-,-,-,-,-,-,-,-⟩:=fP
 have Z:=Og aV h;have aT:=uO h
 simp only at aT
 obtain⟨vz,iS,pr,tE,EH⟩:=aT
 have Ua:=I (λW (h1:aX 7 aM.cells W aq rs) (h2:aX 3 aZ.cells W au qs)=>aAm aq c0 rs Z.h0 au aw qs Z.h1 h.jn W h1 h2);have TR:=I (λW (h1:aX 7 aM.cells W aq rs) (h2:aX 3 aZ.cells W au qs)=>aiH aq c0 au aw ak c2 al c3 aF c4 rs qs tu se sp ws ae os KK Z.h1 h.jn W h1 h2);have rO:=I (λW (h1:aX 1 cE W ak ws) (h2:aX 3 aW.cells W al ae)=>aAr tu se sp ak c2 ws al c3 ae Z.h2 Z.h3 Z.n2 Z.n3 Z.cL h.hF W h1 h2)
 have lg:=JW.2 h;have BM:=I (λW (ez:eF W aq au ak al aF rs qs ws ae os)=>azA ⟨rs,qs,tu,se,sp,ws,ae,os⟩ aq au ak al aF c0 aw c2 c3 c4 Z.h0 Z.h1 Z.h2 Z.h3 Z.h4 W ez.fC ez.dM ez.r2 ez.gS ez.ll Z.ev Z.eU Z.cL Z.dS Z.hl)
 rw [lg,show rT ⟨rs,qs,tu,se,sp,ws,ae,os⟩ =mr os os.length by rw [rT,XX lg]] at BM
 have xT:(qs.map (nE rs)).length<=1000:=by rw [YZ];omega
 have PH:=I (show∀x ∈ qs.map (nE rs),x.size<=1000 from λx av=>by obtain⟨q,_,rfl⟩:=YP.1 av;have:=Sf (mS h.jn).1 q.rule;unfold nE;simp only at this;omega);have jm:=aFF (rs:=rs) (qs:=qs)
 have atB:((gD rs qs).map (mm rs)).length<=1000:=by rw [YZ];omega
 have tq:=I (show∀x ∈ (gD rs qs).map (mm rs),x.size<=1000 from λx av=>by obtain⟨q,_,rfl⟩:=YP.1 av;have:=Sf (mS h.jn).1 q;simp only at this;omega);have nr:=I (ajt h);have Bf:=Ky (di.hF ⟨rs,qs,tu,se,sp,ws,ae,os⟩);have qz:=I (ach h);have Wq:=Gh os os.length;have Az:Hid (yt ⟨rs,qs,tu,se,sp,ws,ae,os⟩ 3= (⟨rs,qs,tu,se,sp,ws,ae,os⟩,ny (qs.map (nE rs)))):=I rfl
 have AA:Hid (yt ⟨rs,qs,tu,se,sp,ws,ae,os⟩ 4= (⟨rs,qs,tu,se,sp,ws,ae,os⟩,ny ((gD rs qs).map (mm rs)))):=I rfl;have AB:Hid (yt ⟨rs,qs,tu,se,sp,ws,ae,os⟩ 5= (⟨rs,qs,tu,se,sp,ws,ae,os⟩,sb (mU ⟨tu,se,sp,ws,ae⟩))):=I rfl;have tr:Hid (yt ⟨rs,qs,tu,se,sp,ws,ae,os⟩ 6= (⟨rs,qs,tu,se,sp,ws,ae,os⟩,sb (mr os os.length))):=I rfl
 simp only [di.hF] at nr Bf
 simp only at qz BM
 generalize qs.map (nE rs)= vb at *
 generalize (gD rs qs).map (mm rs)= pI at *
 generalize mU ⟨tu,se,sp,ws,ae⟩ =aIi at *
 generalize mr os os.length= aIj at *
 have atC:aIi.length<=100:=KK
 have afi:aIj.length<=100:=KK
 replace h:=I h;replace aV:=I aV;clear Z lg jm Bf Wq vz iS pr tE EH
 go_in
 go_upto_region 1 with fail
 refine fU λaO ar aR J=>?_
 have U:=ar;have bE:=aR.ca;obtain⟨z0,bF,z2,z3,z4,z5,ek,ig,iE,z9,iD⟩:=J.ca;have Uw:=I J;have Uo:=I aR;have sS:=aR.lt
 have vJ:=J.lt;have abe:=I (aV.o.aK U);clear z0 bF z2 z3 z4 z5 ek ig iE z9 iD J aR aV
 go_upto_region 2 with fail
 obtain⟨jK,lg⟩ :∃b,b= aO.heap.size:=⟨_,rfl⟩
 refine Xi λbm bD aC=>?_;rw [<- lg] at aC
 rw [<- lg]
 have wX:jK≠w.heap.size + 1:=KK
 clear lg vJ;have tm:=ai U bD;have gI:=I (Uo.o.ad bD Uo.o.lt);have fk:=I (Uw.o.ad bD Uw.o.lt);have jT:=I (abe.o.aK bD);have wj:=I aC
 have AP:B<=bm.heap.size:=by have:=tm.size;omega
 replace sS:=gI.o.lt;have jm:=wj.o.lt;replace bE:=gI.o.ca;have dI:=wj.o.aH;clear Uo Uw abe aC bD
 by_cases h0:i= 0
 .subst h0
  simp only [Nat.reduceBEq] at f0 f1 f2 f3 f4 f5 f6
  clear dI jm
  go_wp2_with fail
  refine (Df h.o AP jT.o).mono ?_
  rintro e cO ⟨⟨dQ,dY,dX,dW,dU,cq,cw,dR,ck,e0,cf,e1,ct,e2,cu,e3,cl,e4,kO,rfl,fl,gN⟩,nh⟩
  have vk:=I gN;clear gN;have om:=ai tm nh;clear bE sS
  go_upto_region 5 with fail
  obtain⟨bK,lh⟩ :∃b,b= cO.heap.size:=⟨_,rfl⟩
  refine Xi λdk YH bU=>?_;have xM:=ai nh YH
  have vr:=ai om YH;have wu:=vk.o.aK YH
  rw [<- lh] at bU
  rw [<- lh]
  clear lh;have hn:=bU.ca;have aIh:=bU.lt;replace wu:=I wu;replace bU:=I bU;clear vk
  cases hm:hY ⟨rs,qs,tu,se,sp,ws,ae,os⟩ ⟨4,0,0,0,0,0⟩ with
  | none=>
   have e:=fl.o
   rw [qX,hm] at e
   have aby:Hid (yt ⟨rs,qs,tu,se,sp,ws,ae,os⟩ 0= (⟨dQ,dY,dX,dW,dU,cq,cw,dR⟩,(⟨#[63]⟩ :VU))):=I ((abY hm).trans (by injection e with e1 e2;rw [e1]))
   obtain rfl:(⟨#[63]⟩ :VU)= kO:=(Prod.mk.inj e).2
   clear e hm
   have bt:((⟨#[63]⟩ :VU).toList == [111,107])= false:=by decide +kernel
   have dB:=fk.o.ad xM fk.o.lt;have dO:=I dB;have af:=dB.ca;have eO:=dB.hk;have jq:=dB.lt;clear dB
   go_wp2
   clear af eO jq hn aIh bt
   refine hD 0 λcP aE=>?_
   have cp:=aE.jo dO.o;have hg:=(wu.o).hb dO.o aE.eC;have fg:=aE.aN vr;clear aE
   have z0:=cp.ca
   refine XY (v:= .tuple #[.agg #[ck dQ e0,cf dY e1,dX,dW,dU,ct cq e2,cu cw e3,cl dR e4,cV,cW,cU],.string (⟨#[63]⟩ :VU)]) ZE rfl ?_
   exact alA
  | some k=>
   have e:=fl.o
   rw [qX,hm] at e
   obtain rfl:(⟨#[111,107]⟩ :VU)= kO:=(Prod.mk.inj e).2
   have ax:=(Prod.mk.inj e).1
   rw [ax] at hm
   have kJ:-999999<=dU/\dU<=999999:=aha h.o hm;have KT:Hid (yt ⟨rs,qs,tu,se,sp,ws,ae,os⟩ 0= (⟨dQ,dY,dX,dW,dU,cq,cw,dR⟩,eW dU)):=I (apc hm)
   have bt:((⟨#[111,107]⟩ :VU).toList == [111,107])= true:=by decide +kernel
   clear e hm ax
   go_wp2_with fail
   refine (py dU KK KK _).mono ?_
   rintro e fS ⟨rfl,gv⟩
   have Wj:=ai xM gv;have ur:=ai vr gv;replace hn:=(bU.o.ad gv bU.o.lt).ca;replace aIh:=(bU.o.ad gv bU.o.lt).lt;have dB:=fk.o.ad Wj fk.o.lt;have dO:=I dB;have af:=dB.ca;have eO:=dB.hk;have jq:=dB.lt;clear dB
   go_wp2
   clear af eO jq hn aIh bt
   refine hD 0 λcP aE=>?_
   have cp:=aE.jo dO.o;have hg:=(wu.o.aK gv).hb dO.o aE.eC;have fg:=aE.aN ur;clear aE
   have z0:=cp.ca
   refine XY (v:= .tuple #[.agg #[ck dQ e0,cf dY e1,dX,dW,dU,ct cq e2,cu cw e3,cl dR e4,cV,cW,cU],.string (eW dU)]) ZE rfl ?_
   exact⟨⟨dQ,dY,dX,dW,dU,cq,cw,dR,ck,e0,cf,e1,ct,e2,cu,e3,cl,e4,_,rfl,I (KT.o),hg⟩,fg⟩
 by_cases h1:i= 1
 .subst h1
  simp only [Nat.reduceBEq] at f0 f1 f2 f3 f4 f5 f6
  clear dI jm
  go_wp2_with fail
  refine (Df h.o AP jT.o).mono ?_
  exact alC
 by_cases h2:i= 2
 .subst h2
  simp only [Nat.reduceBEq] at f0 f1 f2 f3 f4 f5 f6
  clear dI jm
  go_wp2_with fail
  refine (Df h.o AP jT.o).mono ?_
  exact alC
 by_cases h3:i= 3
 .subst h3
  simp only [Nat.reduceBEq] at f0 f1 f2 f3 f4 f5 f6
  go_wp2_with fail
  refine (Ua.o _ jT.o.rd.fC jT.o.rd.dM).mono ?_
  rintro e aI ⟨D,d,rfl,hM,aQ⟩
  have iL:=ai tm aQ;have jC:=I (jT.o.aK aQ);have kB:=I hM;clear hM dI jm
  go_upto_region 14 with fail
  have kh:=gI.o.ad aQ gI.o.lt
  obtain⟨dx,et⟩ :∃X:World->Prop,∀V,X V↔ay V w 46 #[aq rs c0,au qs aw,tu,se,sp,ak ws c2,al ae c3,aF os c4,cV,cW,cU]:=⟨_,λ_=>Xt⟩
  have cH:=I et;clear et
  haveI:Nonempty (cM dx):=⟨⟨aI,(cH.o _).2 kh⟩⟩
  refine nZ dx [([0,1],2),([],3)] [4] PV PV ((cH.o _).2 kh) ?_
  replace bE:=ay.pS (λK:cM dx=>(cH.o _).1 K.holds);have fO:Below w w aI.drew:=ai iL (Wt _ _).drew;have qJ:ay aI.drew w 46 #[aq rs c0,au qs aw,tu,se,sp,ak ws c2,al ae c3,aF os c4,cV,cW,cU]:=kh;have sG:=fk.o.ad aQ fk.o.lt
  have lG:Hid (ay aI.drew (w.heap.size + 1) 46 #[(),(),(0:Int),(0:Int),(0:Int),(),(),(),.string ⟨#[]⟩,.string ⟨#[]⟩,(0:Int)]):=I sG;have kf:=I (jC.o.aK (Wt _ _).drew);clear kh sG;have Ld:=I (kB.o.aK (Wt _ _).drew)
  generalize aI.drew= wd at *
  refine gA λff da=>?_
  refine YB ?_
  repeat go_big_quiet_step (fail)
  refine VF ?_
  refine XV ?_
  go_wp2_with fail
  refine (XQ D d vb xT PH.o _ (Ld.o.ej (hf:=jP))).mono ?_
  rintro e bw ⟨rfl,bG⟩
  have iw:=ai fO bG;have hA:=qJ.to bG
  go_wp2
  refine gb ((cH.o _).2 hA) (da _ _ ?_)
  refine gA λff da=>?_
  refine Xn ?_
  refine VF ?_
  refine XV ?_
  have dO:=I (lG.o.ad bG lG.o.lt);have af:=dO.o.ca;have eO:=dO.o.hk;have jq:=dO.o.lt
  go_wp2
  clear af eO jq
  refine hD 0 λcP aE=>?_
  have eT:=aE.dj (hA);have cp:=aE.jo dO.o;have hg:=(kf.o.aK bG).hb dO.o aE.eC;have fg:=aE.aN iw;clear aE
  refine gb ((cH.o _).2 eT) (da _ _ ?_)
  refine ky ?_
  refine Xp ?_
  repeat go_big_quiet_step (fail)
  refine VF ?_
  clear bE
  go_wp2
  have z0:=cp.ca
  refine XY (v:= .tuple #[.agg #[aq rs c0,au qs aw,tu,se,sp,ak ws c2,al ae c3,aF os c4,cV,cW,cU],.string (ny vb)]) ZE rfl ?_
  exact⟨⟨rs,qs,tu,se,sp,ws,ae,os,aq,c0,au,aw,ak,c2,al,c3,aF,c4,_,rfl,I (Az.o),hg⟩,fg⟩
 by_cases h4:i= 4
 .subst h4
  simp only [Nat.reduceBEq] at f0 f1 f2 f3 f4 f5 f6
  clear dI jm
  go_upto_region 16 with fail
  have kh:=And.intro wj.o gI.o
  obtain⟨dx,et⟩ :∃X:World->Prop,∀V,X V↔ay V jK 44 #[aq rs c0,au qs aw,tu,se,sp,ak ws c2,al ae c3,aF os c4]/\ay V w 46 #[aq rs c0,au qs aw,tu,se,sp,ak ws c2,al ae c3,aF os c4,cV,cW,cU]:=⟨_,λ_=>Xt⟩
  have cH:=I et;clear et
  haveI:Nonempty (cM dx):=⟨⟨bm,(cH.o _).2 kh⟩⟩
  refine nZ dx [([0,1],2),([],3),([],4)] [5] PV PV ((cH.o _).2 kh) ?_
  replace bE:=ay.pS (λK:cM dx=>((cH.o _).1 K.holds).2)
  have m0:=ay.qF (λK:cM dx=>((cH.o _).1 K.holds).1)
  have fO:Below w w bm.drew:=ai tm (Wt _ _).drew;have ase:ay bm.drew jK 44 #[aq rs c0,au qs aw,tu,se,sp,ak ws c2,al ae c3,aF os c4]:=kh.1;have qJ:ay bm.drew w 46 #[aq rs c0,au qs aw,tu,se,sp,ak ws c2,al ae c3,aF os c4,cV,cW,cU]:=kh.2
  have sG:=fk.o;have lG:Hid (ay bm.drew (w.heap.size + 1) 46 #[(),(),(0:Int),(0:Int),(0:Int),(),(),(),.string ⟨#[]⟩,.string ⟨#[]⟩,(0:Int)]):=I sG;have kf:=I (jT.o.aK (Wt _ _).drew);clear kh sG sS
  generalize bm.drew= wd at *
  refine gA λff da=>?_
  refine YB ?_
  repeat go_big_quiet_step (fail)
  refine VF ?_
  refine XV ?_
  go_wp2_with fail
  refine (TR.o _ kf.o.rd.fC kf.o.rd.dM).mono ?_
  rintro e aI ⟨D,d,rfl,hM,aQ⟩
  have iL:=ai fO aQ;have mv:=qJ.to aQ;have za:=ase.to aQ;have kB:=I hM;clear hM
  go_wp2
  refine gb ((cH.o _).2 ⟨za,mv⟩) (da _ _ ?_)
  refine gA λff da=>?_
  refine Xn ?_
  refine VF ?_
  refine XV ?_
  go_wp2_with fail
  refine (XQ D d pI atB tq.o _ (kB.o.ej (hf:=jP))).mono ?_
  rintro e bw ⟨rfl,bG⟩
  have iw:=ai iL bG;have hA:=mv.to bG;have aeb:=za.to bG;have aer:=ai aQ bG
  go_wp2
  refine gb ((cH.o _).2 ⟨aeb,hA⟩) (da _ _ ?_)
  refine gA λff da=>?_
  refine Xn ?_
  refine VF ?_
  refine XV ?_
  have dO:=I (lG.o.ad aer lG.o.lt);have af:=dO.o.ca;have eO:=dO.o.hk;have jq:=dO.o.lt
  go_wp2
  clear af eO jq
  refine hD 0 λcP aE=>?_
  have Gw:=aE.dj aeb wX;have eT:=aE.dj (hA);have cp:=aE.jo dO.o;have hg:=(kf.o.aK aer).hb dO.o aE.eC;have fg:=aE.aN iw;clear aE
  refine gb ((cH.o _).2 ⟨Gw,eT⟩) (da _ _ ?_)
  refine ky ?_
  refine Xp ?_
  repeat go_big_quiet_step (fail)
  refine VF ?_
  clear bE m0
  go_wp2
  have z0:=cp.ca
  refine XY (v:= .tuple #[.agg #[aq rs c0,au qs aw,tu,se,sp,ak ws c2,al ae c3,aF os c4,cV,cW,cU],.string (ny pI)]) ZE rfl ?_
  exact⟨⟨rs,qs,tu,se,sp,ws,ae,os,aq,c0,au,aw,ak,c2,al,c3,aF,c4,_,rfl,I (AA.o),hg⟩,fg⟩
 by_cases h5:i= 5
 .subst h5
  simp only [Nat.reduceBEq] at f0 f1 f2 f3 f4 f5 f6
  go_wp2_with fail
  refine (rO.o _ jT.o.rd.r2 jT.o.rd.gS).mono ?_
  rintro e aI ⟨D,d,rfl,hM,aQ⟩
  have iL:=ai tm aQ;have jC:=I (jT.o.aK aQ);have kB:=I hM;clear hM dI jm
  go_upto_region 19 with fail
  have kh:=gI.o.ad aQ gI.o.lt
  obtain⟨dx,et⟩ :∃X:World->Prop,∀V,X V↔ay V w 46 #[aq rs c0,au qs aw,tu,se,sp,ak ws c2,al ae c3,aF os c4,cV,cW,cU]:=⟨_,λ_=>Xt⟩
  have cH:=I et;clear et
  haveI:Nonempty (cM dx):=⟨⟨aI,(cH.o _).2 kh⟩⟩
  refine nZ dx [([0,1],2),([],3)] [4] PV PV ((cH.o _).2 kh) ?_
  replace bE:=ay.pS (λK:cM dx=>(cH.o _).1 K.holds);have fO:Below w w aI.drew:=ai iL (Wt _ _).drew;have qJ:ay aI.drew w 46 #[aq rs c0,au qs aw,tu,se,sp,ak ws c2,al ae c3,aF os c4,cV,cW,cU]:=kh;have sG:=fk.o.ad aQ fk.o.lt
  have lG:Hid (ay aI.drew (w.heap.size + 1) 46 #[(),(),(0:Int),(0:Int),(0:Int),(),(),(),.string ⟨#[]⟩,.string ⟨#[]⟩,(0:Int)]):=I sG;have kf:=I (jC.o.aK (Wt _ _).drew);clear kh sG;have Ld:=I (kB.o.aK (Wt _ _).drew)
  generalize aI.drew= wd at *
  refine gA λff da=>?_
  refine YB ?_
  repeat go_big_quiet_step (fail)
  refine VF ?_
  refine XV ?_
  go_wp2_with fail
  refine (agr D d aIi atC nr.o _ (Ld.o.ej (hf:=fR))).mono ?_
  rintro e bw ⟨rfl,bG⟩
  have iw:=ai fO bG;have hA:=qJ.to bG
  go_wp2
  refine gb ((cH.o _).2 hA) (da _ _ ?_)
  refine gA λff da=>?_
  refine Xn ?_
  refine VF ?_
  refine XV ?_
  have dO:=I (lG.o.ad bG lG.o.lt);have af:=dO.o.ca;have eO:=dO.o.hk;have jq:=dO.o.lt
  go_wp2
  clear af eO jq
  refine hD 0 λcP aE=>?_
  have eT:=aE.dj (hA);have cp:=aE.jo dO.o;have hg:=(kf.o.aK bG).hb dO.o aE.eC;have fg:=aE.aN iw;clear aE
  refine gb ((cH.o _).2 eT) (da _ _ ?_)
  refine ky ?_
  refine Xp ?_
  repeat go_big_quiet_step (fail)
  refine VF ?_
  clear bE
  go_wp2
  have z0:=cp.ca
  refine XY (v:= .tuple #[.agg #[aq rs c0,au qs aw,tu,se,sp,ak ws c2,al ae c3,aF os c4,cV,cW,cU],.string (sb aIi)]) ZE rfl ?_
  exact⟨⟨rs,qs,tu,se,sp,ws,ae,os,aq,c0,au,aw,ak,c2,al,c3,aF,c4,_,rfl,I (AB.o),hg⟩,fg⟩
 by_cases h6:i= 6
 .subst h6
  simp only [Nat.reduceBEq] at f0 f1 f2 f3 f4 f5 f6
  go_wp2_with fail
  refine (BM.o _ jT.o.rd).mono ?_
  rintro e aI ⟨D,d,rfl,hM,aQ⟩
  have iL:=ai tm aQ;have jC:=I (jT.o.aK aQ);have kB:=I hM;clear hM dI jm
  go_upto_region 22 with fail
  have kh:=gI.o.ad aQ gI.o.lt
  obtain⟨dx,et⟩ :∃X:World->Prop,∀V,X V↔ay V w 46 #[aq rs c0,au qs aw,tu,se,sp,ak ws c2,al ae c3,aF os c4,cV,cW,cU]:=⟨_,λ_=>Xt⟩
  have cH:=I et;clear et
  haveI:Nonempty (cM dx):=⟨⟨aI,(cH.o _).2 kh⟩⟩
  refine nZ dx [([0,1],2),([],3)] [4] PV PV ((cH.o _).2 kh) ?_
  replace bE:=ay.pS (λK:cM dx=>(cH.o _).1 K.holds);have fO:Below w w aI.drew:=ai iL (Wt _ _).drew;have qJ:ay aI.drew w 46 #[aq rs c0,au qs aw,tu,se,sp,ak ws c2,al ae c3,aF os c4,cV,cW,cU]:=kh;have sG:=fk.o.ad aQ fk.o.lt
  have lG:Hid (ay aI.drew (w.heap.size + 1) 46 #[(),(),(0:Int),(0:Int),(0:Int),(),(),(),.string ⟨#[]⟩,.string ⟨#[]⟩,(0:Int)]):=I sG;have kf:=I (jC.o.aK (Wt _ _).drew);clear kh sG;have Ld:=I (kB.o.aK (Wt _ _).drew)
  generalize aI.drew= wd at *
  refine gA λff da=>?_
  refine YB ?_
  repeat go_big_quiet_step (fail)
  refine VF ?_
  refine XV ?_
  go_wp2_with fail
  refine (agr D d aIj afi qz.o _ (Ld.o.ej (hf:=fR))).mono ?_
  rintro e bw ⟨rfl,bG⟩
  have iw:=ai fO bG;have hA:=qJ.to bG
  go_wp2
  refine gb ((cH.o _).2 hA) (da _ _ ?_)
  refine gA λff da=>?_
  refine Xn ?_
  refine VF ?_
  refine XV ?_
  have dO:=I (lG.o.ad bG lG.o.lt);have af:=dO.o.ca;have eO:=dO.o.hk;have jq:=dO.o.lt
  go_wp2
  clear af eO jq
  refine hD 0 λcP aE=>?_
  have eT:=aE.dj (hA);have cp:=aE.jo dO.o;have hg:=(kf.o.aK bG).hb dO.o aE.eC;have fg:=aE.aN iw;clear aE
  refine gb ((cH.o _).2 eT) (da _ _ ?_)
  refine ky ?_
  refine Xp ?_
  repeat go_big_quiet_step (fail)
  refine VF ?_
  clear bE
  go_wp2
  have z0:=cp.ca
  refine XY (v:= .tuple #[.agg #[aq rs c0,au qs aw,tu,se,sp,ak ws c2,al ae c3,aF os c4,cV,cW,cU],.string (sb aIj)]) ZE rfl ?_
  exact⟨⟨rs,qs,tu,se,sp,ws,ae,os,aq,c0,au,aw,ak,c2,al,c3,aF,c4,_,rfl,I (tr.o),hg⟩,fg⟩
 have abw:=I (ajX ⟨rs,qs,tu,se,sp,ws,ae,os⟩ i h0 h1 h2 h3 h4 h5 h6);have f0:=f0.trans (Xb.2 h0);have f1:=f1.trans (Xb.2 h1);have f2:=f2.trans (Xb.2 h2);have f3:=f3.trans (Xb.2 h3);have f4:=f4.trans (Xb.2 h4);have f5:=f5.trans (Xb.2 h5);have f6:=f6.trans (Xb.2 h6)
 clear dI jm;have dB:=fk.o.ad (Wt _ _) fk.o.lt;have dO:=I dB;have af:=dB.ca;have eO:=dB.hk;have jq:=dB.lt;clear dB
 go_wp2
 clear af eO jq
 refine hD 0 λcP aE=>?_
 have cp:=aE.jo dO.o;have hg:=(jT.o).hb dO.o aE.eC;have fg:=aE.aN tm;clear aE
 have z0:=cp.ca
 refine XY (v:= .tuple #[.agg #[aq rs c0,au qs aw,tu,se,sp,ak ws c2,al ae c3,aF os c4,cV,cW,cU],.string (⟨#[63]⟩ :VU)]) ZE rfl ?_
 exact alG
end Go.Proofs.YtlaaemmmbodaaaaGreatDoor
