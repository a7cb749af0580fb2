/- Parts. -/
import Derived.Test.YtlaaemmmbodaaaaGreatDoorRs11
import Derived.Deep.RegionHeld3
import Derived.Test.YtlaaemmmbodaaaaGreatDoorRows
import Derived.Deep.DeepHandedRow
import Derived.Lib.LaidTab
import Derived.OpenVars
import Derived.Test.YtlaaemmmbodaaaaGreatDoorCards
import Derived.Test.YtlaaemmmbodaaaaGreatDoorTie
import Derived.ChangeMaps5
import Derived.Deep.DeepWitnessRowRef
import Derived.Lay
import Derived.Shelf.Vars
import Derived.Stop.LaidErr
set_option maxHeartbeats 16000000
set_option maxRecDepth 100000
set_option linter.unnecessarySimpa false
set_option linter.unusedSimpArgs false
set_option linter.unusedVariables false
namespace Go.Proofs.YtlaaemmmbodaaaaGreatDoor
open Go.RowKit Go.G9
theorem acS {p:Prop} (h:p:=by
 have z0:=bT.bQ
 refine bodyPost_ret (v:= .tuple #[.agg #[.slice cI dn e0,.slice cC dB e1,dO,dN,dG,.slice cV bX e2,.slice cW cc e3,.slice cL dm e4,ct,cu,cr],mQ]) (by simp [results,Tryz.results61,go_sem,z0]) rfl ?_
 exact⟨⟨dn,dB,dO,dN,dG,bX,cc,dm,cI,e0,cC,e1,cV,e2,cW,e3,cL,e4,_,rfl,J (nz.out.trans da.out),fE⟩,eE⟩):p:=h
theorem acR {p:Prop} (h:p:=by
 clear aD
 have z0:=bT.bQ
 refine bodyPost_ret (v:= .tuple #[.agg #[.slice an rs c0,.slice ar qs au,ag,af,sp,.slice ak ws c2,.slice al ad c3,.slice aA os c4,ct,cu,cr],.string (⟨#[63]⟩ :ByteArray)]) (by simp [results,Tryz.results61,go_sem,z0]) rfl ?_
 exact⟨⟨rs,qs,ag,af,sp,ws,ad,os,an,c0,ar,au,ak,c2,al,c3,aA,c4,_,rfl,J (nz.out),fE⟩,eE⟩):p:=h
theorem adz {p:Prop} (h:p:=by
 rintro e dE ⟨⟨dn,dB,dO,dN,dG,bX,cc,dm,cI,e0,cC,e1,cV,e2,cW,e3,cL,e4,mQ,rfl,da,jy⟩,ek⟩
 have mq:=J jy;clear jy;have lO:=ai gL ek;have kQ:=nX.to ek;have km:=(ek.cell (p:=⟨ly,_,none⟩) GK).trans dP
 go_wp2
 refine hh ((db.out _).2 ⟨km,kQ⟩) (dX _ _ ?_)
 refine gZ fun gr dX=>?_
 change wpQuiet _ _ _ _ (_ ::_ ::[]) _
 repeat (go_big_quiet_step (fail))
 refine wpQuiet_nil ?_
 change wpList _ _ _ (_ ::[]) _ _
 have dq:=J (lZ.out.U ek lZ.out.lt);have aq:=dq.out.bQ;have eM:=dq.out.gS;have hp:=dq.out.lt
 go_wp2
 clear aq eM hp
 refine hE 0 fun cQ aD=>?_
 have ec:=aD.dJ kQ;have bT:=aD.hV dq.out;have fE:=mq.out.gw dq.out aD.fG;have eE:=aD.aG lO;have CR:=aD.fG.cell km (by simpa using yv.out)
 clear aD
 refine hh ((db.out _).2 ⟨CR,ec⟩) (dX _ _ ?_)
 refine mg ?_
 change wpQuiet _ _ _ _ (_ ::[]) _
 repeat (go_big_quiet_step (fail))
 refine wpQuiet_nil ?_
 clear dj dY dV er eA fJ fK fL fM fN fI u0
 go_wp2
 have z0:=bT.bQ
 refine bodyPost_ret (v:= .tuple #[.agg #[.slice cI dn e0,.slice cC dB e1,dO,dN,dG,.slice cV bX e2,.slice cW cc e3,.slice cL dm e4,ct,cu,cr],mQ]) (by simp [results,Tryz.results61,go_sem,z0]) rfl ?_
 exact⟨⟨dn,dB,dO,dN,dG,bX,cc,dm,cI,e0,cC,e1,cV,e2,cW,e3,cL,e4,_,rfl,J (nz.out.trans da.out),fE⟩,eE⟩):p:=h
theorem acE {p:Prop} (h:p:=by
 have cM:=ev.out.U jr ev.out.lt;have dq:=J cM;have aq:=cM.bQ;have eM:=cM.gS;have hp:=cM.lt;clear cM
 go_wp2
 clear aq eM hp bG g0
 refine hE 0 fun cQ aD=>?_
 have bT:=aD.hV dq.out;have fE:=(hs.out).gw dq.out aD.fG;have eE:=aD.aG hS;clear aD
 have z0:=bT.bQ
 refine bodyPost_ret (v:= .tuple #[.agg #[.slice an rs c0,.slice ar qs au,ag,af,sp,.slice ak ws c2,.slice al ad c3,.slice aA os c4,ct,cu,cr],.string (⟨#[63]⟩ :ByteArray)]) (by simp [results,Tryz.results61,go_sem,z0]) rfl ?_
 exact⟨⟨rs,qs,ag,af,sp,ws,ad,os,an,c0,ar,au,ak,c2,al,c3,aA,c4,_,rfl,J (nz.out),fE⟩,eE⟩):p:=h
theorem amn (B:Nat) (an ar ak al aA:Option Addr) (c0 au c2 c3 c4:Nat) (rs:List aM) (qs:List aN) (ag af sp:Int) (ws:List Int) (ad:List aK) (os:List Out) (ct cu:ByteArray) (cr:Int) (h:gP ⟨rs,qs,ag,af,sp,ws,ad,os⟩) (l:ByteArray) (aT:l.size≤1000) (w:World) (nV:B≤w.heap.size) (bR:gi B w an c0 ar au ak c2 al c3 aA c4 rs qs ws ad os):
 Calls Tryz.prog 61 #[.agg #[.slice an rs c0,.slice ar qs au,ag,af,sp,.slice ak ws c2,.slice al ad c3,.slice aA os c4,ct,cu,cr],l] w fun e ah=>BS B ct cu cr (jq ⟨rs,qs,ag,af,sp,ws,ad,os⟩ (gO 32 l)) e ah∧Below w w ah:=by
 have yy:=J (fun W=>Xl l 32 (by omega) W);have tX:=J (show∀x ∈ gO 32 l,x.size≤1048576 from fun x ay=>by have:=KK ay;omega);have kZ:=J (KL 32 l);have BH:=J (show∀a,gO 32 l= [a]→a= l from fun a h=>aqN h);have aui:=ZR 32 l
 generalize gO 32 l= vs at *
 have iu:=J h;have dp:=J bR;clear h bR
 go_in
 go_upto_region 1 with fail
 refine fp fun aH av aO ae=>?_
 have I:=av
 obtain⟨dj,dY,dV,er,eA,fJ,fK,fL,fM,fN,fI⟩:=aO.bQ
 obtain⟨z0,ch,z2,z3,z4,z5,fl,iH,iQ,z9,iP⟩:=ae.bQ;have ev:=J ae;have fu:=J aO;have qj:=aO.lt
 have sD:=ae.lt;have iS:=J (dp.out.bh I);clear z0 ch z2 z3 z4 z5 fl iH iQ z9 iP ae aO dp dj dY dV er eA fJ fK fL fM fN fI qj
 go_wp2_with fail
 refine (yy.out _).mono ?_
 rintro e aQ ⟨A,n,rfl,oT,jr⟩
 have hS:=ai I jr
 have vV:B≤aQ.heap.size:=by have:=hS.size;omega
 have hs:=J (iS.out.bh jr);have vN:=J (fu.out.U jr fu.out.lt);have IA:=J (ev.out.U jr ev.out.lt);have bG:=vN.out.bQ;have ve:=vN.out.lt;have we:0 < vs.length:=List.length_pos_iff.2 kZ.out;have sv:=rP oT jM
 obtain⟨ly,wo,a,rfl,pc,cX,Vn⟩:=(oT.fk (hf:=jM)).at_ (Below.refl _ _) (k:=0) we
 have g0:=Vn 0 _ rfl (aB.self _)
 simp only [Nat.zero_mul,Nat.add_zero,aB.self] at g0
 have yv:=J (show ly≠w.heap.size + 1 by have:=(oT.lt ly (Yn oT we)).1;omega);have gx:=J (oT.fk (hf:=jM));have cD:=Cb a
 obtain⟨-,-,-,-,-,-,-,-,-,-,-,-,-,f13,f14⟩:=cD
 clear Vn oT sD
 go_upto_region 2 with fail
 rcases ahF kZ.out with ⟨a',e⟩ | ⟨a',b,e⟩ | ⟨a',b,c,e⟩ | ⟨a',b,c,d,e⟩ | ⟨a',r,e,bz⟩
 ·skip
  obtain rfl:a= a':=by rw [e] at cX;exact (Option.some.inj cX).symm
  have nz:=J (show jq ⟨rs,qs,ag,af,sp,ws,ad,os⟩ vs= tK ⟨rs,qs,ag,af,sp,ws,ad,os⟩ (eG a) by rw [e];exact ahc _ _)
  have hlen:vs.length= 1:=by rw [e];rfl
  obtain rfl:a= l:=BH.out a e
  clear kZ BH tX yy e cX we
  rw [hlen]
  rw [hlen] at sv
  clear f13 f14 sv
  go_wp2_with fail
  refine (amq B an ar ak al aA c0 au c2 c3 c4 rs qs ag af sp ws ad os ct cu cr iu.out a _ vV hs.out).mono ?_
  rintro e dE ⟨⟨dn,dB,dO,dN,dG,bX,cc,dm,cI,e0,cC,e1,cV,e2,cW,e3,cL,e4,mQ,rfl,da,jy⟩,ek⟩
  have mq:=J jy;clear jy;have kQ:=ai jr ek;have lO:=ai hS ek;have cM:=ev.out.U kQ ev.out.lt;have dq:=J cM;have aq:=cM.bQ;have eM:=cM.gS;have hp:=cM.lt;clear cM
  go_wp2
  clear aq eM hp bG g0
  refine hE 0 fun cQ aD=>?_
  have bT:=aD.hV dq.out;have fE:=(mq.out).gw dq.out aD.fG;have eE:=aD.aG lO;clear aD
  exact acS
 ·skip
  obtain rfl:a= a':=by rw [e] at cX;exact (Option.some.inj cX).symm
  have nz:=J (show jq ⟨rs,qs,ag,af,sp,ws,ad,os⟩ vs= if fh b then sH ⟨rs,qs,ag,af,sp,ws,ad,os⟩ (eG a) (hg b.data.toList) else (⟨rs,qs,ag,af,sp,ws,ad,os⟩,(⟨#[63]⟩ :ByteArray)) by rw [e];exact ahd _ _ _)
  have hlen:vs.length= 2:=by rw [e];rfl
  have Gi:=tX.out b (by rw [e];simp)
  obtain⟨ds,hO,a1,e1,-,Ak,gM⟩:=gx.out.at_ (Below.refl _ _) (k:=1) (by rw [hlen];decide)
  cases e1
  obtain rfl:b= a1:=by rw [e] at Ak;exact Option.some.inj Ak
  have g1:=gM 0 _ rfl (aB.self _)
  simp only [Nat.mul_one,Nat.add_zero,aB.self] at g1
  clear gM Ak;clear kZ BH tX yy e cX we
  rw [hlen]
  rw [hlen] at sv
  obtain⟨v,jj,xD,zd,ajY⟩:=Hx b
  have El:=J (fun W=>HG b Gi v jj zd W)
  rw [xD] at nz
  generalize (eG a == 13)= Bi at *
  go_upto_region 4 with fail
  go_cut [20] (fun v W=>v= .bool false∧aQ= W)
  case first=>
   cases Bi
   all_goals
    go_wp2
    go_meet
    exact⟨rfl,rfl⟩
  case' rest=>
   obtain⟨rfl,vd⟩:=hcut
   subst vd
  generalize (eG a == 14)= sJ at *
  go_upto_region 6 with fail
  go_cut [40] (fun v W=>v= .bool false∧aQ= W)
  case first=>
   cases sJ
   all_goals
    go_wp2
    go_meet
    exact⟨rfl,rfl⟩
  case' rest=>
   obtain⟨rfl,vd⟩:=hcut
   subst vd
  go_wp2_with fail
  refine (El.out _).mono ?_
  rintro e bA ⟨rfl,bC⟩
  have hB:=ai hS bC;have fQ:=ai jr bC;have jV:=J (hs.out.bh bC);have Eu:=J (vN.out.U bC vN.out.lt);have afm:=J (IA.out.U bC IA.out.lt);have h0:=(bC.cell (p:=⟨ly,_,none⟩) pc).trans g0;clear g0 g1 bG ve;have bG:=Eu.out.bQ;have ve:=Eu.out.lt;have g0:=h0;replace pc:ly < bA.heap.size:=Nat.lt_of_lt_of_le pc bC.size;clear h0
  cases jj
  ·skip
   have cM:=ev.out.U fQ ev.out.lt;have dq:=J cM;have aq:=cM.bQ;have eM:=cM.gS;have hp:=cM.lt;clear cM
   go_wp2
   clear aq eM hp bG g0
   refine hE 0 fun cQ aD=>?_
   have bT:=aD.hV dq.out;have fE:=(jV.out).gw dq.out aD.fG;have eE:=aD.aG hB
   exact acR
  ·obtain rfl:=ajY rfl
   go_upto_region 13 with fail
   obtain⟨eL,gB⟩ :∃X:World→Prop,∀V,X V↔V.cell? ⟨ly,wo,none⟩ =some (.string a)∧aC V (w.heap.size) 46 #[.slice an rs c0,.slice ar qs au,ag,af,sp,.slice ak ws c2,.slice al ad c3,.slice aA os c4,ct,cu,cr]:=⟨_,fun _=>Iff.rfl⟩
   have db:=J gB;clear gB;have ix:=(db.out bA).2 ⟨g0,Eu.out⟩
   haveI:Nonempty (cP eL):=⟨⟨bA,ix⟩⟩
   refine oP eL [([0,1,2,3,4],5),([6,7],8)] [9] (by kernel_rfl) (by kernel_rfl) ((db.out _).2 ⟨g0,Eu.out⟩) ?_
   clear bG ve
   obtain⟨dj,dY,dV,er,eA,fJ,fK,fL,fM,fN,fI⟩:=aC.ru (fun K:cP eL=>((db.out _).1 K.holds).2)
   have u0:=fun K:cP eL=>((db.out _).1 K.holds).1
   have gL:Below w w bA.drew:=ai hB (Below.refl _ _).drew;have Ly:=(Below.refl bA.heap.size bA).drew;have dP:bA.drew.cell? ⟨ly,wo,none⟩ =some (.string a):=g0;clear g0;have yR:=Eu.out;have nX:aC bA.drew (w.heap.size) 46 #[.slice an rs c0,.slice ar qs au,ag,af,sp,.slice ak ws c2,.slice al ad c3,.slice aA os c4,ct,cu,cr]:=yR
   have yT:=afm.out;have lZ:Hid (aC bA.drew (w.heap.size + 1) 46 #[.slice none 0 0,.slice none 0 0,(0:Int),(0:Int),(0:Int),.slice none 0 0,.slice none 0 0,.slice none 0 0,.string ⟨#[]⟩,.string ⟨#[]⟩,(0:Int)]):=J yT;have oA:=J (jV.out.bh (Below.refl _ _).drew);have GK:ly < bA.drew.heap.size:=pc;clear yR yT pc ix
   generalize bA.drew= wd at *
   refine gZ fun gr dX=>?_
   change wpQuiet _ _ _ _ (_ ::_ ::_ ::_ ::_ ::[]) _
   repeat (go_big_quiet_step (fail))
   refine wpQuiet_nil ?_
   change wpList _ _ _ (_ ::[]) _ _
   go_wp2_with fail
   refine (amm B an ar ak al aA c0 au c2 c3 c4 rs qs ag af sp ws ad os ct cu cr iu.out a _ _ (by have:=gL.size;omega) oA.out).mono ?_
   exact adz
 ·skip
  obtain rfl:a= a':=by rw [e] at cX;exact (Option.some.inj cX).symm
  have nz:=J (show jq ⟨rs,qs,ag,af,sp,ws,ad,os⟩ vs= if (eG a == 13) then Dd ⟨rs,qs,ag,af,sp,ws,ad,os⟩ b c else (⟨rs,qs,ag,af,sp,ws,ad,os⟩,(⟨#[63]⟩ :ByteArray)) by rw [e,ahe];simp only [beq_iff_eq])
  have hlen:vs.length= 3:=by rw [e];rfl
  have Gi:=tX.out b (by rw [e];simp);have qg:=tX.out c (by rw [e];simp)
  obtain⟨ds,hO,a1,e1,-,Ak,gM⟩:=gx.out.at_ (Below.refl _ _) (k:=1) (by rw [hlen];decide)
  cases e1
  obtain rfl:b= a1:=by rw [e] at Ak;exact Option.some.inj Ak
  have g1:=gM 0 _ rfl (aB.self _)
  simp only [Nat.mul_one,Nat.add_zero,aB.self] at g1
  clear gM Ak
  obtain⟨du,fg,a2,e2,-,NO,jt⟩:=gx.out.at_ (Below.refl _ _) (k:=2) (by rw [hlen];decide)
  cases e2
  obtain rfl:c= a2:=by rw [e] at NO;exact Option.some.inj NO
  have g2:=jt 0 _ rfl (aB.self _)
  simp only [Nat.mul_one,Nat.add_zero,aB.self] at g2
  clear jt NO;clear kZ BH tX yy e cX we
  rw [hlen]
  rw [hlen] at sv
  generalize (eG a == 13)= Bi at *
  go_upto_region 4 with fail
  cases Bi
  ·skip
   generalize (eG a == 14)= sJ at *
   go_upto_region 6 with fail
   go_cut [40] (fun v W=>v= .bool false∧aQ= W)
   case first=>
    cases sJ
    all_goals
     go_wp2
     go_meet
     exact⟨rfl,rfl⟩
   case' rest=>
    obtain⟨rfl,vd⟩:=hcut
    subst vd
   have cM:=ev.out.U jr ev.out.lt;have dq:=J cM;have aq:=cM.bQ;have eM:=cM.gS;have hp:=cM.lt;clear cM
   go_wp2
   clear aq eM hp bG g0 g1 g2
   refine hE 0 fun cQ aD=>?_
   have bT:=aD.hV dq.out;have fE:=(hs.out).gw dq.out aD.fG;have eE:=aD.aG hS
   exact acR
  ·go_upto_region 5 with fail
   clear g0
   obtain⟨eL,gB⟩ :∃X:World→Prop,∀V,X V↔V.cell? ⟨ly,wo + 1,none⟩ =some (.string b)∧V.cell? ⟨ly,wo + 2,none⟩ =some (.string c)∧aC V (w.heap.size) 46 #[.slice an rs c0,.slice ar qs au,ag,af,sp,.slice ak ws c2,.slice al ad c3,.slice aA os c4,ct,cu,cr]:=⟨_,fun _=>Iff.rfl⟩
   have db:=J gB;clear gB;have ix:=(db.out aQ).2 ⟨g1,g2,vN.out⟩
   haveI:Nonempty (cP eL):=⟨⟨aQ,ix⟩⟩
   refine oP eL [([0,1,2,3,4,5,6],7),([8,9],10)] [11] (by kernel_rfl) (by kernel_rfl) ((db.out _).2 ⟨g1,g2,vN.out⟩) ?_
   clear bG ve
   obtain⟨dj,dY,dV,er,eA,fJ,fK,fL,fM,fN,fI⟩:=aC.ru (fun K:cP eL=>((db.out _).1 K.holds).2.2)
   have u0:=fun K:cP eL=>((db.out _).1 K.holds).1
   have u1:=fun K:cP eL=>((db.out _).1 K.holds).2.1
   have gL:Below w w aQ.drew:=ai hS (Below.refl _ _).drew;have Ly:=(Below.refl aQ.heap.size aQ).drew;have dP:aQ.drew.cell? ⟨ly,wo + 1,none⟩ =some (.string b):=g1;have eh:aQ.drew.cell? ⟨ly,wo + 2,none⟩ =some (.string c):=g2;clear g1 g2;have yR:=vN.out;have nX:aC aQ.drew (w.heap.size) 46 #[.slice an rs c0,.slice ar qs au,ag,af,sp,.slice ak ws c2,.slice al ad c3,.slice aA os c4,ct,cu,cr]:=yR
   have yT:=IA.out;have lZ:Hid (aC aQ.drew (w.heap.size + 1) 46 #[.slice none 0 0,.slice none 0 0,(0:Int),(0:Int),(0:Int),.slice none 0 0,.slice none 0 0,.slice none 0 0,.string ⟨#[]⟩,.string ⟨#[]⟩,(0:Int)]):=J yT;have oA:=J (hs.out.bh (Below.refl _ _).drew);have GK:ly < aQ.drew.heap.size:=pc;clear yR yT pc ix
   generalize aQ.drew= wd at *
   refine gZ fun gr dX=>?_
   change wpQuiet _ _ _ _ (_ ::_ ::_ ::_ ::_ ::_ ::_ ::[]) _
   repeat (go_big_quiet_step (fail))
   refine wpQuiet_nil ?_
   change wpList _ _ _ (_ ::[]) _ _
   go_wp2_with fail
   refine (aml B an ar ak al aA c0 au c2 c3 c4 rs qs ag af sp ws ad os ct cu cr iu.out b c qg _ (by have:=gL.size;omega) oA.out).mono ?_
   rintro e dE ⟨⟨dn,dB,dO,dN,dG,bX,cc,dm,cI,e0,cC,e1,cV,e2,cW,e3,cL,e4,mQ,rfl,da,jy⟩,ek⟩
   have mq:=J jy;clear jy;have lO:=ai gL ek;have kQ:=nX.to ek;have km:=(ek.cell (p:=⟨ly,_,none⟩) GK).trans dP;have jR:=(ek.cell (p:=⟨ly,_,none⟩) GK).trans eh
   go_wp2
   refine hh ((db.out _).2 ⟨km,jR,kQ⟩) (dX _ _ ?_)
   refine gZ fun gr dX=>?_
   change wpQuiet _ _ _ _ (_ ::_ ::[]) _
   repeat (go_big_quiet_step (fail))
   refine wpQuiet_nil ?_
   change wpList _ _ _ (_ ::[]) _ _
   have dq:=J (lZ.out.U ek lZ.out.lt);have aq:=dq.out.bQ;have eM:=dq.out.gS;have hp:=dq.out.lt
   go_wp2
   clear aq eM hp
   refine hE 0 fun cQ aD=>?_
   have ec:=aD.dJ kQ;have bT:=aD.hV dq.out;have fE:=mq.out.gw dq.out aD.fG;have eE:=aD.aG lO;have CR:=aD.fG.cell km (by simpa using yv.out)
   have alV:=aD.fG.cell jR (by simpa using yv.out);clear aD
   refine hh ((db.out _).2 ⟨CR,alV,ec⟩) (dX _ _ ?_)
   refine mg ?_
   change wpQuiet _ _ _ _ (_ ::[]) _
   repeat (go_big_quiet_step (fail))
   refine wpQuiet_nil ?_
   clear dj dY dV er eA fJ fK fL fM fN fI u0 u1
   go_wp2
   exact acS
 ·skip
  obtain rfl:a= a':=by rw [e] at cX;exact (Option.some.inj cX).symm
  have nz:=J (show jq ⟨rs,qs,ag,af,sp,ws,ad,os⟩ vs= if (eG a == 14) then Bs ⟨rs,qs,ag,af,sp,ws,ad,os⟩ b c d else (⟨rs,qs,ag,af,sp,ws,ad,os⟩,(⟨#[63]⟩ :ByteArray)) by rw [e,ahf];simp only [beq_iff_eq])
  have hlen:vs.length= 4:=by rw [e];rfl
  have Gi:=tX.out b (by rw [e];simp);have qg:=tX.out c (by rw [e];simp);have sw:=tX.out d (by rw [e];simp);have Mm:=gx.out
  rw [e] at Mm
  have afv:=J (HB Mm 1);clear Mm;clear kZ BH tX yy e cX we
  rw [hlen]
  rw [hlen] at sv
  generalize (eG a == 14)= sJ at *
  generalize (eG a == 13)= Bi at *
  go_upto_region 4 with fail
  go_cut [20] (fun v W=>v= .bool false∧aQ= W)
  case first=>
   cases Bi
   all_goals
    go_wp2
    go_meet
    exact⟨rfl,rfl⟩
  case' rest=>
   obtain⟨rfl,vd⟩:=hcut
   subst vd
  go_upto_region 6 with fail
  cases sJ
  ·skip
   exact acE
  ·go_upto_region 7 with fail
   obtain⟨eL,gB⟩ :∃X:World→Prop,∀V,X V↔V.cell? ⟨ly,wo,none⟩ =some (.string a)∧aC V (w.heap.size) 46 #[.slice an rs c0,.slice ar qs au,ag,af,sp,.slice ak ws c2,.slice al ad c3,.slice aA os c4,ct,cu,cr]:=⟨_,fun _=>Iff.rfl⟩
   have db:=J gB;clear gB;have ix:=(db.out aQ).2 ⟨g0,vN.out⟩
   haveI:Nonempty (cP eL):=⟨⟨aQ,ix⟩⟩
   refine oP eL [([0,1,2],3),([4,5],6)] [7] (by kernel_rfl) (by kernel_rfl) ((db.out _).2 ⟨g0,vN.out⟩) ?_
   clear bG ve
   obtain⟨dj,dY,dV,er,eA,fJ,fK,fL,fM,fN,fI⟩:=aC.ru (fun K:cP eL=>((db.out _).1 K.holds).2)
   have u0:=fun K:cP eL=>((db.out _).1 K.holds).1
   have gL:Below w w aQ.drew:=ai hS (Below.refl _ _).drew;have Ly:=(Below.refl aQ.heap.size aQ).drew;have dP:aQ.drew.cell? ⟨ly,wo,none⟩ =some (.string a):=g0;clear g0;have yR:=vN.out;have nX:aC aQ.drew (w.heap.size) 46 #[.slice an rs c0,.slice ar qs au,ag,af,sp,.slice ak ws c2,.slice al ad c3,.slice aA os c4,ct,cu,cr]:=yR
   have yT:=IA.out;have lZ:Hid (aC aQ.drew (w.heap.size + 1) 46 #[.slice none 0 0,.slice none 0 0,(0:Int),(0:Int),(0:Int),.slice none 0 0,.slice none 0 0,.slice none 0 0,.string ⟨#[]⟩,.string ⟨#[]⟩,(0:Int)]):=J yT;have oA:=J (hs.out.bh (Below.refl _ _).drew);have GK:ly < aQ.drew.heap.size:=pc;clear yR yT pc ix
   generalize aQ.drew= wd at *
   refine gZ fun gr dX=>?_
   change wpQuiet _ _ _ _ (_ ::_ ::_ ::[]) _
   repeat (go_big_quiet_step (fail))
   refine wpQuiet_nil ?_
   change wpList _ _ _ (_ ::[]) _ _
   go_wp2_with fail
   refine (amo B an ar ak al aA c0 au c2 c3 c4 rs qs ag af sp ws ad os ct cu cr iu.out (some ⟨ly,wo + 1,none⟩) _ b c d Gi qg sw _ (by have:=gL.size;omega) oA.out (afv.out.U (show Below aQ aQ wd from Ly))).mono ?_
   exact adz
 ·skip
  obtain rfl:a= a':=by rw [e] at cX;exact (Option.some.inj cX).symm
  have nz:=J (show jq ⟨rs,qs,ag,af,sp,ws,ad,os⟩ vs= (⟨rs,qs,ag,af,sp,ws,ad,os⟩,(⟨#[63]⟩ :ByteArray)) by rw [e];exact ahg _ _ _ bz)
  have hlen:vs.length= r.length + 1:=by rw [e];rfl
  clear kZ BH tX yy e cX we
  obtain⟨Km,ajx⟩ :∃k,vs.length= k:=⟨_,rfl⟩
  rw [ajx]
  have h1:((Km:Int) == 1)= false:=by rw [beq_eq_false_iff_ne];omega
  have h2:((Km:Int) == 3)= false:=by rw [beq_eq_false_iff_ne];omega
  have h3:((Km:Int) == 4)= false:=by rw [beq_eq_false_iff_ne];omega
  have h4:((Km:Int) != 2)= true:=by rw [bne_iff_ne];omega
  generalize (eG a == 13)= Bi at *
  go_upto_region 4 with fail
  go_cut [20] (fun v W=>v= .bool false∧aQ= W)
  case first=>
   cases Bi
   all_goals
    go_wp2
    go_meet
    exact⟨rfl,rfl⟩
  case' rest=>
   obtain⟨rfl,vd⟩:=hcut
   subst vd
  generalize (eG a == 14)= sJ at *
  go_upto_region 6 with fail
  go_cut [40] (fun v W=>v= .bool false∧aQ= W)
  case first=>
   cases sJ
   all_goals
    go_wp2
    go_meet
    exact⟨rfl,rfl⟩
  case' rest=>
   obtain⟨rfl,vd⟩:=hcut
   subst vd
  exact acE
open Go.RowKit Go.G9
theorem apE (an ar ak al aA:Option Addr) (c0 au c2 c3 c4:Nat) (rs:List aM) (qs:List aN) (ag af sp:Int) (ws:List Int) (ad:List aK) (os:List Out) (ct cu:ByteArray) (cr:Int) (Z:ed an ar ak al aA c0 au c2 c3 c4 rs qs ws ad os) (cb:ct.size + cu.size≤1048576) (l:ByteArray) (aT:l.size≤1048576) (w:World) (R:dL w an ar ak al aA rs qs ws ad os):
 Calls Tryz.prog 19 #[.agg #[.slice an rs c0,.slice ar qs au,ag,af,sp,.slice ak ws c2,.slice al ad c3,.slice aA os c4,ct,cu,cr],l] w fun e ah=>∃(dn:List aM) (dB:List aN) (dO dN dG:Int) (bX:List Int) (cc:List aK) (dm:List Out) (qF qW:ByteArray) (qA:Int) (cI:Option Addr) (e0:Nat) (cC:Option Addr) (e1:Nat) (cV:Option Addr) (e2:Nat) (cW:Option Addr) (e3:Nat) (cL:Option Addr) (e4:Nat) (y:ByteArray),e= .returned (.tuple #[.agg #[.slice cI dn e0,.slice cC dB e1,dO,dN,dG,.slice cV bX e2,.slice cW cc e3,.slice cL dm e4,qF,qW,qA],y])∧Hid ((qa (⟨rs,qs,ag,af,sp,ws,ad,os,ct,cu,cr⟩ :et) l,qB (⟨rs,qs,ag,af,sp,ws,ad,os,ct,cu,cr⟩ :et) l)= ((⟨dn,dB,dO,dN,dG,bX,cc,dm,qF,qW,qA⟩ :et),y))∧gi w ah cI e0 cC e1 cV e2 cW e3 cL e4 dn dB bX cc dm∧Below w w ah:=by
 have cB:=J Z;clear Z
 cases aG:hR (⟨rs,qs,ag,af,sp,ws,ad,os,ct,cu,cr⟩ :et)
 ·have bD:=J aG
  have cD:=J (Tu (l:=l) aG);clear aG
  go_in
  go_upto_region 1 with fail
  refine fp fun aH av aO ae=>?_
  replace R:=R.U av;have I:=av
  obtain⟨dj,dY,dV,er,eA,fJ,fK,fL,fM,fN,fI⟩:=aO.bQ
  obtain⟨z0,ch,z2,z3,z4,z5,fl,iH,iQ,z9,iP⟩:=ae.bQ;have hb:=J aO;have ev:=J ae;have eu:=J R
  have qS:=I.size;clear z0 ch z2 z3 z4 z5 fl iH iQ z9 iP aO ae R
  go_wp2_with fail
  refine (Hq an ar ak al aA c0 au c2 c3 c4 rs qs ag af sp ws ad os ct cu cr cB.out aH eu.out).mono ?_
  rintro e aQ ⟨cl,d0,cN,d1,bk,d2,bo,d3,cn,d4,rfl,gQ,jr⟩
  have ky:=J (gQ.base (B':=w.heap.size) qS);clear gQ dj dY dV er eA fJ fK fL fM fN fI
  go_upto_region 2 with fail
  obtain⟨tx,kT⟩ :∃b,b= aQ.heap.size:=⟨_,rfl⟩
  have qH:=aC.new aQ 46 #[.slice cl rs d0,.slice cN qs d1,ag,af,sp,.slice bk ws d2,.slice bo ad d3,.slice cn os d4,ct,cu,cr];have qK:Below aQ aQ (aQ.alloc (.cells #[.slice cl rs d0,.slice cN qs d1,ag,af,sp,.slice bk ws d2,.slice bo ad d3,.slice cn os d4,ct,cu,cr] 46)):=ca _ _
  rw [← kT] at qH
  generalize aQ.alloc (.cells #[.slice cl rs d0,.slice cN qs d1,ag,af,sp,.slice bk ws d2,.slice bo ad d3,.slice cn os d4,ct,cu,cr] 46)= bA at *
  rw [← kT]
  clear kT;have fQ:=ai jr qK;have Ai:=ai I fQ;have jV:=J (ky.out.bh qK);have sb:=J qH;have cS:=J (eu.out.U fQ);have bG:=(hb.out.U fQ hb.out.lt).bQ;clear qH qK jr
  go_wp2_with fail
  refine (CY (⟨rs,qs,ag,af,sp,ws,ad,os,ct,cu,cr⟩ :et) an ar ak al aA c0 au c2 c3 c4 cB.out.h0 cB.out.h1 cB.out.h2 cB.out.h3 cB.out.h4 cb _ bD.out bA cS.out.ft cS.out.dz cS.out.r2 cS.out.gG cS.out.lF cB.out.dP cB.out.eh cB.out.cm cB.out.dS cB.out.gD).mono ?_
  rintro e cf ⟨rfl,cZ⟩
  have jc:=ai fQ cZ;have vX:=ai Ai cZ;have la:=J (jV.out.bh cZ);have vL:=J (sb.out.U cZ sb.out.lt);clear bG;have mL:=vL.out.bQ;have bT:=ev.out.U jc ev.out.lt;have aq:=bT.bQ;have eM:=bT.gS;have jf:=J bT;clear bT
  go_wp2
  clear aq eM mL
  refine hE 0 fun cQ aD=>?_
  have bT:=aD.hV jf.out;have fE:=la.out.gw jf.out aD.fG;have eE:=aD.aG vX;clear aD
  have z0:=bT.bQ
  refine bodyPost_ret (v:= .tuple #[.agg #[.slice cl rs d0,.slice cN qs d1,ag,af,sp,.slice bk ws d2,.slice bo ad d3,.slice cn os d4,ct,cu,cr],.string (⟨#[110,111]⟩ :ByteArray)]) (by simp [results,Tryz.results19,go_sem,z0]) rfl ?_
  exact DL
 ·have bD:=J aG
  obtain⟨sK,jl⟩ :∃b,lG l ⟨#[]⟩ =b:=⟨_,rfl⟩
  have zZ:=J jl
  cases sK
  ·have cD:=J (Tr aG jl)
   clear aG jl
   go_in
   go_upto_region 1 with fail
   refine fp fun aH av aO ae=>?_
   replace R:=R.U av;have I:=av
   obtain⟨dj,dY,dV,er,eA,fJ,fK,fL,fM,fN,fI⟩:=aO.bQ
   obtain⟨z0,ch,z2,z3,z4,z5,fl,iH,iQ,z9,iP⟩:=ae.bQ;have hb:=J aO;have ev:=J ae;have eu:=J R
   have qS:=I.size;clear z0 ch z2 z3 z4 z5 fl iH iQ z9 iP aO ae R
   go_wp2_with fail
   refine (Hq an ar ak al aA c0 au c2 c3 c4 rs qs ag af sp ws ad os ct cu cr cB.out aH eu.out).mono ?_
   rintro e aQ ⟨cl,d0,cN,d1,bk,d2,bo,d3,cn,d4,rfl,gQ,jr⟩
   have ky:=J (gQ.base (B':=w.heap.size) qS);clear gQ dj dY dV er eA fJ fK fL fM fN fI
   go_upto_region 2 with fail
   obtain⟨tx,kT⟩ :∃b,b= aQ.heap.size:=⟨_,rfl⟩
   have qH:=aC.new aQ 46 #[.slice cl rs d0,.slice cN qs d1,ag,af,sp,.slice bk ws d2,.slice bo ad d3,.slice cn os d4,ct,cu,cr];have qK:Below aQ aQ (aQ.alloc (.cells #[.slice cl rs d0,.slice cN qs d1,ag,af,sp,.slice bk ws d2,.slice bo ad d3,.slice cn os d4,ct,cu,cr] 46)):=ca _ _
   rw [← kT] at qH
   generalize aQ.alloc (.cells #[.slice cl rs d0,.slice cN qs d1,ag,af,sp,.slice bk ws d2,.slice bo ad d3,.slice cn os d4,ct,cu,cr] 46)= bA at *
   rw [← kT]
   clear kT;have fQ:=ai jr qK;have Ai:=ai I fQ;have jV:=J (ky.out.bh qK);have sb:=J qH;have cS:=J (eu.out.U fQ);have bG:=(hb.out.U fQ hb.out.lt).bQ;clear qH qK jr
   go_wp2_with fail
   refine (CY (⟨rs,qs,ag,af,sp,ws,ad,os,ct,cu,cr⟩ :et) an ar ak al aA c0 au c2 c3 c4 cB.out.h0 cB.out.h1 cB.out.h2 cB.out.h3 cB.out.h4 cb _ bD.out bA cS.out.ft cS.out.dz cS.out.r2 cS.out.gG cS.out.lF cB.out.dP cB.out.eh cB.out.cm cB.out.dS cB.out.gD).mono ?_
   rintro e cf ⟨rfl,cZ⟩
   have jc:=ai fQ cZ;have vX:=ai Ai cZ;have la:=J (jV.out.bh cZ);have vL:=J (sb.out.U cZ sb.out.lt);clear bG
   go_wp2_with fail
   refine (AQ l ⟨#[]⟩ aT (Nat.zero_le _) _ zZ.out cf).mono ?_
   rintro e dE ⟨rfl,ek⟩
   have kQ:=ai jc ek;have Cu:=ai vX ek;have mU:=J (la.out.bh ek);have zX:=J (vL.out.U ek vL.out.lt);have mL:=zX.out.bQ;have bT:=ev.out.U kQ ev.out.lt;have aq:=bT.bQ;have eM:=bT.gS;have jf:=J bT;clear bT
   go_wp2
   clear aq eM mL
   refine hE 0 fun cQ aD=>?_
   have bT:=aD.hV jf.out;have fE:=mU.out.gw jf.out aD.fG;have eE:=aD.aG Cu;clear aD
   have z0:=bT.bQ
   refine bodyPost_ret (v:= .tuple #[.agg #[.slice cl rs d0,.slice cN qs d1,ag,af,sp,.slice bk ws d2,.slice bo ad d3,.slice cn os d4,ct,cu,cr],.string (⟨#[98,97,100]⟩ :ByteArray)]) (by simp [results,Tryz.results19,go_sem,z0]) rfl ?_
   exact DL
  ·obtain⟨MQ,xw⟩ :∃b,(cr == 60)= b:=⟨_,rfl⟩
   cases MQ
   rotate_left
   ·have cD:=J (Ts aG jl xw)
    clear aG jl
    go_in
    go_upto_region 1 with fail
    refine fp fun aH av aO ae=>?_
    replace R:=R.U av;have I:=av
    obtain⟨dj,dY,dV,er,eA,fJ,fK,fL,fM,fN,fI⟩:=aO.bQ
    obtain⟨z0,ch,z2,z3,z4,z5,fl,iH,iQ,z9,iP⟩:=ae.bQ;have hb:=J aO;have ev:=J ae;have eu:=J R
    have qS:=I.size;clear z0 ch z2 z3 z4 z5 fl iH iQ z9 iP aO ae R
    go_wp2_with fail
    refine (Hq an ar ak al aA c0 au c2 c3 c4 rs qs ag af sp ws ad os ct cu cr cB.out aH eu.out).mono ?_
    rintro e aQ ⟨cl,d0,cN,d1,bk,d2,bo,d3,cn,d4,rfl,gQ,jr⟩
    have ky:=J (gQ.base (B':=w.heap.size) qS);clear gQ dj dY dV er eA fJ fK fL fM fN fI
    go_upto_region 2 with fail
    obtain⟨tx,kT⟩ :∃b,b= aQ.heap.size:=⟨_,rfl⟩
    have qH:=aC.new aQ 46 #[.slice cl rs d0,.slice cN qs d1,ag,af,sp,.slice bk ws d2,.slice bo ad d3,.slice cn os d4,ct,cu,cr];have qK:Below aQ aQ (aQ.alloc (.cells #[.slice cl rs d0,.slice cN qs d1,ag,af,sp,.slice bk ws d2,.slice bo ad d3,.slice cn os d4,ct,cu,cr] 46)):=ca _ _
    rw [← kT] at qH
    generalize aQ.alloc (.cells #[.slice cl rs d0,.slice cN qs d1,ag,af,sp,.slice bk ws d2,.slice bo ad d3,.slice cn os d4,ct,cu,cr] 46)= bA at *
    rw [← kT]
    clear kT;have fQ:=ai jr qK;have Ai:=ai I fQ;have jV:=J (ky.out.bh qK);have sb:=J qH;have cS:=J (eu.out.U fQ);have bG:=(hb.out.U fQ hb.out.lt).bQ;clear qH qK jr
    go_wp2_with fail
    refine (CY (⟨rs,qs,ag,af,sp,ws,ad,os,ct,cu,cr⟩ :et) an ar ak al aA c0 au c2 c3 c4 cB.out.h0 cB.out.h1 cB.out.h2 cB.out.h3 cB.out.h4 cb _ bD.out bA cS.out.ft cS.out.dz cS.out.r2 cS.out.gG cS.out.lF cB.out.dP cB.out.eh cB.out.cm cB.out.dS cB.out.gD).mono ?_
    rintro e cf ⟨rfl,cZ⟩
    have jc:=ai fQ cZ;have vX:=ai Ai cZ;have la:=J (jV.out.bh cZ);have vL:=J (sb.out.U cZ sb.out.lt);clear bG
    go_wp2_with fail
    refine (AQ l ⟨#[]⟩ aT (Nat.zero_le _) _ zZ.out cf).mono ?_
    rintro e dE ⟨rfl,ek⟩
    have kQ:=ai jc ek;have Cu:=ai vX ek;have mU:=J (la.out.bh ek);have zX:=J (vL.out.U ek vL.out.lt);have bG:=(hb.out.U kQ hb.out.lt).bQ;have mL:=zX.out.bQ;have bT:=ev.out.U kQ ev.out.lt;have aq:=bT.bQ;have eM:=bT.gS;have jf:=J bT;clear bT
    go_wp2
    clear aq eM mL bG
    refine hE 0 fun cQ aD=>?_
    have bT:=aD.hV jf.out;have fE:=mU.out.gw jf.out aD.fG;have eE:=aD.aG Cu;clear aD
    have z0:=bT.bQ
    refine bodyPost_ret (v:= .tuple #[.agg #[.slice cl rs d0,.slice cN qs d1,ag,af,sp,.slice bk ws d2,.slice bo ad d3,.slice cn os d4,ct,cu,cr],.string (⟨#[102,117,108,108]⟩ :ByteArray)]) (by simp [results,Tryz.results19,go_sem,z0]) rfl ?_
    exact DL
   ·have cD:=J (Tv aG jl xw)
    have VT:=(YU jl).2;have iu:Hid (gP ⟨rs,qs,ag,af,sp,ws,ad,os⟩):=J (Fl aG);have LG:=J (show (⟨ct,cu,cr⟩ :hY).ef.size + (⟨ct,cu,cr⟩ :hY).eo.size≤1048576 from cb);clear aG jl
    go_in
    go_upto_region 1 with fail
    refine fp fun aH av aO ae=>?_
    replace R:=R.U av;have I:=av
    obtain⟨dj,dY,dV,er,eA,fJ,fK,fL,fM,fN,fI⟩:=aO.bQ
    obtain⟨z0,ch,z2,z3,z4,z5,fl,iH,iQ,z9,iP⟩:=ae.bQ;have hb:=J aO;have ev:=J ae;have eu:=J R
    have qS:=I.size;clear z0 ch z2 z3 z4 z5 fl iH iQ z9 iP aO ae R
    go_wp2_with fail
    refine (Hq an ar ak al aA c0 au c2 c3 c4 rs qs ag af sp ws ad os ct cu cr cB.out aH eu.out).mono ?_
    rintro e aQ ⟨cl,d0,cN,d1,bk,d2,bo,d3,cn,d4,rfl,gQ,jr⟩
    have ky:=J (gQ.base (B':=w.heap.size) qS);clear gQ dj dY dV er eA fJ fK fL fM fN fI;have CN:=jr.size
    go_upto_region 2 with fail
    obtain⟨tx,kT⟩ :∃b,b= aQ.heap.size:=⟨_,rfl⟩
    have qH:=aC.new aQ 46 #[.slice cl rs d0,.slice cN qs d1,ag,af,sp,.slice bk ws d2,.slice bo ad d3,.slice cn os d4,ct,cu,cr];have qK:Below aQ aQ (aQ.alloc (.cells #[.slice cl rs d0,.slice cN qs d1,ag,af,sp,.slice bk ws d2,.slice bo ad d3,.slice cn os d4,ct,cu,cr] 46)):=ca _ _
    rw [← kT] at qH
    generalize aQ.alloc (.cells #[.slice cl rs d0,.slice cN qs d1,ag,af,sp,.slice bk ws d2,.slice bo ad d3,.slice cn os d4,ct,cu,cr] 46)= bA at *
    rw [← kT]
    have atY:aH.heap.size≤tx:=by omega
    clear kT CN;have fQ:=ai jr qK;have Ai:=ai I fQ;have jV:=J (ky.out.bh qK);have sb:=J qH;have cS:=J (eu.out.U fQ);have bG:=(hb.out.U fQ hb.out.lt).bQ;clear qH qK jr
    go_wp2_with fail
    refine (CY (⟨rs,qs,ag,af,sp,ws,ad,os,ct,cu,cr⟩ :et) an ar ak al aA c0 au c2 c3 c4 cB.out.h0 cB.out.h1 cB.out.h2 cB.out.h3 cB.out.h4 cb _ bD.out bA cS.out.ft cS.out.dz cS.out.r2 cS.out.gG cS.out.lF cB.out.dP cB.out.eh cB.out.cm cB.out.dS cB.out.gD).mono ?_
    rintro e cf ⟨rfl,cZ⟩
    have jc:=ai fQ cZ;have vX:=ai Ai cZ;have la:=J (jV.out.bh cZ);have vL:=J (sb.out.U cZ sb.out.lt);clear bG
    go_wp2_with fail
    refine (AQ l ⟨#[]⟩ aT (Nat.zero_le _) _ zZ.out cf).mono ?_
    rintro e dE ⟨rfl,ek⟩
    have kQ:=ai jc ek;have Cu:=ai vX ek;have mU:=J (la.out.bh ek);have zX:=J (vL.out.U ek vL.out.lt);have bG:=(hb.out.U kQ hb.out.lt).bQ
    go_upto_region 8 with fail
    clear bG;have mL:=zX.out.bQ;have ajM:=Cu.size
    go_wp2_with fail
    refine (amn w.heap.size cl cN bk bo cn d0 d1 d2 d3 d4 rs qs ag af sp ws ad os ct cu cr iu.out l (by omega) dE ajM mU.out).mono ?_
    rintro e hX ⟨⟨dn,dB,dO,dN,dG,bX,cc,dm,cI,e0,cC,e1,cV,e2,cW,e3,cL,e4,y,rfl,nz,jy⟩,pE⟩
    have mq:=J jy;clear jy mL;have tj:=ai kQ pE;have FN:=ai Cu pE;have Sf:=J (zX.out.U pE zX.out.lt);have Ec:Hid (gP ⟨dn,dB,dO,dN,dG,bX,cc,dm⟩):=J (by have:=Ub (ws:=gO 32 l) iu.out;rw [nz.out] at this;exact this);have Ij:Hid (qk ⟨rs,qs,ag,af,sp,ws,ad,os⟩ l= (⟨dn,dB,dO,dN,dG,bX,cc,dm⟩,y)):=J nz.out
    clear nz
    go_upto_region 9 with fail
    obtain⟨cH,mF⟩ :∃b,b= hX.heap.size:=⟨_,rfl⟩
    have Nv:=aC.new hX 46 #[.slice cI dn e0,.slice cC dB e1,dO,dN,dG,.slice cV bX e2,.slice cW cc e3,.slice cL dm e4,ct,cu,cr];have Gf:Below hX hX (hX.alloc (.cells #[.slice cI dn e0,.slice cC dB e1,dO,dN,dG,.slice cV bX e2,.slice cW cc e3,.slice cL dm e4,ct,cu,cr] 46)):=ca _ _
    rw [← mF] at Nv
    generalize hX.alloc (.cells #[.slice cI dn e0,.slice cC dB e1,dO,dN,dG,.slice cV bX e2,.slice cW cc e3,.slice cL dm e4,ct,cu,cr] 46)= zA at *
    rw [← mF]
    clear mF;have NJ:=ai tj Gf;have Vb:=ai FN Gf;have Sh:=J (mq.out.bh Gf);have Sg:=J (Sf.out.U Gf Sf.out.lt);have oh:=Nv.bQ;have ajN:=Vb.size
    go_wp2_with fail
    refine (Hq cI cC cV cW cL e0 e1 e2 e3 e4 dn dB dO dN dG bX cc dm ct cu cr (Hh Sh.out Ec.out) zA Sh.out.rd).mono ?_
    rintro e om ⟨rh,f0,ri,f1,rj,f2,rl,f3,rm,f4,rfl,mY,Gb⟩
    have sc:=J (mY.base (B':=w.heap.size) ajN);clear mY oh;have uA:=ai NJ Gb;have Jq:=ai Vb Gb;have Ip:=J (Sg.out.U Gb Sg.out.lt);have mL:=Ip.out.bQ;have Fx:=Ip.out.gS
    go_upto_region 10 with fail
    clear mL Fx Nv Gf
    refine hE 0 fun ui gf=>?_
    have uy:=gf.hV Ip.out;have ec:=gf.aG uA;have NI:=gf.aG Jq;have aeR:=J (sc.out.gw Ip.out gf.fG);have zW:=J uy;clear uy gf
    go_upto_if 38 with fail
    go_cut [8] (fun aam W=>∃kt,aam= .string kt∧Hid (oM y= kt)∧ui= W)
    case first=>
     exact abe
    case rest=>
     obtain⟨kt,rfl,BJ,hw⟩:=hcut
     subst hw
     have xK:kt.size≤1048576:=by
      rw [← BJ.out]
      unfold oM
      split
      ·decide
      ·omega
     have oy:=fun W=>apu ⟨ct,cu,cr⟩ LG.out ⟨l,kt⟩ aT xK W
     obtain⟨g,ck⟩ :∃g,iL ⟨ct,cu,cr⟩ ⟨l,kt⟩ =g:=⟨_,rfl⟩
     rw [ck] at oy
     have hx:=J ck;clear ck
     obtain⟨qF,qW,qA⟩:=g
     have sR:=J oy;clear oy
     simp only at sR
     have bG:=(hb.out.U ec hb.out.lt).bQ
     go_wp2_with fail
     refine (sR.out ui).mono ?_
     rintro e Bt ⟨rfl,Js⟩
     have Jm:=zW.out.U Js zW.out.lt;have Sj:=J Jm;have mL:=Jm.bQ;have Fx:=Jm.gS;clear bG Jm
     go_upto_region 13 with fail
     clear mL Fx
     refine sP 8 fun wX gJ=>?_
     have nu:=gJ.PX Sj.out;have bw:=(aeR.out.bh Js).gw Sj.out gJ.fG;have air:=gJ.aG (ai ec Js);have aiq:=gJ.aG (ai NI Js);have bT:=ev.out.U air ev.out.lt
     have jf:=J bT;have LN:=J bw;have mL:=nu.bQ;have aq:=bT.bQ;have eM:=bT.gS;clear bT bw gJ nu
     go_wp2
     clear mL aq eM
     refine hE 0 fun WF yk=>?_
     have NM:=yk.hV jf.out;have mY:=LN.out.gw jf.out yk.fG;have Lw:=yk.aG aiq;clear yk
     have z0:=NM.bQ
     refine bodyPost_ret (v:= .tuple #[.agg #[.slice rh dn f0,.slice ri dB f1,dO,dN,dG,.slice rj bX f2,.slice rl cc f3,.slice rm dm f4,qF,qW,qA],.string kt]) (by simp [results,Tryz.results19,go_sem,z0]) rfl ?_
     exact⟨dn,dB,dO,dN,dG,bX,cc,dm,qF,qW,qA,rh,f0,ri,f1,rj,f2,rl,f3,rm,f4,kt,rfl,J (by
      rw [cD.out.1,cD.out.2]
      unfold Ab
      rw [show qk (et.kX (⟨rs,qs,ag,af,sp,ws,ad,os,ct,cu,cr⟩ :et)) l= (⟨dn,dB,dO,dN,dG,bX,cc,dm⟩,y) from Ij.out]
      simp only
      rw [BJ.out,show iL (et.log (⟨rs,qs,ag,af,sp,ws,ad,os,ct,cu,cr⟩ :et)) ⟨l,kt⟩ =⟨qF,qW,qA⟩ from hx.out]
      rfl),mY,Lw⟩
open Go.RowKit Go.G9
def py (w W:World) (cl:Option Addr) (d0:Nat) (cN:Option Addr) (d1:Nat) (bk:Option Addr) (d2:Nat) (bo:Option Addr) (d3:Nat) (cn:Option Addr) (d4:Nat) (rs:List aM) (qs:List aN) (ws:List Int) (ad:List aK) (os:List Out):Prop:=dL w cl cN bk bo cn rs qs ws ad os∨gi w.heap.size W cl d0 cN d1 bk d2 bo d3 cn d4 rs qs ws ad os
section
variable {w W V:World} {cl cN bk bo cn:Option Addr} {d0 d1 d2 d3 d4:Nat} {rs:List aM} {qs:List aN} {ws:List Int} {ad:List aK} {os:List Out}
theorem py.rd (h:py w W cl d0 cN d1 bk d2 bo d3 cn d4 rs qs ws ad os) (aE:Below w w W):dL W cl cN bk bo cn rs qs ws ad os:=h.elim (fun h=>h.U aE) (fun h=>h.rd)
theorem py.bh (h:py w W cl d0 cN d1 bk d2 bo d3 cn d4 rs qs ws ad os) (aE:Below W W V):py w V cl d0 cN d1 bk d2 bo d3 cn d4 rs qs ws ad os:=h.imp id (fun h=>h.bh aE)
theorem py.gw {g:Nat} {cs:Array Value} (h:py w W cl d0 cN d1 bk d2 bo d3 cn d4 rs qs ws ad os) (aE:aC W g 46 cs) (ck:W.grownBy V (some g)):py w V cl d0 cN d1 bk d2 bo d3 cn d4 rs qs ws ad os:=h.imp id (fun h=>h.gw aE ck)
theorem py.Xi {B:Nat} {v:Value} {eR:List Str} (h:py w W cl d0 cN d1 bk d2 bo d3 cn d4 rs qs ws ad os) (ib:aX B 9 1 Str.cells W v eR) (ck:W.grownBy V v.ownBlock):py w V cl d0 cN d1 bk d2 bo d3 cn d4 rs qs ws ad os:=h.imp id (fun h=>
 ⟨h.kp.kept ck (h.kp.apart ib (by decide)),h.hO.kept ck (h.hO.apart ib (by decide)),h.fg.kept ck (h.fg.apart ib (by decide)),h.fF.kept ck (h.fF.apart ib (by decide)),h.lE.kept ck (h.lE.apart ib (by decide))⟩)
end
theorem adN {p:Prop} (h:p:=by
 rintro e ah ⟨dn,dB,dO,dN,dG,bX,cc,dm,qF,qW,qA,cl,d0,cN,d1,bk,d2,bo,d3,cn,d4,y,rfl,hw,O,aE⟩
 exact⟨⟨dn,dB,dO,dN,dG,bX,cc,dm,qF,qW,qA⟩,y,cl,d0,cN,d1,bk,d2,bo,d3,cn,d4,rfl,J ⟨congrArg Prod.fst hw.out,congrArg Prod.snd hw.out⟩,O,aE⟩):p:=h
theorem akD (x:et) (an ar ak al aA:Option Addr) (c0 au c2 c3 c4:Nat) (Z:ed an ar ak al aA c0 au c2 c3 c4 x.bx x.bH x.bJ x.bM x.bt) (cb:x.ef.size + x.eo.size≤1048576) (l:ByteArray) (aT:l.size≤1048576) (w:World) (R:dL w an ar ak al aA x.bx x.bH x.bJ x.bM x.bt) (bP:ov w):
 Calls Tryz.prog 18 #[.agg #[.slice an x.bx c0,.slice ar x.bH au,x.de,x.cU,x.dH,.slice ak x.bJ c2,.slice al x.bM c3,.slice aA x.bt c4,x.ef,x.eo,x.dR],l] w fun e ah=>∃(y:et) (z:ByteArray) (cl:Option Addr) (d0:Nat) (cN:Option Addr) (d1:Nat) (bk:Option Addr) (d2:Nat) (bo:Option Addr) (d3:Nat) (cn:Option Addr) (d4:Nat),e= .returned (.tuple #[.agg #[.slice cl y.bx d0,.slice cN y.bH d1,y.de,y.cU,y.dH,.slice bk y.bJ d2,.slice bo y.bM d3,.slice cn y.bt d4,y.ef,y.eo,y.dR],z])∧Hid (qa x l= y∧qB x l= z)∧gi w ah cl d0 cN d1 bk d2 bo d3 cn d4 y.bx y.bH y.bJ y.bM y.bt∧Below w w ah:=by
 refine (akE an ar ak al aA c0 au c2 c3 c4 x.bx x.bH x.de x.cU x.dH x.bJ x.bM x.bt x.ef x.eo x.dR Z cb l aT w R bP).mono ?_
 exact adN
theorem apD (x:et) (an ar ak al aA:Option Addr) (c0 au c2 c3 c4:Nat) (Z:ed an ar ak al aA c0 au c2 c3 c4 x.bx x.bH x.bJ x.bM x.bt) (cb:x.ef.size + x.eo.size≤1048576) (l:ByteArray) (aT:l.size≤1048576) (w:World) (R:dL w an ar ak al aA x.bx x.bH x.bJ x.bM x.bt):
 Calls Tryz.prog 19 #[.agg #[.slice an x.bx c0,.slice ar x.bH au,x.de,x.cU,x.dH,.slice ak x.bJ c2,.slice al x.bM c3,.slice aA x.bt c4,x.ef,x.eo,x.dR],l] w fun e ah=>∃(y:et) (z:ByteArray) (cl:Option Addr) (d0:Nat) (cN:Option Addr) (d1:Nat) (bk:Option Addr) (d2:Nat) (bo:Option Addr) (d3:Nat) (cn:Option Addr) (d4:Nat),e= .returned (.tuple #[.agg #[.slice cl y.bx d0,.slice cN y.bH d1,y.de,y.cU,y.dH,.slice bk y.bJ d2,.slice bo y.bM d3,.slice cn y.bt d4,y.ef,y.eo,y.dR],z])∧Hid (qa x l= y∧qB x l= z)∧gi w ah cl d0 cN d1 bk d2 bo d3 cn d4 y.bx y.bH y.bJ y.bM y.bt∧Below w w ah:=by
 refine (apE an ar ak al aA c0 au c2 c3 c4 x.bx x.bH x.de x.cU x.dH x.bJ x.bM x.bt x.ef x.eo x.dR Z cb l aT w R).mono ?_
 exact adN
open Go.RowKit Go.G9
theorem ZX (y:Str):(Str.cells y).length= 1:=rfl
theorem ZZ (y:Str) (u:Value) (h:u ∈ Str.cells y):u.oneCell'= true:=by simp [Str.cells] at h;subst h;rfl
theorem Qp {x:et} {t:ByteArray} (h:hR x= false):oN x t= false∧jG x t= []:=by
 have e:oN x t= false:=by unfold oN;rw [h];rfl
 exact⟨e,by unfold jG;rw [e];rfl⟩
theorem acb {p:Prop} (h:p:=by
 have e:oN x t= false:=by unfold oN;rw [decide_eq_false h];simp
 exact⟨e,by unfold jG;rw [e];rfl⟩):p:=h
theorem Qn {x:et} {t:ByteArray} (h:¬t.size≤4000):oN x t= false∧jG x t= []:=by
 exact acb
theorem Qo {x:et} {t:ByteArray} (h:¬(gO 10 t).length≤30):oN x t= false∧jG x t= []:=by
 exact acb
theorem Zu {x:et} {t:ByteArray} (h:hR x= true) (h4:t.size≤4000) (h30:(gO 10 t).length≤30):oN x t= true∧jG x t= tB x (gO 10 t) (gO 10 t).length:=by
 have e:oN x t= true:=by unfold oN;rw [h,decide_eq_true h4,decide_eq_true h30];rfl
 exact⟨e,by unfold jG;rw [e];rfl⟩
theorem acN {p:Prop} (h:p:=by
 rw [yj,pU]
 have bD:=J aG;clear yj pU aG
 go_in
 go_upto_region 1 with fail
 refine cR fun aH av aO=>?_
 replace R:=R.U av;replace bP:=bP.U av;have I:=av;have cE:=aO.bQ
 go_wp2_with fail
 refine (AJ x an ar ak al aA c0 au c2 c3 c4 cB.out.h0 cB.out.h1 cB.out.h2 cB.out.h3 cB.out.h4 cb _ bD.out _ ((R.U aw)).ft ((R.U aw)).dz ((R.U aw)).r2 ((R.U aw)).gG ((R.U aw)).lF cB.out.dP cB.out.eh cB.out.cm cB.out.dS cB.out.gD ((bP.U aw)).t).mono ?_
 rintro e aQ ⟨rfl,aP⟩
 have ao:=be aH aP;replace I:=ai I ao;replace R:=R.U ao;replace bP:=bP.U ao;replace aO:=aO.to ao;clear cE;have cE:=aO.bQ
 go_wp2
 go_ret2
 exact⟨none,0,rfl,aX.nil,I⟩):p:=h
theorem adi {p:Prop} (h:p:=by
 have ain:tA x ls (k + 1)= n2∧tB x ls (k + 1)= eR ++ [(⟨z,xM⟩ :Str)]:=by
  obtain⟨dD,di⟩:=Zv (x:=x) cJ.out
  rw [dD,di,dW.out.1,dW.out.2]
  refine⟨tn.out.1,?_⟩
  have:=tn.out.2
  subst this
  rfl
 go_wp2
 go_roundw
 case rel=>exact⟨k + 1,n2,_,_,TK,rh,f0,ri,f1,rj,f2,rl,f3,rm,f4,by simp,by go_num,by omega,J ain,VL,UO,jc,eX,UT,UQ,gu⟩
 case measure=>simp [intOf];omega):p:=h
theorem abN {p:Prop} (h:p:=by
 obtain rfl:k= ls.length:=by omega
 go_wp2
 go_ret2
 exact⟨Y,y,by rw [dW.out.2];rfl,by rw [dW.out.2];exact qp.out,I⟩):p:=h
theorem alr (x:et) (an ar ak al aA:Option Addr) (c0 au c2 c3 c4:Nat) (Z:ed an ar ak al aA c0 au c2 c3 c4 x.bx x.bH x.bJ x.bM x.bt) (cb:x.ef.size + x.eo.size≤1048576) (t:ByteArray) (cA:t.size≤1048576) (w:World) (R:dL w an ar ak al aA x.bx x.bH x.bJ x.bM x.bt) (bP:ov w):
 Calls Tryz.prog 25 #[.agg #[.slice an x.bx c0,.slice ar x.bH au,x.de,x.cU,x.dH,.slice ak x.bJ c2,.slice al x.bM c3,.slice aA x.bt c4,x.ef,x.eo,x.dR],t] w fun e ah=>∃D d,e= .returned (.tuple #[.slice D (jG x t).length d,.bool (oN x t)])∧aX w 9 1 Str.cells ah (.slice D (jG x t).length d) (jG x t)∧Below w w ah:=by
 obtain⟨i0,hi,dk,dx,dC⟩:=info_parts xN
 have cB:=J Z;have Ih:=J bP;have eu:=J R;clear Z
 cases aG:hR x
 ·obtain⟨yj,pU⟩:=Qp (t:=t) aG
  exact acN
 ·by_cases h4:t.size≤4000
  rotate_left
  ·have fY:(4000:Int) < (t.size:Int):=by omega
   have gY:decide ((4000:Int) < (t.size:Int))= true:=decide_eq_true fY
   obtain⟨yj,pU⟩:=Qn (x:=x) h4
   exact acN
  ·have fY:¬(4000:Int) < (t.size:Int):=by omega
   have gY:decide ((4000:Int) < (t.size:Int))= false:=decide_eq_false fY
   by_cases h30:(gO 10 t).length≤30
   rotate_left
   ·obtain⟨yj,pU⟩:=Qo (x:=x) h30
    rw [yj,pU]
    have bD:=J aG;clear yj pU aG;have lX:=J (fun W (h:wW W)=>Pj t 10 cA W h)
    obtain⟨ls,mE⟩ :∃ls,gO 10 t= ls:=⟨_,rfl⟩
    rw [mE] at lX h30
    clear mE
    have sy:(30:Int) < (ls.length:Int):=by omega
    have fs:decide ((30:Int) < (ls.length:Int))= true:=decide_eq_true sy
    go_in
    go_upto_region 1 with fail
    refine cR fun aH av aO=>?_
    replace R:=R.U av;replace bP:=bP.U av;have I:=av;have cE:=aO.bQ
    go_wp2_with fail
    refine (AJ x an ar ak al aA c0 au c2 c3 c4 cB.out.h0 cB.out.h1 cB.out.h2 cB.out.h3 cB.out.h4 cb _ bD.out _ ((R.U aw)).ft ((R.U aw)).dz ((R.U aw)).r2 ((R.U aw)).gG ((R.U aw)).lF cB.out.dP cB.out.eh cB.out.cm cB.out.dS cB.out.gD ((bP.U aw)).t).mono ?_
    rintro e aQ ⟨rfl,aP⟩
    have ao:=be aH aP;replace I:=ai I ao;replace R:=R.U ao;replace bP:=bP.U ao;replace aO:=aO.to ao;clear cE;have cE:=aO.bQ
    go_wp2_with fail
    refine (lX.out aQ ((bP.U aw)).m).mono ?_
    rintro e bA ⟨Mt,wn,rfl,oS,bC⟩
    have aL:=be aQ bC;replace I:=ai I aL;replace R:=R.U aL;replace bP:=bP.U aL;replace aO:=aO.to aL;clear cE;have cE:=aO.bQ;clear oS
    go_wp2
    go_ret2
    exact⟨none,0,rfl,aX.nil,I⟩
   ·obtain⟨yj,pU⟩:=Zu aG h4 h30
    rw [yj,pU]
    have bD:=J aG;have lX:=J (fun W (h:wW W)=>Pj t 10 cA W h);have yz:=J (fun l (aT:l ∈ gO 10 t)=>KK aT);have eg:=KL 10 t
    obtain⟨ls,mE⟩ :∃ls,gO 10 t= ls:=⟨_,rfl⟩
    rw [mE] at lX yz h30 eg ⊢
    clear mE yj pU
    have Ou:0 < ls.length:=by
     cases ls with
     | nil=>exact absurd rfl eg
     | cons a b=>simp
    have sy:¬(30:Int) < (ls.length:Int):=by omega
    have fs:decide ((30:Int) < (ls.length:Int))= false:=decide_eq_false sy;have Ec:=J (fun k=>KD (ls:=ls) aG k);clear aG eg
    go_in
    go_upto_region 1 with fail
    refine cR fun aH av aO=>?_
    replace R:=R.U av;replace bP:=bP.U av;have I:=av;have cE:=aO.bQ
    go_wp2_with fail
    refine (AJ x an ar ak al aA c0 au c2 c3 c4 cB.out.h0 cB.out.h1 cB.out.h2 cB.out.h3 cB.out.h4 cb _ bD.out _ ((R.U aw)).ft ((R.U aw)).dz ((R.U aw)).r2 ((R.U aw)).gG ((R.U aw)).lF cB.out.dP cB.out.eh cB.out.cm cB.out.dS cB.out.gD ((bP.U aw)).t).mono ?_
    rintro e aQ ⟨rfl,aP⟩
    have ao:=be aH aP;replace I:=ai I ao;replace R:=R.U ao;replace bP:=bP.U ao;replace aO:=aO.to ao;clear cE;have cE:=aO.bQ;have auv:=I.size
    go_wp2_with fail
    refine (lX.out aQ ((bP.U aw)).m).mono ?_
    rintro e bA ⟨Mt,wn,rfl,oS,bC⟩
    have aL:=be aQ bC;replace I:=ai I aL;replace R:=R.U aL;replace bP:=bP.U aL;replace aO:=aO.to aL;clear cE;have cE:=aO.bQ
    obtain⟨my,aaz,Fs⟩:=Di oS Ou
    injection Fs with Ft _ Fu
    subst Ft
    subst Fu
    have QC:=I.size
    go_upto_region 7 with fail
    have nC:=aX.made (sz:=1) (f:=Str.cells) bA (B:=w.heap.size) I.size 9;have uM:=(oS.lt my rfl).2;have oT:=(oS.base (B':=w.heap.size) (by omega)).bh (ca bA (.cells #[] 9))
    have NE:oB (.slice bA.heap.size 0 0) (.slice my ls wn):=fun k h1 h2=>by have e1:bA.heap.size= k:=Option.some.inj h1;have e2:my= k:=Option.some.inj h2;omega
    have bV:Below bA bA (World.alloc bA (.cells #[] 9)):=ca bA _
    have eJ:=aC.new bA 9 #[]
    replace R:=R.U bV;replace bP:=bP.U bV
    generalize World.alloc bA (.cells #[] 9)= DD at *
    replace I:=ai I bV;clear eJ;have hb:=J (aO.to bV);have pw:=J I;have jI:=J nC;have Et:=J oT;have Ee:=J NE;clear aO I nC oT NE cE oS uM QC R bP
    go_upto_region 8 with fail
    go_loopw [7,28] (fun v i wr=>∃(k:Nat) (n:et) (eR:List Str) (Y:Option Addr) (y:Nat) (cI:Option Addr) (e0:Nat) (cC:Option Addr) (e1:Nat) (cV:Option Addr) (e2:Nat) (cW:Option Addr) (e3:Nat) (cL:Option Addr) (e4:Nat),v= .slice Y eR y∧i= .int .i64 k∧k≤ls.length∧Hid (tA x ls k= n∧tB x ls k= eR)∧ed cI cC cV cW cL e0 e1 e2 e3 e4 n.bx n.bH n.bJ n.bM n.bt∧py w wr cI e0 cC e1 cV e2 cW e3 cL e4 n.bx n.bH n.bJ n.bM n.bt∧aC wr w.heap.size 46 #[.slice cI n.bx e0,.slice cC n.bH e1,n.de,n.cU,n.dH,.slice cV n.bJ e2,.slice cW n.bM e3,.slice cL n.bt e4,n.ef,n.eo,n.dR]∧aX w 9 1 Str.cells wr (.slice Y eR y) eR∧aX w 9 1 hj wr (.slice my ls wn) ls∧oB (.slice Y eR y) (.slice my ls wn)∧Below w w wr) (fun _ i _=>ls.length - (intOf i).toNat)
    case atStart=>exact⟨0,x,[],_,_,an,c0,ar,au,ak,c2,al,c3,aA,c4,rfl,rfl,Nat.zero_le _,J ⟨rfl,rfl⟩,cB.out,.inl eu.out,hb.out,jI.out,Et.out,Ee.out,pw.out⟩
    case round=>
     clear hb pw jI Et Ee
     obtain⟨k,n,eR,Y,y,cI,e0,cC,e1,cV,e2,cW,e3,cL,e4,rfl,rfl,ax,dW,hC,nx,aO,nC,oT,NE,I⟩:=hrel
     have pZ:=J hC;have LJ:=J nx;have qp:=J nC;have rq:=J oT;have kZ:=J NE;clear hC nx nC oT NE;have auj:=aO.lt
     by_cases bn:k < ls.length
     ·have aT:=List.getElem?_eq_getElem bn
      obtain⟨l,hle⟩ :∃l,ls[k]= l:=⟨_,rfl⟩
      rw [hle] at aT;clear hle
      have g0:=qm rq.out jM aT (i:=0) (u:= .string l) rfl
      simp only [Nat.mul_one,Nat.add_zero] at g0
      have Jv:=(rq.out.lt my rfl).2;have mE:=yz.out l (List.mem_of_getElem? aT);have cJ:=J aT;clear aT;have Gk:Hid (hR n= true):=J (by rw [← dW.out.1];exact Ec.out k);have nz:=J (fun W (bN:dL W cI cC cV cW cL n.bx n.bH n.bJ n.bM n.bt) (eS:ov W)=>akD n cI cC cV cW cL e0 e1 e2 e3 e4 pZ.out (IX Gk.out).Ps l (by omega) W bN eS);have bG:=aO.bQ
      go_wp2_with fail
      refine (nz.out wr (LJ.out.rd I) (Ih.out.U I)).mono ?_
      rintro e bA ⟨n2,z,rh,f0,ri,f1,rj,f2,rl,f3,rm,f4,rfl,tn,mY,bC⟩
      have cZ:=ai I bC;have Wx:=aO.to bC;have aeS:=J (qp.out.bh bC);have aeV:=J (rq.out.bh bC);have sc:=J (mY.base (B':=w.heap.size) I.size);clear mY
      have akm:z.size≤200:=by rw [← tn.out.2];exact MF _ _
      have CJ:Hid (hR n2= true):=J (by rw [← tn.out.1];exact MG Gk.out)
      have xM:z.size≤maxLen:=by unfold maxLen;omega
      clear bG g0 Jv
      go_upto_region 11 with fail
      have Nu:=aC.new bA 46 #[.slice rh n2.bx f0,.slice ri n2.bH f1,n2.de,n2.cU,n2.dH,.slice rj n2.bJ f2,.slice rl n2.bM f3,.slice rm n2.bt f4,n2.ef,n2.eo,n2.dR];have Gc:Below bA bA (bA.alloc (.cells #[.slice rh n2.bx f0,.slice ri n2.bH f1,n2.de,n2.cU,n2.dH,.slice rj n2.bJ f2,.slice rl n2.bM f3,.slice rm n2.bt f4,n2.ef,n2.eo,n2.dR] 46)):=ca _ _
      generalize bA.alloc (.cells #[.slice rh n2.bx f0,.slice ri n2.bH f1,n2.de,n2.cU,n2.dH,.slice rj n2.bJ f2,.slice rl n2.bM f3,.slice rm n2.bt f4,n2.ef,n2.eo,n2.dR] 46)= aar at *
      obtain⟨wM,AH⟩ :∃b,b= bA.heap.size:=⟨_,rfl⟩
      rw [← AH] at Nu ⊢
      clear AH;have FR:=Wx.to Gc;have Eg:=J (aeS.out.bh Gc);have Ei:=J (aeV.out.bh Gc);have Iq:=J (sc.out.bh Gc);have Cx:=ai cZ Gc;have sV:=J FR;have mQ:=Nu.bQ;have asi:=Nu.lt;have bG:=FR.bQ;have Fy:=FR.gS;have Lc:=FR.lt;clear FR Wx
      go_upto_region 12 with fail
      clear mQ asi bG Fy Lc
      refine hE 0 fun cQ aD=>?_
      have ec:aC cQ w.heap.size 46 #[.slice rh n2.bx f0,.slice ri n2.bH f1,n2.de,n2.cU,n2.dH,.slice rj n2.bJ f2,.slice rl n2.bM f3,.slice rm n2.bt f4,n2.ef,n2.eo,n2.dR]:=aD.own sV.out;have xq:=Eg.out.kept aD.fG (fun k ax e=>Eg.out.pf sV.out (by decide) k ax (Option.some.inj e))
      have FM:=Ei.out.kept aD.fG (fun k ax e=>Ei.out.pf sV.out (by decide) k ax (Option.some.inj e));have FL:=Iq.out.gw sV.out aD.fG;have th:=aD.aG Cx;clear aD;have sU:=J ec;have Eh:=J FM;have LI:=J FL;have lb:Hid (eR.length= k):=J (by rw [← dW.out.2];exact KE k ax);clear ec FM FL
      go_wp2_with (at_builtin;refine kJ rfl _ _ 57 rfl w.heap.size 9 i0 _ 1 16 Tryz.underlying57 hi dk dx dC rfl (by decide) Str.cells ZX ZZ _ (eR) rfl (xq.alloc _) ⟨cQ.heap.size,0,none⟩ 1 ((⟨z,xM⟩ :Str)) rfl (aJ.one (⟨z,xM⟩ :Str) _) (by have:=lb.out;unfold maxLen;omega) (by have:=lb.out;omega) (by have:=th.size;simp;omega) ?_;intro v4 cf eX fs kC)
      obtain⟨Nh,TK,rfl⟩:=Di eX (by simp)
      have gu:Below w w cf:=(th.alloc th.size _).grown fs (by have:=th.size;simp;omega) (fun q bf=>(xq.lt q bf).1);have jc:=(sU.out.alloc (.cells #[z] 9)).jO fs (fun e=>xq.pf sU.out (by decide) _ e.symm rfl);have UT:=aX.ne (Eh.out.alloc _) fs kZ.out;have UQ:=kZ.out.step (fun q bf=>((Eh.out.alloc (.cells #[z] 9)).lt q bf).2) kC
      have UO:py w cf rh f0 ri f1 rj f2 rl f3 rm f4 n2.bx n2.bH n2.bJ n2.bM n2.bt:=py.Xi (.inr (LI.out.bh (ca _ _))) (xq.alloc _) fs
      have VL:ed rh ri rj rl rm f0 f1 f2 f3 f4 n2.bx n2.bH n2.bJ n2.bM n2.bt:=by
       have:=IX CJ.out
       exact sc.out.JQ this.km this.jR this.oK this.ts this.xQ
      exact adi
     ·exact abN
open Go.RowKit Go.G9
theorem aql (x:et) (an ar ak al aA:Option Addr) (c0 au c2 c3 c4:Nat) (Z:ed an ar ak al aA c0 au c2 c3 c4 x.bx x.bH x.bJ x.bM x.bt) (cb:x.ef.size + x.eo.size≤1048576) (t:ByteArray) (cA:t.size≤1048576) (w:World) (R:dL w an ar ak al aA x.bx x.bH x.bJ x.bM x.bt):
 Calls Tryz.prog 26 #[.agg #[.slice an x.bx c0,.slice ar x.bH au,x.de,x.cU,x.dH,.slice ak x.bJ c2,.slice al x.bM c3,.slice aA x.bt c4,x.ef,x.eo,x.dR],t] w fun e ah=>∃D d,e= .returned (.tuple #[.slice D (jG x t).length d,.bool (oN x t)])∧aX w 9 1 Str.cells ah (.slice D (jG x t).length d) (jG x t)∧Below w w ah:=by
 obtain⟨i0,hi,dk,dx,dC⟩:=info_parts xN
 have cB:=J Z;have eu:=J R;clear Z;have lX:=J (fun W=>Xl t 10 cA W);have yz:=J (fun l (aT:l ∈ gO 10 t)=>KK aT);have eg:=KL 10 t
 obtain⟨ls,mE⟩ :∃ls,gO 10 t= ls:=⟨_,rfl⟩
 have Ou:0 < ls.length:=by
  rw [mE] at eg
  cases ls with
  | nil=>exact absurd rfl eg
  | cons a b=>simp
 clear eg
 have Wo:(hR x= true∧t.size≤4000∧ls.length≤30∧oN x t= true∧jG x t= tB x ls ls.length)∨(oN x t= false∧jG x t= []∧(hR x= false∨hR x= true∧(¬t.size≤4000∨t.size≤4000∧¬ls.length≤30))):=by
  cases aG:hR x
  ·exact .inr ⟨(Qp aG).1,(Qp aG).2,.inl rfl⟩
  ·by_cases h4:t.size≤4000
   ·by_cases h30:ls.length≤30
    ·rw [← mE] at h30 ⊢
     exact .inl ⟨rfl,h4,h30,Zu aG h4 h30⟩
    ·rw [← mE] at h30 ⊢
     exact .inr ⟨(Qo h30).1,(Qo h30).2,.inr ⟨rfl,.inr ⟨h4,h30⟩⟩⟩
   ·exact .inr ⟨(Qn h4).1,(Qn h4).2,.inr ⟨rfl,.inl h4⟩⟩
 rw [mE] at lX yz
 have Ec:=J (fun (aG:hR x= true) k=>KD (ls:=ls) aG k)
 obtain⟨jj,xD⟩ :∃b,oN x t= b:=⟨_,rfl⟩
 obtain⟨auE,GJ⟩ :∃l,jG x t= l:=⟨_,rfl⟩
 rw [xD,GJ] at Wo ⊢
 clear mE xD GJ
 go_in
 go_upto_region 1 with fail
 refine cR fun aH av aO=>?_
 have I:=av
 obtain⟨eb,ds,du,ew,fm,hJ,ia,fW,td,si,yF⟩:=aO.bQ
 have auu:=I.size
 go_upto_region 2 with fail
 have nC:=aX.made (sz:=1) (f:=Str.cells) aH (B:=w.heap.size) I.size 9;have xv:Below aH aH (aH.alloc (.cells #[] 9)):=ca _ _
 have Of:aH.heap.size < (aH.alloc (.cells #[] 9)).heap.size:=by simp
 generalize aH.alloc (.cells #[] 9)= DD at *
 obtain⟨go,uL⟩ :∃b,b= aH.heap.size:=⟨_,rfl⟩
 rw [← uL] at nC Of ⊢
 clear uL eb ds du ew fm hJ ia fW td si yF;replace aO:=aO.to xv;have vH:=ai I xv;have auw:=vH.size;clear I xv
 go_wp2_with fail
 refine (lX.out DD).mono ?_
 rintro e bA ⟨Mt,wn,rfl,oS,bC⟩
 have I:=ai vH bC;replace aO:=aO.to bC;replace nC:=nC.bh bC
 obtain⟨my,aaz,Fs⟩:=Di oS Ou
 injection Fs with Ft _ Fu
 subst Ft
 subst Fu
 have uM:DD.heap.size≤my:=(oS.lt my rfl).1
 have NE:oB (.slice go 0 0) (.slice my ls wn):=fun k h1 h2=>by have e1:go= k:=Option.some.inj h1;have e2:my= k:=Option.some.inj h2;omega
 have oT:=oS.base (B':=w.heap.size) (by have:=I.size;omega);clear oS;have fu:=J aO;have qp:=J nC;have rq:=J oT;have kZ:=J NE;clear nC oT NE Of uM;have cE:=aO.bQ;have SZ:=aO.lt
 go_upto_region 3 with fail
 have BC:=J I
 rcases Wo with ⟨aG,h4,h30,rfl,rfl⟩ | ⟨rfl,rfl,hn⟩
 rotate_left
 ·skip
  have yV:∃Ku Kv Kw:Bool,hR x= Ku∧decide ((4000:Int) < (t.size:Int))= Kv∧decide ((30:Int) < (ls.length:Int))= Kw∧(Ku= false∨Kv= true∨Kw= true):=by
   refine⟨_,_,_,rfl,rfl,rfl,?_⟩
   rcases hn with h | ⟨_,h | ⟨_,h⟩⟩
   ·exact .inl h
   ·exact .inr (.inl (decide_eq_true (by omega)))
   ·exact .inr (.inr (decide_eq_true (by omega)))
  obtain⟨Ku,Kv,Kw,Vl,gY,fs,NU⟩:=yV
  have Ie:=J Vl;clear Vl hn
  go_wp2_with fail
  refine (CY x an ar ak al aA c0 au c2 c3 c4 cB.out.h0 cB.out.h1 cB.out.h2 cB.out.h3 cB.out.h4 cb _ Ie.out bA (eu.out.ft.U I) (eu.out.dz.U I) (eu.out.r2.U I) (eu.out.gG.U I) (eu.out.lF.U I) cB.out.dP cB.out.eh cB.out.cm cB.out.dS cB.out.gD).mono ?_
  rintro e cf ⟨rfl,bC⟩
  clear cE SZ;have fQ:=J (qp.out.bh bC);have hB:=ai BC.out bC
  cases Ku
  ·go_wp2
   go_ret2
   exact⟨some ⟨go,0,none⟩,0,rfl,fQ.out,hB⟩
  ·cases Kv
   ·obtain rfl:Kw= true:=by rcases NU with h | h | h <;> first | exact h | cases h
    clear NU
    go_wp2
    go_ret2
    exact⟨some ⟨go,0,none⟩,0,rfl,fQ.out,hB⟩
   ·clear NU
    go_wp2
    go_ret2
    exact⟨some ⟨go,0,none⟩,0,rfl,fQ.out,hB⟩
 ·have Ie:=J aG
  have gY:decide ((4000:Int) < (t.size:Int))= false:=decide_eq_false (by omega);have fs:decide ((30:Int) < (ls.length:Int))= false:=decide_eq_false (by omega);clear aG
  go_wp2_with fail
  refine (CY x an ar ak al aA c0 au c2 c3 c4 cB.out.h0 cB.out.h1 cB.out.h2 cB.out.h3 cB.out.h4 cb _ Ie.out bA (eu.out.ft.U I) (eu.out.dz.U I) (eu.out.r2.U I) (eu.out.gG.U I) (eu.out.lF.U I) cB.out.dP cB.out.eh cB.out.cm cB.out.dS cB.out.gD).mono ?_
  rintro e cf ⟨rfl,bC⟩
  clear cE SZ;have hb:=J (fu.out.U bC fu.out.lt);have jI:=J (qp.out.bh bC);have Et:=J (rq.out.bh bC);have Ee:=kZ;have pw:=J (ai BC.out bC);clear aO fu qp rq kZ BC I
  go_upto_region 7 with fail
  clear gY fs
  go_loopw [6,9] (fun v i wr=>∃(k:Nat) (n:et) (eR:List Str) (Y:Option Addr) (y:Nat) (cI:Option Addr) (e0:Nat) (cC:Option Addr) (e1:Nat) (cV:Option Addr) (e2:Nat) (cW:Option Addr) (e3:Nat) (cL:Option Addr) (e4:Nat),v= .slice Y eR y∧i= .int .i64 k∧k≤ls.length∧Hid (tA x ls k= n∧tB x ls k= eR)∧ed cI cC cV cW cL e0 e1 e2 e3 e4 n.bx n.bH n.bJ n.bM n.bt∧py w wr cI e0 cC e1 cV e2 cW e3 cL e4 n.bx n.bH n.bJ n.bM n.bt∧aC wr w.heap.size 46 #[.slice cI n.bx e0,.slice cC n.bH e1,n.de,n.cU,n.dH,.slice cV n.bJ e2,.slice cW n.bM e3,.slice cL n.bt e4,n.ef,n.eo,n.dR]∧aX w 9 1 Str.cells wr (.slice Y eR y) eR∧aX w 9 1 hj wr (.slice my ls wn) ls∧oB (.slice Y eR y) (.slice my ls wn)∧Below w w wr) (fun _ i _=>ls.length - (intOf i).toNat)
  case atStart=>exact⟨0,x,[],_,_,an,c0,ar,au,ak,c2,al,c3,aA,c4,rfl,rfl,Nat.zero_le _,J ⟨rfl,rfl⟩,cB.out,.inl eu.out,hb.out,jI.out,Et.out,Ee.out,pw.out⟩
  case round=>
   clear hb pw jI Et Ee
   obtain⟨k,n,eR,Y,y,cI,e0,cC,e1,cV,e2,cW,e3,cL,e4,rfl,rfl,ax,dW,hC,nx,aO,nC,oT,NE,I⟩:=hrel
   have pZ:=J hC;have LJ:=J nx;have qp:=J nC;have rq:=J oT;have kZ:=J NE;clear hC nx nC oT NE
   by_cases bn:k < ls.length
   ·have aT:=List.getElem?_eq_getElem bn
    obtain⟨l,hle⟩ :∃l,ls[k]= l:=⟨_,rfl⟩
    rw [hle] at aT;clear hle
    have mE:=yz.out l (List.mem_of_getElem? aT);have cJ:=J aT;clear aT;have Gk:Hid (hR n= true):=J (by rw [← dW.out.1];exact Ec.out Ie.out k);have nz:=J (fun W (bN:dL W cI cC cV cW cL n.bx n.bH n.bJ n.bM n.bt)=>apD n cI cC cV cW cL e0 e1 e2 e3 e4 pZ.out (IX Gk.out).Ps l (by omega) W bN);have Iy:=J aO
    obtain⟨eL,gB⟩ :∃X:World→Prop,∀V,X V↔Below wr wr V:=⟨_,fun _=>Iff.rfl⟩
    have db:=J gB;clear gB
    haveI:Nonempty (cP eL):=⟨⟨wr,(db.out _).2 (Below.refl _ _)⟩⟩
    haveI:Nonempty (cP (fun _=>True)):=⟨⟨wr,trivial⟩⟩
    have cE:=aC.ru (fun K:cP eL=>Iy.out.U ((db.out _).1 K.holds) Iy.out.lt)
    have g0:=fun K:cP eL=>qm (rq.out.bh ((db.out _).1 K.holds)) jM cJ.out (i:=0) (u:= .string l) rfl
    simp only [Nat.mul_one,Nat.add_zero] at g0
    have Jv:=(rq.out.lt my rfl).2;clear aO
    go_upto_region 9 with fail
    refine HR eL [([0,1,2,3,4],[],5,false),([],[6,7,8],9,true)] [] [10] (by kernel_rfl) (by kernel_rfl) ((db.out _).2 (Below.refl _ _).drew) ?_
    refine pn fun hH eN=>?_
    change wpQuiet _ _ _ _ (_ ::_ ::_ ::_ ::_ ::[]) _
    repeat (go_big_quiet_step (fail))
    refine wpQuiet_nil ?_
    refine wpQuiet_nil ?_
    change wpList _ _ _ (_ ::[]) _ _
    have gL:Below wr wr wr.drew:=(Below.refl _ _).drew
    generalize wr.drew= wd at *
    clear cE g0 Jv
    go_wp2_with fail
    refine (nz.out wd ((LJ.out.rd I).U gL)).mono ?_
    rintro e bA ⟨n2,z,rh,f0,ri,f1,rj,f2,rl,f3,rm,f4,rfl,tn,mY,bC⟩
    have hB:=ai gL bC
    go_wp2
    refine yC ((db.out _).2 hB) (eN _ _ ?_)
    have Cx:=ai I hB;have sV:=J (Iy.out.U hB Iy.out.lt);have Eg:=J (qp.out.bh hB);have Ei:=J (rq.out.bh hB);have Iq:=J (mY.base (B':=w.heap.size) (by have:=I.size;have:=gL.size;omega));clear mY
    have akm:z.size≤200:=by rw [← tn.out.2];exact MF _ _
    have CJ:Hid (hR n2= true):=J (by rw [← tn.out.1];exact MG Gk.out)
    have xM:z.size≤maxLen:=by unfold maxLen;omega
    refine pn fun gr dX=>?_
    refine wpQuiet_nil ?_
    change wpQuiet _ _ _ _ (_ ::_ ::_ ::[]) _
    repeat (go_big_quiet_step (fail))
    refine wpQuiet_nil ?_
    change wpList _ _ _ (_ ::[]) _ _
    have bG:=sV.out.bQ;have Fy:=sV.out.gS;have Lc:=sV.out.lt
    go_wp2
    clear bG Fy Lc
    refine hE 0 fun cQ aD=>?_
    refine yB (dX _ _ ?_)
    refine zC ?_
    refine wpQuiet_nil ?_
    change wpQuiet _ _ _ _ (_ ::[]) _
    repeat (go_big_quiet_step (fail))
    refine wpQuiet_nil ?_
    have ec:aC cQ w.heap.size 46 #[.slice rh n2.bx f0,.slice ri n2.bH f1,n2.de,n2.cU,n2.dH,.slice rj n2.bJ f2,.slice rl n2.bM f3,.slice rm n2.bt f4,n2.ef,n2.eo,n2.dR]:=aD.own sV.out;have xq:=Eg.out.kept aD.fG (fun k ax e=>Eg.out.pf sV.out (by decide) k ax (Option.some.inj e))
    have FM:=Ei.out.kept aD.fG (fun k ax e=>Ei.out.pf sV.out (by decide) k ax (Option.some.inj e));have FL:=Iq.out.gw sV.out aD.fG;have th:=aD.aG Cx;clear aD;have sU:=J ec;have Eh:=J FM;have LI:=J FL;have lb:Hid (eR.length= k):=J (by rw [← dW.out.2];exact KE k ax);clear ec FM FL
    go_wp2_with (at_builtin;refine kJ rfl _ _ 57 rfl w.heap.size 9 i0 _ 1 16 Tryz.underlying57 hi dk dx dC rfl (by decide) Str.cells ZX ZZ _ (eR) rfl (xq.alloc _) ⟨cQ.heap.size,0,none⟩ 1 ((⟨z,xM⟩ :Str)) rfl (aJ.one (⟨z,xM⟩ :Str) _) (by have:=lb.out;unfold maxLen;omega) (by have:=lb.out;omega) (by have:=th.size;simp;omega) ?_;intro v4 cf eX fs kC)
    obtain⟨Nh,TK,rfl⟩:=Di eX (by simp)
    have gu:Below w w cf:=(th.alloc th.size _).grown fs (by have:=th.size;simp;omega) (fun q bf=>(xq.lt q bf).1);have jc:=(sU.out.alloc (.cells #[z] 9)).jO fs (fun e=>xq.pf sU.out (by decide) _ e.symm rfl);have UT:=aX.ne (Eh.out.alloc _) fs kZ.out;have UQ:=kZ.out.step (fun q bf=>((Eh.out.alloc (.cells #[z] 9)).lt q bf).2) kC
    have UO:py w cf rh f0 ri f1 rj f2 rl f3 rm f4 n2.bx n2.bH n2.bJ n2.bM n2.bt:=py.Xi (.inr (LI.out.bh (ca _ _))) (xq.alloc _) fs
    have VL:ed rh ri rj rl rm f0 f1 f2 f3 f4 n2.bx n2.bH n2.bJ n2.bM n2.bt:=by
     have:=IX CJ.out
     exact Iq.out.JQ this.km this.jR this.oK this.ts this.xQ
    exact adi
   ·exact abN
open Go.RowKit Go.G9
theorem MN (A gK:Option Addr) (c cO:Nat) (xs:List Str) (bd:xs.length≤1048576) (w:World) (bN:aJ 1 Str.cells w A xs) (vW:aJ 1 Str.cells w gK xs):
 Calls Tryz.prog 37 #[.slice A xs c,.slice gK xs cO] w fun e ah=>e= .returned true∧Below w w ah:=by
 go_in
 exact acJ
open Go.RowKit Go.G9
theorem aqk (x:et) (an ar ak al aA:Option Addr) (c0 au c2 c3 c4:Nat) (h0:x.bx.length≤1048576) (h1:x.bH.length≤1048576) (h2:x.bJ.length≤1048576) (h3:x.bM.length≤1048576) (h4:x.bt.length≤1048576) (cb:x.ef.size + x.eo.size≤1048576) (t:ByteArray) (cA:t.size≤1048576) (w:World) (aW:aJ 7 aM.cells w an x.bx) (aV:aJ 3 aN.cells w ar x.bH) (bm:aJ 1 bU w ak x.bJ) (bl:aJ 3 aK.cells w al x.bM) (bZ:aJ 3 Out.cells w aA x.bt) (n0:an= none→x.bx= []∧c0= 0) (n1:ar= none→x.bH= []∧au= 0) (n2:ak= none→x.bJ= []∧c2= 0) (n3:al= none→x.bM= []∧c3= 0) (n4:aA= none→x.bt= []∧c4= 0) (dP:x.bx.length≤c0) (eh:x.bH.length≤au) (cm:x.bJ.length≤c2) (dS:x.bM.length≤c3) (gD:x.bt.length≤c4):
 Calls Tryz.prog 26 #[.agg #[.slice an x.bx c0,.slice ar x.bH au,x.de,x.cU,x.dH,.slice ak x.bJ c2,.slice al x.bM c3,.slice aA x.bt c4,x.ef,x.eo,x.dR],t] w fun e ah=>∃D d,e= .returned (.tuple #[.slice D (jG x t).length d,.bool (oN x t)])∧aX w 9 1 Str.cells ah (.slice D (jG x t).length d) (jG x t)∧Below w w ah:=
 aql x an ar ak al aA c0 au c2 c3 c4 ⟨h0,h1,h2,h3,h4,n0,n1,n2,n3,n4,dP,eh,cm,dS,gD⟩ cb t cA w ⟨aW,aV,bm,bl,bZ⟩
theorem WM (x:et) (an ar ak al aA:Option Addr) (c0 au c2 c3 c4:Nat) (h0:x.bx.length≤1048576) (h1:x.bH.length≤1048576) (h2:x.bJ.length≤1048576) (h3:x.bM.length≤1048576) (h4:x.bt.length≤1048576) (cb:x.ef.size + x.eo.size≤1048576) (t:ByteArray) (cA:t.size≤1048576) (w:World) (aW:aJ 7 aM.cells w an x.bx) (aV:aJ 3 aN.cells w ar x.bH) (bm:aJ 1 bU w ak x.bJ) (bl:aJ 3 aK.cells w al x.bM) (bZ:aJ 3 Out.cells w aA x.bt) (n0:an= none→x.bx= []∧c0= 0) (n1:ar= none→x.bH= []∧au= 0) (n2:ak= none→x.bJ= []∧c2= 0) (n3:al= none→x.bM= []∧c3= 0) (n4:aA= none→x.bt= []∧c4= 0) (dP:x.bx.length≤c0) (eh:x.bH.length≤au) (cm:x.bJ.length≤c2) (dS:x.bM.length≤c3) (gD:x.bt.length≤c4) (bP:ov w):
 Calls Tryz.prog 25 #[.agg #[.slice an x.bx c0,.slice ar x.bH au,x.de,x.cU,x.dH,.slice ak x.bJ c2,.slice al x.bM c3,.slice aA x.bt c4,x.ef,x.eo,x.dR],t] w fun e ah=>∃D d,e= .returned (.tuple #[.slice D (jG x t).length d,.bool (oN x t)])∧aX w 9 1 Str.cells ah (.slice D (jG x t).length d) (jG x t)∧Below w w ah:=
 alr x an ar ak al aA c0 au c2 c3 c4 ⟨h0,h1,h2,h3,h4,n0,n1,n2,n3,n4,dP,eh,cm,dS,gD⟩ cb t cA w ⟨aW,aV,bm,bl,bZ⟩ bP
theorem Du (x:et) (t:ByteArray):(jG x t).length≤1048576:=Nat.le_trans (aqy x t) (by decide)
open Go.RowKit Go.G9
theorem amy (x:et) (akf:x.ef.size≤maxLen) (akg:x.eo.size≤maxLen) (vA vB vC vD vE:Option Addr) (xc xd xe xf xg:Nat) (aka:x.bx.length≤maxLen) (akb:x.bH.length≤maxLen) (akc:x.bJ.length≤maxLen) (akd:x.bM.length≤maxLen) (ake:x.bt.length≤maxLen) (t:ByteArray) (cA:t.size≤maxLen) (w:World) (EV:aJ 7 aM.cells w vA x.bx) (IF:aJ 3 aN.cells w vB x.bH) (IG:aJ 1 bU w vC x.bJ) (IH:aJ 3 aK.cells w vD x.bM) (II:aJ 3 Out.cells w vE x.bt) (bP:ov w):
 Calls Tryz.prog 7 #[.agg #[.slice vA x.bx xc,.slice vB x.bH xd,x.de,x.cU,x.dH,.slice vC x.bJ xe,.slice vD x.bM xf,.slice vE x.bt xg,x.ef,x.eo,x.dR],t] w fun e ah=>e= .returned true∧Below w w ah:=by
 by_cases AE:t.size≤1048576
 case neg=>
  unfold maxLen at cA
  go_in
  go_wp2
  go_ret
  exact⟨rfl,aw⟩
 go_in
 go_wp2_with fail
 refine (aqZ x vA vB vC vD vE xc xd xe xf xg aka akb akc akd ake akf akg 1048576 (by omega) (by omega) _ (EV.U aw)).mono ?_
 rintro e bg ⟨ft,rfl,aub,qR,Oo,bE⟩
 have av:=be w bE;have ch:=av.size;have I:Below w w bg:=av;have ff:aC bg (w.heap.size) 78 #[.slice vA x.bx xc,.slice vB x.bH xd,x.de,x.cU,x.dH,.slice vC x.bJ xe,.slice vD x.bM xf,.slice vE x.bt xg,x.ef,x.eo,x.dR]:=aC.U (by repeat (first | exact aC.new _ _ _ | exact aC.Hk _ _ _ _ | exact aC.Ki _ _ _ _ _ | refine aC.alloc ?_ _)) bE (by simp <;> omega)
 have auI:=ff.lt
 obtain⟨jX,jY,ka,kb,kc,kd,ke,kf,kg,kh,jZ⟩:=ff.bQ
 by_cases h00:ft < 0
 ·go_wp2
  go_ret
  exact⟨rfl,ai I aw⟩
 clear jX jY ka kb kc kd ke kf kg kh jZ
 have xF:x.bx.length≤1048576:=by omega
 have xG:x.bH.length≤1048576:=by omega
 have xH:x.bJ.length≤1048576:=by omega
 have xI:x.bM.length≤1048576:=by omega
 have xJ:x.bt.length≤1048576:=by omega
 have AG:x.ef.size + x.eo.size≤1048576:=by omega
 clear Oo
 obtain⟨jX,jY,ka,kb,kc,kd,ke,kf,kg,kh,jZ⟩:=ff.bQ
 go_wp2_with fail
 refine (KU x vA vB vC vD vE xc xd xe xf xg xF xG xH xI xJ AG _ (EV.U (ai I aw)) (IF.U (ai I aw)) (IG.U (ai I aw)) (IH.U (ai I aw)) (II.U (ai I aw))).mono ?_
 rintro e aQ ⟨Rx,Ry,Rz,RA,RB,rfl,EI,EJ,EK,EL,EM,asC,aP⟩
 clear jX jY ka kb kc kd ke kf kg kh jZ;have ao:=be bg aP;have z2:=ao.size;replace I:=ai I ao;replace ff:=ff.to ao
 have aum:vO [.slice Rx x.bx x.bx,.slice Ry x.bH x.bH,.slice Rz x.bJ x.bJ,.slice RA x.bM x.bM,.slice RB x.bt x.bt] (bg.heap.size) (aQ.heap.size):=by
  intro v az k ax
  simp only [List.mem_cons,List.not_mem_nil,or_false] at az
  rcases az with rfl | az
  ·have h:=EI.lt k ax;(try simp at h);omega
  rcases az with rfl | az
  ·have h:=EJ.lt k ax;(try simp at h);omega
  rcases az with rfl | az
  ·have h:=EK.lt k ax;(try simp at h);omega
  rcases az with rfl | az
  ·have h:=EL.lt k ax;(try simp at h);omega
  subst az
  have h:=EM.lt k ax
  (try simp at h)
  omega
 obtain⟨jX,jY,ka,kb,kc,kd,ke,kf,kg,kh,jZ⟩:=ff.bQ
 go_wp2_with fail
 refine (aqk x Rx Ry Rz RA RB x.bx.length x.bH.length x.bJ.length x.bM.length x.bt.length xF xG xH xI xJ AG t AE _ (EI.fk.U aw) (EJ.fk.U aw) (EK.fk.U aw) (EL.fk.U aw) (EM.fk.U aw) EI.mJ EJ.mJ EK.mJ EL.mJ EM.mJ (Nat.le_refl _) (Nat.le_refl _) (Nat.le_refl _) (Nat.le_refl _) (Nat.le_refl _)).mono ?_
 rintro e bA ⟨HY,IZ,rfl,kL,bC⟩
 clear jX jY ka kb kc kd ke kf kg kh jZ;have aL:=be aQ bC;have z3:=aL.size;replace I:=ai I aL;replace EI:=EI.bh aL;replace EJ:=EJ.bh aL;replace EK:=EK.bh aL;replace EL:=EL.bh aL;replace EM:=EM.bh aL;replace ff:=ff.to aL
 have WX:vO [.slice HY (jG x t).length IZ] (aQ.heap.size) (bA.heap.size):=by
  intro v az k ax
  simp only [List.mem_cons,List.not_mem_nil,or_false] at az
  subst az
  have h:=kL.lt k ax
  (try simp at h)
  omega
 obtain⟨jX,jY,ka,kb,kc,kd,ke,kf,kg,kh,jZ⟩:=ff.bQ
 go_wp2_with fail
 refine (KU x vA vB vC vD vE xc xd xe xf xg xF xG xH xI xJ AG _ (EV.U (ai I aw)) (IF.U (ai I aw)) (IG.U (ai I aw)) (IH.U (ai I aw)) (II.U (ai I aw))).mono ?_
 rintro e cf ⟨zG,zH,zI,zJ,zK,rfl,ua,ub,uc,ud,ue,afM,cZ⟩
 clear jX jY ka kb kc kd ke kf kg kh jZ;have bV:=be bA cZ;have z4:=bV.size;replace I:=ai I bV;replace kL:=kL.bh bV;replace ff:=ff.to bV
 have GV:vO [.slice zG x.bx x.bx,.slice zH x.bH x.bH,.slice zI x.bJ x.bJ,.slice zJ x.bM x.bM,.slice zK x.bt x.bt] (bA.heap.size) (cf.heap.size):=by
  intro v az k ax
  simp only [List.mem_cons,List.not_mem_nil,or_false] at az
  rcases az with rfl | az
  ·have h:=ua.lt k ax;(try simp at h);omega
  rcases az with rfl | az
  ·have h:=ub.lt k ax;(try simp at h);omega
  rcases az with rfl | az
  ·have h:=uc.lt k ax;(try simp at h);omega
  rcases az with rfl | az
  ·have h:=ud.lt k ax;(try simp at h);omega
  subst az
  have h:=ue.lt k ax
  (try simp at h)
  omega
 have afw:w.heap.size < cf.heap.size:=by have h:=ff.lt;omega
 obtain⟨jX,jY,ka,kb,kc,kd,ke,kf,kg,kh,jZ⟩:=ff.bQ
 go_wp2_with fail
 refine (WM x zG zH zI zJ zK x.bx.length x.bH.length x.bJ.length x.bM.length x.bt.length xF xG xH xI xJ AG t AE _ (ua.fk.U aw) (ub.fk.U aw) (uc.fk.U aw) (ud.fk.U aw) (ue.fk.U aw) ua.mJ ub.mJ uc.mJ ud.mJ ue.mJ (Nat.le_refl _) (Nat.le_refl _) (Nat.le_refl _) (Nat.le_refl _) (Nat.le_refl _) (bP.U (ai I aw))).mono ?_
 rintro e dE ⟨Bx,BZ,rfl,sX,ek⟩
 clear afw jX jY ka kb kc kd ke kf kg kh jZ;have cG:=be cf ek;have z5:=cG.size;replace I:=ai I cG;replace kL:=kL.bh cG;replace ua:=ua.bh cG;replace ub:=ub.bh cG;replace uc:=uc.bh cG;replace ud:=ud.bh cG;replace ue:=ue.bh cG;replace ff:=ff.to cG;have fw:aC dE (cf.heap.size) 46 #[.slice zG x.bx x.bx,.slice zH x.bH x.bH,x.de,x.cU,x.dH,.slice zI x.bJ x.bJ,.slice zJ x.bM x.bM,.slice zK x.bt x.bt,x.ef,x.eo,x.dR]:=aC.U (by repeat (first | exact aC.new _ _ _ | exact aC.Hk _ _ _ _ | exact aC.Ki _ _ _ _ _ | refine aC.alloc ?_ _)) ek (by simp <;> omega)
 have auJ:=fw.lt
 have GU:vO [.slice Bx (jG x t).length BZ] (cf.heap.size + 1) (dE.heap.size):=by
  intro v az k ax
  simp only [List.mem_cons,List.not_mem_nil,or_false] at az
  subst az
  have h:=sX.lt k ax
  (try simp at h)
  omega
 obtain⟨jX,jY,ka,kb,kc,kd,ke,kf,kg,kh,jZ⟩:=ff.bQ
 obtain⟨nE,nF,nH,nI,nJ,nK,nL,nM,nN,nO,nG⟩:=fw.bQ
 go_wp2_with fail
 refine (MN Bx HY BZ IZ (jG x t) (Du x t) _ (sX.fk.U aw) (kL.fk.U aw)).mono ?_
 rintro e hX ⟨rfl,pE⟩
 clear jX jY ka kb kc kd ke kf kg kh jZ;clear nE nF nH nI nJ nK nL nM nN nO nG;have fb:=be dE pE;have fl:=fb.size;replace I:=ai I fb;replace kL:=kL.bh fb;replace ua:=ua.bh fb;replace ub:=ub.bh fb;replace uc:=uc.bh fb;replace ud:=ud.bh fb;replace ue:=ue.bh fb;replace sX:=sX.bh fb
 replace ff:=ff.to fb;replace fw:=fw.to fb
 have sY:∀W,Below hX hX W→aC W (w.heap.size) 78 #[.slice vA x.bx xc,.slice vB x.bH xd,x.de,x.cU,x.dH,.slice vC x.bJ xe,.slice vD x.bM xf,.slice vE x.bt xg,x.ef,x.eo,x.dR]:=fun W h=>ff.to h
 have sZ:∀W,Below hX hX W→aC W (cf.heap.size) 46 #[.slice zG x.bx x.bx,.slice zH x.bH x.bH,x.de,x.cU,x.dH,.slice zI x.bJ x.bJ,.slice zJ x.bM x.bM,.slice zK x.bt x.bt,x.ef,x.eo,x.dR]:=fun W h=>fw.to h
 have jX:=fun W bK=>((sY W bK).cell 0).trans (show _= some (.slice vA x.bx xc) from rfl)
 have jY:=fun W bK=>((sY W bK).cell 1).trans (show _= some (.slice vB x.bH xd) from rfl)
 have ka:=fun W bK=>((sY W bK).cell 2).trans (show _= some (.int .i64 x.de) from rfl)
 have kb:=fun W bK=>((sY W bK).cell 3).trans (show _= some (.int .i64 x.cU) from rfl)
 have kc:=fun W bK=>((sY W bK).cell 4).trans (show _= some (.int .i64 x.dH) from rfl)
 have kd:=fun W bK=>((sY W bK).cell 5).trans (show _= some (.slice vC x.bJ xe) from rfl)
 have ke:=fun W bK=>((sY W bK).cell 6).trans (show _= some (.slice vD x.bM xf) from rfl)
 have kf:=fun W bK=>((sY W bK).cell 7).trans (show _= some (.slice vE x.bt xg) from rfl)
 have kg:=fun W bK=>((sY W bK).cell 8).trans (show _= some (.string x.ef) from rfl)
 have kh:=fun W bK=>((sY W bK).cell 9).trans (show _= some (.string x.eo) from rfl)
 have jZ:=fun W bK=>((sY W bK).cell 10).trans (show _= some (.int .i64 x.dR) from rfl)
 have nE:=fun W bK=>((sZ W bK).cell 0).trans (show _= some (.slice zG x.bx x.bx) from rfl)
 have nF:=fun W bK=>((sZ W bK).cell 1).trans (show _= some (.slice zH x.bH x.bH) from rfl)
 have nH:=fun W bK=>((sZ W bK).cell 2).trans (show _= some (.int .i64 x.de) from rfl)
 have nI:=fun W bK=>((sZ W bK).cell 3).trans (show _= some (.int .i64 x.cU) from rfl)
 have nJ:=fun W bK=>((sZ W bK).cell 4).trans (show _= some (.int .i64 x.dH) from rfl)
 have nK:=fun W bK=>((sZ W bK).cell 5).trans (show _= some (.slice zI x.bJ x.bJ) from rfl)
 have nL:=fun W bK=>((sZ W bK).cell 6).trans (show _= some (.slice zJ x.bM x.bM) from rfl)
 have nM:=fun W bK=>((sZ W bK).cell 7).trans (show _= some (.slice zK x.bt x.bt) from rfl)
 have nN:=fun W bK=>((sZ W bK).cell 8).trans (show _= some (.string x.ef) from rfl)
 have nO:=fun W bK=>((sZ W bK).cell 9).trans (show _= some (.string x.eo) from rfl)
 have nG:=fun W bK=>((sZ W bK).cell 10).trans (show _= some (.int .i64 x.dR) from rfl)
 clear sY sZ
 go_wp2
 go_region_held3 (fun W=>Below hX hX W) (first | exact (Below.refl _ _).drew | assumption) ((first
  | (go_at_call 36;refine (KU x vA vB vC vD vE xc xd xe xf xg xF xG xH xI xJ AG _ (EV.U (ai I (Below.refl _ _).drew)) (IF.U (ai I (Below.refl _ _).drew)) (IG.U (ai I (Below.refl _ _).drew)) (IH.U (ai I (Below.refl _ _).drew)) (II.U (ai I (Below.refl _ _).drew))).mono ?_;rintro e zA ⟨aeb,aec,aed,aee,aef,rfl,afq,afr,afs,aft,afu,_,uB⟩;have CD:Below hX hX zA:=ai (Below.refl _ _).drew uB)
  | (go_at_call 38;refine (agM x zG zH zI zJ zK aeb aec aed aee aef x.bx.length x.bH.length x.bJ.length x.bM.length x.bt.length x.bx.length x.bH.length x.bJ.length x.bM.length x.bt.length xF xG xH xI xJ _ (ua.fk.U CD) (ub.fk.U CD) (uc.fk.U CD) (ud.fk.U CD) (ue.fk.U CD) afq.fk afr.fk afs.fk aft.fk afu.fk).mono ?_;rintro e om ⟨rfl,Gb⟩;have uO:Below hX hX om:=ai CD Gb)))
 clear jX jY ka kb kc kd ke kf kg kh jZ nE nF nH nI nJ nK nL nM nN nO nG;have iQ:=uO.size;replace I:=ai I uO;replace kL:=kL.bh uO;replace ua:=ua.bh uO;replace ub:=ub.bh uO;replace uc:=uc.bh uO;replace ud:=ud.bh uO;replace ue:=ue.bh uO;replace sX:=sX.bh uO;replace ff:=ff.to uO
 replace fw:=fw.to uO
 obtain⟨jX,jY,ka,kb,kc,kd,ke,kf,kg,kh,jZ⟩:=ff.bQ
 obtain⟨nE,nF,nH,nI,nJ,nK,nL,nM,nN,nO,nG⟩:=fw.bQ
 go_wp2_with fail
 refine (amX x zG zH zI zJ zK x.bx.length x.bH.length x.bJ.length x.bM.length x.bt.length xF xG xH xI xJ (1) (by omega) (by omega) _ ua ub uc ud ue afM).mono ?_
 rintro e mP ⟨rfl,ass,ast,asu,asv,asw,wS⟩
 clear jX jY ka kb kc kd ke kf kg kh jZ;clear nE nF nH nI nJ nK nL nM nN nO nG;have z9:=wS.size;replace I:=I.trans (wS.U GV (by omega) I.size);replace kL:=kL.zi wS WX GV (by simp) (by omega);replace sX:=sX.zi wS GU GV (by simp) (by omega);replace ff:=ff.zi wS GV (by omega);replace fw:=fw.zi wS GV (by omega)
 obtain⟨jX,jY,ka,kb,kc,kd,ke,kf,kg,kh,jZ⟩:=ff.bQ
 obtain⟨nE,nF,nH,nI,nJ,nK,nL,nM,nN,nO,nG⟩:=fw.bQ
 go_wp2_with fail
 refine (MN Bx HY BZ IZ (jG x t) (Du x t) _ (sX.fk.U aw) (kL.fk.U aw)).mono ?_
 rintro e HL ⟨rfl,Ga⟩
 clear jX jY ka kb kc kd ke kf kg kh jZ;clear nE nF nH nI nJ nK nL nM nN nO nG;have CK:=be mP Ga;have iP:=CK.size;replace I:=ai I CK;replace kL:=kL.bh CK;replace sX:=sX.bh CK;replace ff:=ff.to CK;replace fw:=fw.to CK
 obtain⟨jX,jY,ka,kb,kc,kd,ke,kf,kg,kh,jZ⟩:=ff.bQ
 obtain⟨nE,nF,nH,nI,nJ,nK,nL,nM,nN,nO,nG⟩:=fw.bQ
 go_wp2_with fail
 refine (ang _ Bx BZ (jG x t) (Du x t) (1) (by omega) (by omega) _ sX).mono ?_
 rintro e arM ⟨rfl,sW,aiZ⟩
 have Ea:=Cl aiZ;clear jX jY ka kb kc kd ke kf kg kh jZ;clear nE nF nH nI nJ nK nL nM nN nO nG;have auQ:=Ea.size;replace I:=I.trans (Ea.U GU (by omega) I.size);replace kL:=kL.zi Ea WX GU (by simp) (by omega);replace ff:=ff.zi Ea GU (by omega);replace fw:=fw.zi Ea GU (by omega)
 obtain⟨jX,jY,ka,kb,kc,kd,ke,kf,kg,kh,jZ⟩:=ff.bQ
 obtain⟨nE,nF,nH,nI,nJ,nK,nL,nM,nN,nO,nG⟩:=fw.bQ
 go_wp2_with fail
 refine (Vv Bx BZ _ (Du x t) (1) (by omega) (by omega) _ (sW.fk.U aw)).mono ?_
 rintro e aan ⟨rfl,aiD⟩
 clear jX jY ka kb kc kd ke kf kg kh jZ;clear nE nF nH nI nJ nK nL nM nN nO nG;have CL:=be arM aiD;have z12:=CL.size;replace I:=ai I CL;replace kL:=kL.bh CL;replace sW:=sW.bh CL;replace ff:=ff.to CL;replace fw:=fw.to CL
 obtain⟨jX,jY,ka,kb,kc,kd,ke,kf,kg,kh,jZ⟩:=ff.bQ
 obtain⟨nE,nF,nH,nI,nJ,nK,nL,nM,nN,nO,nG⟩:=fw.bQ
 go_wp2_with fail
 refine (KU x vA vB vC vD vE xc xd xe xf xg xF xG xH xI xJ AG _ (EV.U (ai I aw)) (IF.U (ai I aw)) (IG.U (ai I aw)) (IH.U (ai I aw)) (II.U (ai I aw))).mono ?_
 rintro e QJ ⟨RC,RD,RE,RF,RG,rfl,EN,EO,EP,ER,ES,asD,aiE⟩
 clear jX jY ka kb kc kd ke kf kg kh jZ;clear nE nF nH nI nJ nK nL nM nN nO nG;have CM:=be aan aiE;have auR:=CM.size;replace I:=ai I CM;replace kL:=kL.bh CM;replace sW:=sW.bh CM;replace ff:=ff.to CM;replace fw:=fw.to CM
 have aun:vO [.slice RC x.bx x.bx,.slice RD x.bH x.bH,.slice RE x.bJ x.bJ,.slice RF x.bM x.bM,.slice RG x.bt x.bt] (aan.heap.size) (QJ.heap.size):=by
  intro v az k ax
  simp only [List.mem_cons,List.not_mem_nil,or_false] at az
  rcases az with rfl | az
  ·have h:=EN.lt k ax;(try simp at h);omega
  rcases az with rfl | az
  ·have h:=EO.lt k ax;(try simp at h);omega
  rcases az with rfl | az
  ·have h:=EP.lt k ax;(try simp at h);omega
  rcases az with rfl | az
  ·have h:=ER.lt k ax;(try simp at h);omega
  subst az
  have h:=ES.lt k ax
  (try simp at h)
  omega
 obtain⟨jX,jY,ka,kb,kc,kd,ke,kf,kg,kh,jZ⟩:=ff.bQ
 obtain⟨nE,nF,nH,nI,nJ,nK,nL,nM,nN,nO,nG⟩:=fw.bQ
 go_wp2_with fail
 refine (WM x RC RD RE RF RG x.bx.length x.bH.length x.bJ.length x.bM.length x.bt.length xF xG xH xI xJ AG t AE _ (EN.fk.U aw) (EO.fk.U aw) (EP.fk.U aw) (ER.fk.U aw) (ES.fk.U aw) EN.mJ EO.mJ EP.mJ ER.mJ ES.mJ (Nat.le_refl _) (Nat.le_refl _) (Nat.le_refl _) (Nat.le_refl _) (Nat.le_refl _) (bP.U (ai I aw))).mono ?_
 rintro e aao ⟨Rw,Tk,rfl,BQ,aiF⟩
 clear jX jY ka kb kc kd ke kf kg kh jZ;clear nE nF nH nI nJ nK nL nM nN nO nG;have uQ:=be QJ aiF;have auS:=uQ.size;replace I:=ai I uQ;replace kL:=kL.bh uQ;replace sW:=sW.bh uQ;replace EN:=EN.bh uQ;replace EO:=EO.bh uQ;replace EP:=EP.bh uQ;replace ER:=ER.bh uQ
 replace ES:=ES.bh uQ;replace ff:=ff.to uQ;replace fw:=fw.to uQ
 have aul:vO [.slice Rw (jG x t).length Tk] (QJ.heap.size) (aao.heap.size):=by
  intro v az k ax
  simp only [List.mem_cons,List.not_mem_nil,or_false] at az
  subst az
  have h:=BQ.lt k ax
  (try simp at h)
  omega
 obtain⟨jX,jY,ka,kb,kc,kd,ke,kf,kg,kh,jZ⟩:=ff.bQ
 obtain⟨nE,nF,nH,nI,nJ,nK,nL,nM,nN,nO,nG⟩:=fw.bQ
 go_wp2_with fail
 refine (MN Rw HY Tk IZ (jG x t) (Du x t) _ (BQ.fk.U aw) (kL.fk.U aw)).mono ?_
 rintro e arN ⟨rfl,aiG⟩
 clear jX jY ka kb kc kd ke kf kg kh jZ;clear nE nF nH nI nJ nK nL nM nN nO nG;have Av:=be aao aiG;have auT:=Av.size;replace I:=ai I Av;replace kL:=kL.bh Av;replace sW:=sW.bh Av;replace BQ:=BQ.bh Av;replace ff:=ff.to Av;replace fw:=fw.to Av
 obtain⟨jX,jY,ka,kb,kc,kd,ke,kf,kg,kh,jZ⟩:=ff.bQ
 obtain⟨nE,nF,nH,nI,nJ,nK,nL,nM,nN,nO,nG⟩:=fw.bQ
 go_wp2_with fail
 refine (Vv Bx BZ _ (Du x t) (1) (by omega) (by omega) _ (sW.fk.U aw)).mono ?_
 rintro e auF ⟨rfl,aiH⟩
 clear jX jY ka kb kc kd ke kf kg kh jZ;clear nE nF nH nI nJ nK nL nM nN nO nG;have Aw:=be arN aiH;have auU:=Aw.size;replace I:=ai I Aw;replace kL:=kL.bh Aw;replace sW:=sW.bh Aw;replace BQ:=BQ.bh Aw;replace ff:=ff.to Aw;replace fw:=fw.to Aw
 obtain⟨jX,jY,ka,kb,kc,kd,ke,kf,kg,kh,jZ⟩:=ff.bQ
 obtain⟨nE,nF,nH,nI,nJ,nK,nL,nM,nN,nO,nG⟩:=fw.bQ
 go_wp2
 go_ret
 exact⟨rfl,ai I aw⟩
open Go.ChangeShapes Go.WideShapes Go.ChangeAt Go.RowKit Go.Deep Go.G9
theorem anU:ownKnob Tryz.prog.godebug= none:=by kernel_rfl
theorem anT:laidOutB Tryz.prog= true:=by kernel_rfl
theorem qz:Tryz.prog.cellsOf 3= 1:=by kernel_rfl
theorem ME:Tryz.prog.cellsOf 9= 1:=by kernel_rfl
theorem Fj:Tryz.prog.cellsOf 4= 1:=by kernel_rfl
section
variable {H:Type} {enc:TypeId×Value→H} {w:World} {base:Nat} {sp:Nat→Bool} {bS:Bool} {fuel:Nat} {cs:List Value} {x:DataW H×List MemPlace}
theorem aoo (h:DataW.trod enc Tryz.prog w base sp bS fuel 3 cs= some x):∃y:Int,cs= bU y:=by
 obtain⟨n,rfl,_,_⟩:=DataW.trod_int Tryz.underlying3 h
 exact⟨n,rfl⟩
theorem agd:Tryz.prog.cellsOf 24= 3:=by kernel_rfl
theorem aop (h:DataW.trod enc Tryz.prog w base sp bS fuel 24 cs= some x):∃(d p:ByteArray) (n:Int),cs= [.string d,.string p,.int .i64 n]∧d.size≤maxLen∧p.size≤maxLen:=by
 obtain⟨xs,n,rfl,_,aT,hlen,ck⟩:=DataW.trod_struct Tryz.underlying24 h
 match cs,aT.trans agd with
 | [c0,au,c2],_=>
  obtain⟨n0,e0,dP⟩:=Qd hlen ck 0 _ rfl Tryz.underlying9 ME
  obtain⟨n1,e1,eh⟩:=Qd hlen ck 1 _ rfl Tryz.underlying9 ME
  obtain⟨n2,e2⟩:=rS hlen ck 2 _ rfl Tryz.underlying3 qz
  simp at e0 e1 e2
  subst e0 e1 e2
  exact⟨n0,n1,n2,rfl,dP,eh⟩
end
open Go.ChangeShapes Go.WideShapes Go.ChangeAt Go.RowKit Go.Deep Go.G9
section
variable {H:Type} {enc:TypeId×Value→H} {w:World} {base:Nat} {sp:Nat→Bool} {bS:Bool} {fuel:Nat} {cs:List Value} {x:DataW H×List MemPlace}
theorem Ti:Tryz.prog.cellsOf 87= 7:=by kernel_rfl
theorem aot (h:DataW.trod enc Tryz.prog w base sp bS fuel 87 cs= some x):∃y:aM,cs= y.cells:=by
 obtain⟨xs,n,rfl,_,aT,hlen,ck⟩:=DataW.trod_struct Tryz.underlying87 h
 match cs,aT.trans Ti with
 | [c0,au,c2,c3,c4,c5,rr],_=>
  obtain⟨n0,e0⟩:=rS hlen ck 0 _ rfl Tryz.underlying3 qz
  obtain⟨n1,e1,eh⟩:=Qd hlen ck 1 _ rfl Tryz.underlying9 ME
  obtain⟨n2,e2⟩:=rS hlen ck 2 _ rfl Tryz.underlying3 qz
  obtain⟨n3,e3⟩:=Hz hlen ck 3 _ rfl Tryz.underlying4 Fj
  obtain⟨n4,e4⟩:=Hz hlen ck 4 _ rfl Tryz.underlying4 Fj
  obtain⟨n5,e5⟩:=Hz hlen ck 5 _ rfl Tryz.underlying4 Fj
  obtain⟨n6,e6⟩:=rS hlen ck 6 _ rfl Tryz.underlying3 qz
  exact⟨⟨n0,n1,n2,n3,n4,n5,n6,eh⟩,by simp_all [aM.cells]⟩
theorem Th:Tryz.prog.cellsOf 234= 3:=by kernel_rfl
theorem aos (h:DataW.trod enc Tryz.prog w base sp bS fuel 234 cs= some x):∃y:aN,cs= y.cells:=by
 obtain⟨xs,n,rfl,_,aT,hlen,ck⟩:=DataW.trod_struct Tryz.underlying234 h
 match cs,aT.trans Th with
 | [c0,au,c2],_=>
  obtain⟨n0,e0⟩:=rS hlen ck 0 _ rfl Tryz.underlying3 qz
  obtain⟨n1,e1⟩:=rS hlen ck 1 _ rfl Tryz.underlying3 qz
  obtain⟨n2,e2⟩:=Hz hlen ck 2 _ rfl Tryz.underlying4 Fj
  exact⟨⟨n0,n1,n2⟩,by simp_all [aN.cells]⟩
theorem Tj:Tryz.prog.cellsOf 275= 3:=by kernel_rfl
theorem aou (h:DataW.trod enc Tryz.prog w base sp bS fuel 275 cs= some x):∃y:aK,cs= y.cells:=by
 obtain⟨xs,n,rfl,_,aT,hlen,ck⟩:=DataW.trod_struct Tryz.underlying275 h
 match cs,aT.trans Tj with
 | [c0,au,c2],_=>
  obtain⟨n0,e0⟩:=rS hlen ck 0 _ rfl Tryz.underlying3 qz
  obtain⟨n1,e1⟩:=rS hlen ck 1 _ rfl Tryz.underlying3 qz
  obtain⟨n2,e2⟩:=rS hlen ck 2 _ rfl Tryz.underlying3 qz
  exact⟨⟨n0,n1,n2⟩,by simp_all [aK.cells]⟩
theorem Tg:Tryz.prog.cellsOf 238= 3:=by kernel_rfl
theorem aor (h:DataW.trod enc Tryz.prog w base sp bS fuel 238 cs= some x):∃y:Out,cs= y.cells:=by
 obtain⟨xs,n,rfl,_,aT,hlen,ck⟩:=DataW.trod_struct Tryz.underlying238 h
 match cs,aT.trans Tg with
 | [c0,au,c2],_=>
  obtain⟨n0,e0⟩:=rS hlen ck 0 _ rfl Tryz.underlying3 qz
  obtain⟨n1,e1⟩:=rS hlen ck 1 _ rfl Tryz.underlying3 qz
  obtain⟨n2,e2⟩:=Hz hlen ck 2 _ rfl Tryz.underlying4 Fj
  exact⟨⟨n0,n1,n2⟩,by simp_all [Out.cells]⟩
theorem agh:Tryz.prog.cellsOf 22= 1:=by kernel_rfl
theorem agf:Tryz.prog.cellsOf 70= 1:=by kernel_rfl
theorem agj:Tryz.prog.cellsOf 38= 1:=by kernel_rfl
theorem agi:Tryz.prog.cellsOf 71= 1:=by kernel_rfl
theorem age:Tryz.prog.cellsOf 74= 1:=by kernel_rfl
theorem agb:Tryz.prog.cellsOf 73= 5:=by kernel_rfl
theorem Tf:Tryz.prog.cellsOf 76= 8:=by kernel_rfl
theorem aoq (h:DataW.trod enc Tryz.prog w base sp bS fuel 76 cs= some x):∃(m:cF) (an ar ak al aA:Option Addr) (c0 au c2 c3 c4:Nat),cs= [.slice an m.bx c0,.slice ar m.bH au,.int .i64 m.de,.int .i64 m.cU,.int .i64 m.dH,.slice ak m.bJ c2,.slice al m.bM c3,.slice aA m.bt c4]∧
  m.bx.length≤maxLen∧m.bH.length≤maxLen∧m.bJ.length≤maxLen∧m.bM.length≤maxLen∧m.bt.length≤maxLen∧
  aJ 7 aM.cells w an m.bx∧aJ 3 aN.cells w ar m.bH∧aJ 1 bU w ak m.bJ∧aJ 3 aK.cells w al m.bM∧aJ 3 Out.cells w aA m.bt:=by
 obtain⟨xs,n,rfl,_,aT,hlen,ck⟩:=DataW.trod_struct Tryz.underlying76 h
 match cs,aT.trans Tf with
 | [d0,d1,d2,d3,d4,d5,d6,d7],_=>
  obtain⟨_,h0⟩:=zt hlen ck 0 _ rfl agh
  obtain⟨_,h1⟩:=zt hlen ck 1 _ rfl agf
  obtain⟨_,h2⟩:=zt hlen ck 2 _ rfl agb
  obtain⟨_,h3⟩:=zt hlen ck 3 _ rfl age
  obtain⟨auG,oh,rfl,_,Jz,Gv,uJ⟩:=DataW.trod_struct Tryz.underlying73 h2
  obtain⟨n0,e2⟩:=rS Gv uJ 0 _ rfl Tryz.underlying3 qz
  obtain⟨n1,e3⟩:=rS Gv uJ 1 _ rfl Tryz.underlying3 qz
  obtain⟨n2,e4⟩:=rS Gv uJ 2 _ rfl Tryz.underlying3 qz
  obtain⟨_,h5⟩:=zt Gv uJ 3 _ rfl agj
  obtain⟨_,h6⟩:=zt Gv uJ 4 _ rfl agi
  obtain⟨an,c0,rs,e0,km,aW,_⟩:=HA aM.cells 7 (by decide) Tryz.underlying22 Ti (fun _ _ _ h=>aot h) h0
  obtain⟨ar,au,qs,e1,jR,aV,_⟩:=HA aN.cells 3 (by decide) Tryz.underlying70 Th (fun _ _ _ h=>aos h) h1
  obtain⟨ak,c2,ws,e5,oK,bm,_⟩:=HA bU 1 (by decide) Tryz.underlying38 qz (fun _ _ _ h=>aoo h) h5
  obtain⟨al,c3,cx,e6,ts,bl,_⟩:=HA aK.cells 3 (by decide) Tryz.underlying71 Tj (fun _ _ _ h=>aou h) h6
  obtain⟨aA,c4,os,e7,xQ,bZ,_⟩:=HA Out.cells 3 (by decide) Tryz.underlying74 Tg (fun _ _ _ h=>aor h) h3
  simp at e0 e1 e2 e3 e4 e5 e6 e7
  subst e0 e1 e2 e3 e4 e5 e6 e7
  exact⟨⟨rs,qs,n0,n1,n2,ws,cx,os⟩,an,ar,ak,al,aA,c0,au,c2,c3,c4,rfl,km,jR,oK,ts,xQ,aW,aV,bm,bl,bZ⟩
end
open Go.ChangeShapes Go.WideShapes Go.ChangeAt Go.RowKit Go.Deep Go.G9
section
variable {H:Type} {enc:TypeId×Value→H} {w:World} {base:Nat} {sp:Nat→Bool} {bS:Bool} {fuel:Nat} {cs:List Value} {x:DataW H×List MemPlace}
theorem agc:Tryz.prog.cellsOf 24= 3:=by kernel_rfl
theorem aga:Tryz.prog.cellsOf 78= 11:=by kernel_rfl
theorem aon (h:DataW.trod enc Tryz.prog w base sp bS fuel 78 cs= some x):∃(m:et) (an ar ak al aA:Option Addr) (c0 au c2 c3 c4:Nat),cs= [.slice an m.bx c0,.slice ar m.bH au,.int .i64 m.de,.int .i64 m.cU,.int .i64 m.dH,.slice ak m.bJ c2,.slice al m.bM c3,.slice aA m.bt c4,.string m.ef,.string m.eo,.int .i64 m.dR]∧
  m.ef.size≤maxLen∧m.eo.size≤maxLen∧m.bx.length≤maxLen∧m.bH.length≤maxLen∧m.bJ.length≤maxLen∧m.bM.length≤maxLen∧m.bt.length≤maxLen∧
  aJ 7 aM.cells w an m.bx∧aJ 3 aN.cells w ar m.bH∧aJ 1 bU w ak m.bJ∧aJ 3 aK.cells w al m.bM∧aJ 3 Out.cells w aA m.bt:=by
 obtain⟨xs,n,rfl,_,aT,hlen,ck⟩:=DataW.trod_struct Tryz.underlying78 h
 match cs,aT.trans aga with
 | [d0,d1,d2,d3,d4,d5,d6,d7,d8,d9,d10],_=>
  obtain⟨_,h0⟩:=zt hlen ck 0 _ rfl Tf
  obtain⟨_,h1⟩:=zt hlen ck 1 _ rfl agc
  obtain⟨m,an,ar,ak,al,aA,c0,au,c2,c3,c4,e0,km,jR,oK,ts,xQ,aW,aV,bm,bl,bZ⟩:=aoq h0
  obtain⟨d,p,k,e1,iO,s1⟩:=aop h1
  simp at e0 e1
  obtain⟨rfl,rfl,rfl,rfl,rfl,rfl,rfl,rfl⟩:=e0
  obtain⟨rfl,rfl,rfl⟩:=e1
  exact⟨m.Tn d p k,an,ar,ak,al,aA,c0,au,c2,c3,c4,rfl,iO,s1,km,jR,oK,ts,xQ,aW,aV,bm,bl,bZ⟩
end
end Go.Proofs.YtlaaemmmbodaaaaGreatDoor
namespace Go.G9
open Go.ChangeShapes Go.WideShapes Go.ChangeAt Go.RowKit Go.Deep
theorem aak {H:Type} {enc:TypeId×Value→H} {P:Program} {w:World} {sp:Nat→Bool}:∀{xX:List String} {gs:List (DataW H)} {ps:List MemPlace},DataW.TrodVars enc P w sp xX gs ps→gs.length= xX.length
 | [],[],_,_=>rfl
 | _ ::_,_ ::_,_,h=>by obtain⟨_,_,_,_,_,_,_,_,_,_,h2,_⟩:=h;simp [aak h2]
 | [],_ ::_,_,h=>h.elim
 | _ ::_,[],_,h=>h.elim
theorem amx {H:Type} {enc:TypeId×Value→H} {P:Program} {fn:Func} {s:ChangeSpec} {W eF:World} {args:Array Value} {qE gs:List (DataW H)} {before:List MemPlace} {rt:TypeId}
  (JA:laidOutB P= true) (OO:∀t ∈ fn.params.toList,P.readableRec t= true∧t < P.types.size) (OQ:fn.resultTypes= #[rt]) (NT:P.underlying rt= some .bool) (Pe:varsRowed P s.vars= true)
  (OV:∀l g:List (DataW H),l.length= fn.params.toList.length→g.length= s.vars.length→s.fn H (l ++ g)= {results:=[.lit (.bool true)],args:=l,vars:=g})
  (bK:DataW.Whole enc P fn.params.toList s.vars false W args.toList qE gs before) (aE:Below W W eF):s.post enc P fn false true false false W args (.bool true) eF:=by
 have bn:=bK.lt;have NH:=bK
 obtain⟨p,q,aU,ic,rfl,aiY,Oz⟩:=bK
 have oc:=OV qE gs (aaj aU) (aak ic)
 refine⟨qE,gs,p ++ q,[],p,q,NH,?_,?_,?_,aE.frame _,fun h=>by cases h⟩
 ·rw [oc,OQ];exact trodAll_mk1 (shut_bool NT true)
 ·rw [oc];exact aai JA aE OO (fun x ay=>bn x (List.mem_append_left _ ay)) aU
 ·rw [oc];exact Below.trodVars JA aE Pe ic
theorem agy {H:Type} {enc:TypeId×Value→H} {C:Checked} {os:Os} {f:FuncId} {fn:Func} {s:ChangeSpec} {F:Stop.Interp} {rt:TypeId} {laid:List (String×DataW Unit)} (own:ownKnob C.prog.godebug= none) (started:os.Started) (anr:C.prog.inits.idxOf? f= none) (Oa:C.prog.funcs[f]? =some fn)
  (witness:∃(w:World) (tape:Tape) (i:Input),w.os= os∧(w.forCall tape i).Shaped C.prog∧i.vars= []∧Input.okWide C.prog (w.forCall tape i) .any w.heap.size f i∧
   (OpenSpec.ofChange s).preRow enc C.prog fn [] false laid (w.forCall tape i).memory i.args∧({}:Assume).holds C.prog (lone (Frame.enter C.prog f i.args .normal) [] (w.forCall tape i)))
  (JA:laidOutB C.prog= true) (OO:∀t ∈ fn.params.toList,C.prog.readableRec t= true∧t < C.prog.types.size) (OQ:fn.resultTypes= #[rt]) (NT:C.prog.underlying rt= some .bool) (Pe:varsRowed C.prog s.vars= true)
  (OV:∀l g:List (DataW H),l.length= fn.params.toList.length→g.length= s.vars.length→s.fn H (l ++ g)= {results:=[.lit (.bool true)],args:=l,vars:=g})
  (walk:∀(W:World) (base:Nat) (args:Array Value) (qE:List (DataW H)) (p:List MemPlace),laidMetH C.prog laid W→W.ShapedOpen C.prog→(∀(j:Nat) t v,fn.params[j]? =some t→args[j]? =some v→Value.okWide C.prog W .any base t v)→
   DataW.TrodAll enc C.prog W 0 (fun _=>true) true fn.params.toList args.toList qE p→Calls C.prog f args W fun e eF=>e= .returned true∧Below W W eF):
  ReturnsInHanded {} C os f .any ((OpenSpec.ofChange s).preRow enc C.prog fn [] false laid) (((OpenSpec.ofChange s).at F).post enc C.prog fn false true false false):=by
 refine returnsInHanded_of_row (C:=C) (s:=OpenSpec.ofChange s) own started anr Oa witness ?_
 intro W base args qE gs before uY bK _ _ _ ib kU _
 have NH:=bK
 obtain⟨p,q,aU,_,_,_,_⟩:=bK
 exact (walk W base args qE p ib kU uY aU).mono fun e eF ⟨he,aE⟩=>⟨_,he,amx (s:=s) JA OO OQ NT Pe OV NH aE⟩
theorem aoC {α β asn:Type} {x:Option (α×β×asn)} {a:α} {b:β} (h:x.map (fun y=>(y.1,y.2.1))= some (a,b)):∃c,x= some (a,b,c):=by
 cases x with
 | none=>cases h
 | some y=>obtain⟨yn,kt,HU⟩:=y;simp at h;obtain⟨rfl,rfl⟩:=h;exact⟨HU,rfl⟩
end Go.G9
namespace Go.Proofs.YtlaaemmmbodaaaaGreatDoor
open Go.ChangeShapes Go.WideShapes Go.ChangeAt Go.RowKit Go.Deep Go.G9
theorem amv:(Rows.laid_internal_strconv_uint64pow10:DataW Unit)= Lib.tabData .u64 Lib.pow10Tab:=rfl
theorem arq {laid:List (String×DataW Unit)} {W:World} (hf:laid.filter (fun x=>x.1 == "internal/strconv.uint64pow10")= [("internal/strconv.uint64pow10",Rows.laid_internal_strconv_uint64pow10)]) (h:laidMetH Tryz.prog laid W):lf W:=by
 have h1:=h.filter (fun x=>x.1 == "internal/strconv.uint64pow10")
 rw [hf,amv] at h1
 have h2:=Lib.tabIs_of_head (P:=Tryz.prog) (rest:=[]) (t:=290) (e:=93) Nf (by kernel_rfl) Tryz.underlying290 Tryz.underlying93 (by kernel_rfl) (by kernel_rfl) h1
 refine⟨?_,h2⟩
 have h3:=h2.cell Nf 0 (by decide)
 exact World.block_lt_of_cell? W _ h3
open Go.RowKit Go.G9
open Go.ChangeShapes Go.WideShapes Go.ChangeAt Go.Deep
open Go.ChangeMaps
set_option maxHeartbeats 4000000
theorem aha (u:TypeId) (h:Tryz.prog.typeName? 3 u= some "*errors.errorString"):u= 326:=
 typeName_ptr_named (nm:= "errors.errorString") (by rw [show "*" ++ "errors.errorString" = "*errors.errorString" by decide];kernel_rfl) (by kernel_rfl) (by decide) u (by rw [show "*" ++ "errors.errorString" = "*errors.errorString" by decide];exact h)
theorem ahb {laid:List (String×DataW Unit)} {W:World} (hf:laid.filter (fun x=>x.1 == "strconv.ErrSyntax")= [("strconv.ErrSyntax",Rows.laid_strconv_ErrSyntax)]) (h:laidMetH Tryz.prog laid W):By W:=by
 have h1:=h.filter (fun x=>x.1 == "strconv.ErrSyntax")
 rw [hf,MakeChecks.laidMetH_plain _ _ _ (by kernel_rfl)] at h1
 obtain⟨a0,iO,Wr,-,-,-⟩:=laid_sentinel h1 Ng (by kernel_rfl) Tryz.underlying257 aha Tryz.underlying326 Tryz.underlying328 rfl rfl Tryz.underlying9 (by kernel_rfl) (by kernel_rfl)
 exact⟨World.block_lt_of_cell? W _ (World.var?_cell Ng Wr 0),_,_,Wr⟩
theorem ani {W:World} (h:W.ShapedOpen Tryz.prog):wW W:=by
 obtain⟨m,hm⟩:=cell_of_shapedOpen_int (P:=Tryz.prog) (g:=1) (t:=3) (zero:=#[(0:Int)]) h (of_decide_eq_true (by kernel_rfl)) (by kernel_rfl) rfl (by kernel_rfl) (by kernel_rfl) Tryz.underlying3
 exact⟨World.block_lt_of_cell? W _ hm,m,hm⟩
open Go.RowKit Go.G9
open Go.ChangeShapes Go.WideShapes Go.ChangeAt Go.Deep
open Go.ChangeMaps
set_option maxHeartbeats 4000000
theorem apa (os:Os) {H:Type} (enc:TypeId×Value→H):∃places,DataW.whole enc Tryz.prog ((World.laidAll Tryz.prog os Rows.fnExactRunScriptRow.laid).forCall (fun _ _=>0) ⟨#[],#[.agg #[.slice none 0 0,.slice none 0 0,(0:Int),(0:Int),(0:Int),.slice none 0 0,.slice none 0 0,.slice none 0 0,.string ⟨#[]⟩,.string ⟨#[]⟩,(0:Int)],.string ⟨#[]⟩],[]⟩).memory Tryz.f7.params.toList Rows.fnExactRunScriptSpec.vars false (#[.agg #[.slice none 0 0,.slice none 0 0,(0:Int),(0:Int),(0:Int),.slice none 0 0,.slice none 0 0,.slice none 0 0,.string ⟨#[]⟩,.string ⟨#[]⟩,(0:Int)],.string ⟨#[]⟩]:Array Value).toList 8= some ([.agg [.agg [.nil,.nil,.agg [.lit (.int .i64 0),.lit (.int .i64 0),.lit (.int .i64 0),.nil,.nil],.nil],.agg [.lit (.string []),.lit (.string []),.lit (.int .i64 0)]],.lit (.string [])],[],places):=
 aoC (by kernel_rfl)
theorem aoY (os:Os):laidMet Tryz.prog Rows.fnExactRunScriptRow.laid ((World.laidAll Tryz.prog os Rows.fnExactRunScriptRow.laid).forCall (fun _ _=>0) ⟨#[],#[.agg #[.slice none 0 0,.slice none 0 0,(0:Int),(0:Int),(0:Int),.slice none 0 0,.slice none 0 0,.slice none 0 0,.string ⟨#[]⟩,.string ⟨#[]⟩,(0:Int)],.string ⟨#[]⟩],[]⟩).memory:=
 laidMet_laidAll _ (by kernel_rfl) (by kernel_rfl)
theorem aoV (os:Os) (started:os.Started) (H:Type) (enc:TypeId×Value→H) (F:Stop.Interp):
  ReturnsInHanded {} Tryz.checked os 7 .any ((OpenSpec.ofChange Rows.fnExactRunScriptSpec).preRow enc Tryz.prog Tryz.f7 Rows.fnExactRunScriptRow.domain false Rows.fnExactRunScriptRow.laid) (((OpenSpec.ofChange Rows.fnExactRunScriptSpec).at F).post enc Tryz.prog Tryz.f7 false true false false):=by
 obtain⟨places,ay⟩:=apa os enc
 refine agy (C:=Tryz.checked) (rt:=4) anU started (by kernel_rfl) Tryz.func7
  (witness_row_atRef (enc:=enc) (C:=Tryz.checked) false (World.laidAll Tryz.prog os Rows.fnExactRunScriptRow.laid) #[.agg #[.slice none 0 0,.slice none 0 0,(0:Int),(0:Int),(0:Int),.slice none 0 0,.slice none 0 0,.slice none 0 0,.string ⟨#[]⟩,.string ⟨#[]⟩,(0:Int)],.string ⟨#[]⟩] (World.laidAll_os _ _ _) (by kernel_rfl) (by kernel_rfl) (by kernel_rfl) (OpenSpec.preRow_of_cond 8 ay (by kernel_rfl) (fun k ax=>by cases ax) (by kernel_rfl) (aoY os)))
  anT (by rw [Tryz.params7];intro t cA;simp at cA;rcases cA with rfl | rfl;all_goals exact⟨by kernel_rfl,of_decide_eq_true (by kernel_rfl)⟩) rfl Tryz.underlying4 (by kernel_rfl)
  (by rw [Tryz.params7];intro l g aT ck;match l,g,aT,ck with | [d0,d1],[],_,_=>rfl) ?_
 intro W base args qE p ib kU uY aU
 rw [Tryz.params7] at aU uY
 obtain⟨v0,v1,d0,d1,cy,dD,rfl,rfl,rfl,h0,h1⟩:=trodAll_two aU
 obtain⟨l,rfl,rfl,rfl,amu⟩:=open_string Tryz.underlying9 (uY 1 9 v1 rfl rfl) h1
 obtain⟨ags,rfl,_⟩:=okWide_struct Tryz.underlying78 (uY 0 78 v0 rfl rfl)
 obtain⟨ats,ahp⟩:=h0
 obtain⟨x,an,ar,ak,al,aA,c0,au,c2,c3,c4,agF,iO,s1,km,jR,oK,ts,xQ,aW,aV,bm,bl,bZ⟩:=aon ahp
 rw [afB (cs:=ags) agF]
 exact amy x iO s1 an ar ak al aA c0 au c2 c3 c4 km jR oK ts xQ l amu W aW aV bm bl bZ ⟨arq rfl ib,ahb rfl ib,ani kU⟩
end Go.Proofs.YtlaaemmmbodaaaaGreatDoor
