/- Parts. -/
import Derived.Test.YtlaaemmmbodaaaaGreatDoorEx11
import Derived.Deep.RegionHeld3
import Derived.Test.YtlaaemmmbodaaaaGreatDoorRows
import Derived.Deep.DeepHandedRow
import Derived.Lib.LaidTab
import Derived.OpenVars
import Derived.Test.YtlaaemmmbodaaaaGreatDoorCards
import Derived.Test.YtlaaemmmbodaaaaGreatDoorTie
import Derived.ChangeMaps5
import Derived.Deep.DeepWitnessRowRef
import Derived.Lay
import Derived.Shelf.Vars
import Derived.Stop.LaidErr
set_option maxHeartbeats 16000000
set_option maxRecDepth 100000
set_option linter.unnecessarySimpa false
set_option linter.unusedSimpArgs false
set_option linter.unusedVariables false
namespace Go.Proofs.YtlaaemmmbodaaaaGreatDoor
open Go.RowKit Go.G9
theorem acA {p:Prop} (h:p:=by
 obtain⟨z0,bw,z2,z3,z4,z5,cy,dh,dm,z9,dk⟩:=bQ.bM
 refine bodyPost_ret (v:= .tuple #[.agg #[.slice cI dp e0,.slice cF dB e1,dP,dO,dG,.slice de bV e2,.slice df bY e3,.slice cJ dn e4,ck,cl,cj],nL]) (by simp [results,Tryz.results61,go_sem,z0,bw,z2,z3,z4,z5,cy,dh,dm,z9,dk]) rfl ?_
 exact⟨⟨dp,dB,dP,dO,dG,bV,bY,dn,cI,e0,cF,e1,de,e2,df,e3,cJ,e4,_,rfl,J (qb.out.trans cX.out),fH⟩,ez⟩):p:=h
theorem acz {p:Prop} (h:p:=by
 clear aC
 obtain⟨z0,bw,z2,z3,z4,z5,cy,dh,dm,z9,dk⟩:=bQ.bM
 refine bodyPost_ret (v:= .tuple #[.agg #[.slice an rs c0,.slice ar qs c1,af,ae,sp,.slice aj ws c2,.slice ak U c3,.slice aA os c4,ck,cl,cj],.string (⟨#[63]⟩ :ByteArray)]) (by simp [results,Tryz.results61,go_sem,z0,bw,z2,z3,z4,z5,cy,dh,dm,z9,dk]) rfl ?_
 exact⟨⟨rs,qs,af,ae,sp,ws,U,os,an,c0,ar,c1,aj,c2,ak,c3,aA,c4,_,rfl,J (qb.out),fH⟩,ez⟩):p:=h
theorem adi {p:Prop} (h:p:=by
 rintro e dc ⟨⟨dp,dB,dP,dO,dG,bV,bY,dn,cI,e0,cF,e1,de,e2,df,e3,cJ,e4,nL,rfl,cX,jI⟩,ei⟩
 have mG:=J jI;clear jI;have lW:=ah hl ei;have kY:=om.to ei;have js:=(ei.cell (p:=⟨lF,_,none⟩) GL).trans dY
 go_wp2
 refine hn ((di.out _).2 ⟨js,kY⟩) (dZ _ _ ?_)
 refine ha fun gz dZ=>?_
 change wpQuiet _ _ _ _ (_ ::_ ::[]) _
 repeat (go_big_quiet_step (fail))
 refine wpQuiet_nil ?_
 change wpList _ _ _ (_ ::[]) _ _
 have dr:=J (mm.out.below ei mm.out.lt);have al:=dr.out.bM;have eK:=dr.out.hh;have hs:=dr.out.lt
 go_wp2
 clear al eK hs
 refine hX 0 fun cS aC=>?_
 have er:=aC.dM kY;have bQ:=aC.hV dr.out;have fH:=mG.out.gY dr.out aC.gi;have ez:=aC.aE lW;have Dk:=aC.gi.cell js (by simpa using yA.out)
 clear aC
 refine hn ((di.out _).2 ⟨Dk,er⟩) (dZ _ _ ?_)
 refine mA ?_
 change wpQuiet _ _ _ _ (_ ::[]) _
 repeat (go_big_quiet_step (fail))
 refine wpQuiet_nil ?_
 clear dd dV dT en et fL fM fN fO fP fK u0
 go_wp2
 obtain⟨z0,bw,z2,z3,z4,z5,cy,dh,dm,z9,dk⟩:=bQ.bM
 refine bodyPost_ret (v:= .tuple #[.agg #[.slice cI dp e0,.slice cF dB e1,dP,dO,dG,.slice de bV e2,.slice df bY e3,.slice cJ dn e4,ck,cl,cj],nL]) (by simp [results,Tryz.results61,go_sem,z0,bw,z2,z3,z4,z5,cy,dh,dm,z9,dk]) rfl ?_
 exact⟨⟨dp,dB,dP,dO,dG,bV,bY,dn,cI,e0,cF,e1,de,e2,df,e3,cJ,e4,_,rfl,J (qb.out.trans cX.out),fH⟩,ez⟩):p:=h
theorem acn {p:Prop} (h:p:=by
 have cD:=eo.out.below jA eo.out.lt;have dr:=J cD;have al:=cD.bM;have eK:=cD.hh;have hs:=cD.lt;clear cD
 go_wp2
 clear al eK hs bF g0
 refine hX 0 fun cS aC=>?_
 have bQ:=aC.hV dr.out;have fH:=(hx.out).gY dr.out aC.gi;have ez:=aC.aE hR;clear aC
 obtain⟨z0,bw,z2,z3,z4,z5,cy,dh,dm,z9,dk⟩:=bQ.bM
 refine bodyPost_ret (v:= .tuple #[.agg #[.slice an rs c0,.slice ar qs c1,af,ae,sp,.slice aj ws c2,.slice ak U c3,.slice aA os c4,ck,cl,cj],.string (⟨#[63]⟩ :ByteArray)]) (by simp [results,Tryz.results61,go_sem,z0,bw,z2,z3,z4,z5,cy,dh,dm,z9,dk]) rfl ?_
 exact⟨⟨rs,qs,af,ae,sp,ws,U,os,an,c0,ar,c1,aj,c2,ak,c3,aA,c4,_,rfl,J (qb.out),fH⟩,ez⟩):p:=h
theorem ams (B:Nat) (an ar aj ak aA:Option Addr) (c0 c1 c2 c3 c4:Nat) (rs:List aJ) (qs:List aL) (af ae sp:Int) (ws:List Int) (U:List aI) (os:List Out) (ck cl:ByteArray) (cj:Int) (h:gM ⟨rs,qs,af,ae,sp,ws,U,os⟩) (l:ByteArray) (aS:l.size≤1000) (w:World) (oi:B≤w.heap.size) (bP:gA B w an c0 ar c1 aj c2 ak c3 aA c4 rs qs ws U os):
 Calls Tryz.prog 61 #[.agg #[.slice an rs c0,.slice ar qs c1,af,ae,sp,.slice aj ws c2,.slice ak U c3,.slice aA os c4,ck,cl,cj],l] w fun e ag=>Ck B ck cl cj (jy ⟨rs,qs,af,ae,sp,ws,U,os⟩ (jk 32 l)) e ag∧Below w w ag:=by
 have yD:=J (fun W=>amj l 32 (by omega) W);have uh:=J (show∀x ∈ jk 32 l,x.size≤1048576 from fun x ay=>by have:=ZG ay;omega);have oX:=J (ZH 32 l);have BS:=J (show∀a,jk 32 l= [a]→a= l from fun a h=>aqz h);have atY:=ZF 32 l
 generalize jk 32 l= vs at *
 have iu:=J h;have dq:=J bP;clear h bP
 go_in
 go_upto_region 1 with fail
 refine fm fun aF au aQ ad=>?_
 have I:=au
 obtain⟨dd,dV,dT,en,et,fL,fM,fN,fO,fP,fK⟩:=aQ.bM
 obtain⟨z0,bw,z2,z3,z4,z5,cy,dh,dm,z9,dk⟩:=ad.bM;have eo:=J ad;have fD:=J aQ;have qp:=aQ.lt
 have sG:=ad.lt;have iW:=J (dq.out.later I);clear z0 bw z2 z3 z4 z5 cy dh dm z9 dk ad aQ dq dd dV dT en et fL fM fN fO fP fK qp
 go_wp2_with fail
 refine (yD.out _).mono ?_
 rintro e aM ⟨A,n,rfl,Cd,jA⟩
 have hR:=ah I jA
 have vZ:B≤aM.heap.size:=by have:=hR.size;omega
 have hx:=J (iW.out.later jA);have vQ:=J (fD.out.below jA fD.out.lt);have Iw:=J (eo.out.below jA eo.out.lt);have bF:=vQ.out.bM;have vh:=vQ.out.lt;have wj:0 < vs.length:=List.length_pos_iff.2 oX.out;have sB:=rU Cd kD
 obtain⟨lF,wv,a,rfl,ph,cT,Vd⟩:=(Cd.dE (hf:=kD)).at_ (Below.refl _ _) (k:=0) wj
 have g0:=Vd 0 _ rfl (ax.self _)
 simp only [Nat.zero_mul,Nat.add_zero,ax.self] at g0
 have yA:=J (show lF≠w.heap.size + 1 by have:=(Cd.lt lF (Yd Cd wj)).1;omega);have gB:=J (Cd.dE (hf:=kD));have cB:=Ct a
 obtain⟨-,-,-,-,-,-,-,-,-,-,-,-,-,f13,f14⟩:=cB
 clear Vd Cd sG
 go_upto_region 2 with fail
 rcases ahF oX.out with ⟨a',e⟩ | ⟨a',b,e⟩ | ⟨a',b,c,e⟩ | ⟨a',b,c,d,e⟩ | ⟨a',r,e,bu⟩
 ·skip
  obtain rfl:a= a':=by rw [e] at cT;exact (Option.some.inj cT).symm
  have qb:=J (show jy ⟨rs,qs,af,ae,sp,ws,U,os⟩ vs= tU ⟨rs,qs,af,ae,sp,ws,U,os⟩ (eF a) by rw [e];exact agP _ _)
  have hlen:vs.length= 1:=by rw [e];rfl
  obtain rfl:a= l:=BS.out a e
  clear oX BS uh yD e cT wj
  rw [hlen]
  rw [hlen] at sB
  clear f13 f14 sB
  go_wp2_with fail
  refine (amu B an ar aj ak aA c0 c1 c2 c3 c4 rs qs af ae sp ws U os ck cl cj iu.out a _ vZ hx.out).mono ?_
  rintro e dc ⟨⟨dp,dB,dP,dO,dG,bV,bY,dn,cI,e0,cF,e1,de,e2,df,e3,cJ,e4,nL,rfl,cX,jI⟩,ei⟩
  have mG:=J jI;clear jI;have kY:=ah jA ei;have lW:=ah hR ei;have cD:=eo.out.below kY eo.out.lt;have dr:=J cD;have al:=cD.bM;have eK:=cD.hh;have hs:=cD.lt;clear cD
  go_wp2
  clear al eK hs bF g0
  refine hX 0 fun cS aC=>?_
  have bQ:=aC.hV dr.out;have fH:=(mG.out).gY dr.out aC.gi;have ez:=aC.aE lW;clear aC
  exact acA
 ·skip
  obtain rfl:a= a':=by rw [e] at cT;exact (Option.some.inj cT).symm
  have qb:=J (show jy ⟨rs,qs,af,ae,sp,ws,U,os⟩ vs= if fg b then sL ⟨rs,qs,af,ae,sp,ws,U,os⟩ (eF a) (hk b.data.toList) else (⟨rs,qs,af,ae,sp,ws,U,os⟩,(⟨#[63]⟩ :ByteArray)) by rw [e];exact agQ _ _ _)
  have hlen:vs.length= 2:=by rw [e];rfl
  have Gk:=uh.out b (by rw [e];simp)
  obtain⟨dx,hU,a1,e1,-,Au,gK⟩:=gB.out.at_ (Below.refl _ _) (k:=1) (by rw [hlen];decide)
  cases e1
  obtain rfl:b= a1:=by rw [e] at Au;exact Option.some.inj Au
  have g1:=gK 0 _ rfl (ax.self _)
  simp only [Nat.mul_one,Nat.add_zero,ax.self] at g1
  clear gK Au;clear oX BS uh yD e cT wj
  rw [hlen]
  rw [hlen] at sB
  obtain⟨v,ju,Dh,zl,ake⟩:=Hw b
  have Es:=J (fun W=>HF b Gk v ju zl W)
  rw [Dh] at qb
  generalize (eF a == 13)= Bm at *
  go_upto_region 4 with fail
  go_cut [20] (fun v W=>v= .bool false∧aM= W)
  case first=>
   cases Bm
   all_goals
    go_wp2
    go_meet
    exact⟨rfl,rfl⟩
  case' rest=>
   obtain⟨rfl,vg⟩:=hcut
   subst vg
  generalize (eF a == 14)= sN at *
  go_upto_region 6 with fail
  go_cut [40] (fun v W=>v= .bool false∧aM= W)
  case first=>
   cases sN
   all_goals
    go_wp2
    go_meet
    exact⟨rfl,rfl⟩
  case' rest=>
   obtain⟨rfl,vg⟩:=hcut
   subst vg
  go_wp2_with fail
  refine (Es.out _).mono ?_
  rintro e bB ⟨rfl,bG⟩
  have jz:=ah hR bG;have gl:=ah jA bG;have ka:=J (hx.out.later bG);have Ez:=J (vQ.out.below bG vQ.out.lt);have aeS:=J (Iw.out.below bG Iw.out.lt);have h0:=(bG.cell (p:=⟨lF,_,none⟩) ph).trans g0;clear g0 g1 bF vh;have bF:=Ez.out.bM;have vh:=Ez.out.lt;have g0:=h0;replace ph:lF < bB.heap.size:=Nat.lt_of_lt_of_le ph bG.size;clear h0
  cases ju
  ·skip
   have cD:=eo.out.below gl eo.out.lt;have dr:=J cD;have al:=cD.bM;have eK:=cD.hh;have hs:=cD.lt;clear cD
   go_wp2
   clear al eK hs bF g0
   refine hX 0 fun cS aC=>?_
   have bQ:=aC.hV dr.out;have fH:=(ka.out).gY dr.out aC.gi;have ez:=aC.aE jz
   exact acz
  ·obtain rfl:=ake rfl
   go_upto_region 13 with fail
   obtain⟨eX,gV⟩ :∃X:World→Prop,∀V,X V↔V.cell? ⟨lF,wv,none⟩ =some (.string a)∧aq V (w.heap.size) 46 #[.slice an rs c0,.slice ar qs c1,af,ae,sp,.slice aj ws c2,.slice ak U c3,.slice aA os c4,ck,cl,cj]:=⟨_,fun _=>Iff.rfl⟩
   have di:=J gV;clear gV;have ix:=(di.out bB).2 ⟨g0,Ez.out⟩
   haveI:Nonempty (cN eX):=⟨⟨bB,ix⟩⟩
   refine oU eX [([0,1,2,3,4],5),([6,7],8)] [9] (by kernel_rfl) (by kernel_rfl) ((di.out _).2 ⟨g0,Ez.out⟩) ?_
   clear bF vh
   obtain⟨dd,dV,dT,en,et,fL,fM,fN,fO,fP,fK⟩:=aq.sr (fun K:cN eX=>((di.out _).1 K.holds).2)
   have u0:=fun K:cN eX=>((di.out _).1 K.holds).1
   have hl:Below w w bB.drew:=ah jz (Below.refl _ _).drew;have Lr:=(Below.refl bB.heap.size bB).drew;have dY:bB.drew.cell? ⟨lF,wv,none⟩ =some (.string a):=g0;clear g0;have yZ:=Ez.out;have om:aq bB.drew (w.heap.size) 46 #[.slice an rs c0,.slice ar qs c1,af,ae,sp,.slice aj ws c2,.slice ak U c3,.slice aA os c4,ck,cl,cj]:=yZ
   have zb:=aeS.out;have mm:Hid (aq bB.drew (w.heap.size + 1) 46 #[.slice none 0 0,.slice none 0 0,(0:Int),(0:Int),(0:Int),.slice none 0 0,.slice none 0 0,.slice none 0 0,.string ⟨#[]⟩,.string ⟨#[]⟩,(0:Int)]):=J zb;have oL:=J (ka.out.later (Below.refl _ _).drew);have GL:lF < bB.drew.heap.size:=ph;clear yZ zb ph ix
   generalize bB.drew= wd at *
   refine ha fun gz dZ=>?_
   change wpQuiet _ _ _ _ (_ ::_ ::_ ::_ ::_ ::[]) _
   repeat (go_big_quiet_step (fail))
   refine wpQuiet_nil ?_
   change wpList _ _ _ (_ ::[]) _ _
   go_wp2_with fail
   refine (amr B an ar aj ak aA c0 c1 c2 c3 c4 rs qs af ae sp ws U os ck cl cj iu.out a _ _ (by have:=hl.size;omega) oL.out).mono ?_
   exact adi
 ·skip
  obtain rfl:a= a':=by rw [e] at cT;exact (Option.some.inj cT).symm
  have qb:=J (show jy ⟨rs,qs,af,ae,sp,ws,U,os⟩ vs= if (eF a == 13) then Dw ⟨rs,qs,af,ae,sp,ws,U,os⟩ b c else (⟨rs,qs,af,ae,sp,ws,U,os⟩,(⟨#[63]⟩ :ByteArray)) by rw [e,agR];simp only [beq_iff_eq])
  have hlen:vs.length= 3:=by rw [e];rfl
  have Gk:=uh.out b (by rw [e];simp);have qi:=uh.out c (by rw [e];simp)
  obtain⟨dx,hU,a1,e1,-,Au,gK⟩:=gB.out.at_ (Below.refl _ _) (k:=1) (by rw [hlen];decide)
  cases e1
  obtain rfl:b= a1:=by rw [e] at Au;exact Option.some.inj Au
  have g1:=gK 0 _ rfl (ax.self _)
  simp only [Nat.mul_one,Nat.add_zero,ax.self] at g1
  clear gK Au
  obtain⟨dz,fk,a2,e2,-,NH,jD⟩:=gB.out.at_ (Below.refl _ _) (k:=2) (by rw [hlen];decide)
  cases e2
  obtain rfl:c= a2:=by rw [e] at NH;exact Option.some.inj NH
  have g2:=jD 0 _ rfl (ax.self _)
  simp only [Nat.mul_one,Nat.add_zero,ax.self] at g2
  clear jD NH;clear oX BS uh yD e cT wj
  rw [hlen]
  rw [hlen] at sB
  generalize (eF a == 13)= Bm at *
  go_upto_region 4 with fail
  cases Bm
  ·skip
   generalize (eF a == 14)= sN at *
   go_upto_region 6 with fail
   go_cut [40] (fun v W=>v= .bool false∧aM= W)
   case first=>
    cases sN
    all_goals
     go_wp2
     go_meet
     exact⟨rfl,rfl⟩
   case' rest=>
    obtain⟨rfl,vg⟩:=hcut
    subst vg
   have cD:=eo.out.below jA eo.out.lt;have dr:=J cD;have al:=cD.bM;have eK:=cD.hh;have hs:=cD.lt;clear cD
   go_wp2
   clear al eK hs bF g0 g1 g2
   refine hX 0 fun cS aC=>?_
   have bQ:=aC.hV dr.out;have fH:=(hx.out).gY dr.out aC.gi;have ez:=aC.aE hR
   exact acz
  ·go_upto_region 5 with fail
   clear g0
   obtain⟨eX,gV⟩ :∃X:World→Prop,∀V,X V↔V.cell? ⟨lF,wv + 1,none⟩ =some (.string b)∧V.cell? ⟨lF,wv + 2,none⟩ =some (.string c)∧aq V (w.heap.size) 46 #[.slice an rs c0,.slice ar qs c1,af,ae,sp,.slice aj ws c2,.slice ak U c3,.slice aA os c4,ck,cl,cj]:=⟨_,fun _=>Iff.rfl⟩
   have di:=J gV;clear gV;have ix:=(di.out aM).2 ⟨g1,g2,vQ.out⟩
   haveI:Nonempty (cN eX):=⟨⟨aM,ix⟩⟩
   refine oU eX [([0,1,2,3,4,5,6],7),([8,9],10)] [11] (by kernel_rfl) (by kernel_rfl) ((di.out _).2 ⟨g1,g2,vQ.out⟩) ?_
   clear bF vh
   obtain⟨dd,dV,dT,en,et,fL,fM,fN,fO,fP,fK⟩:=aq.sr (fun K:cN eX=>((di.out _).1 K.holds).2.2)
   have u0:=fun K:cN eX=>((di.out _).1 K.holds).1
   have u1:=fun K:cN eX=>((di.out _).1 K.holds).2.1
   have hl:Below w w aM.drew:=ah hR (Below.refl _ _).drew;have Lr:=(Below.refl aM.heap.size aM).drew;have dY:aM.drew.cell? ⟨lF,wv + 1,none⟩ =some (.string b):=g1;have eB:aM.drew.cell? ⟨lF,wv + 2,none⟩ =some (.string c):=g2;clear g1 g2;have yZ:=vQ.out;have om:aq aM.drew (w.heap.size) 46 #[.slice an rs c0,.slice ar qs c1,af,ae,sp,.slice aj ws c2,.slice ak U c3,.slice aA os c4,ck,cl,cj]:=yZ
   have zb:=Iw.out;have mm:Hid (aq aM.drew (w.heap.size + 1) 46 #[.slice none 0 0,.slice none 0 0,(0:Int),(0:Int),(0:Int),.slice none 0 0,.slice none 0 0,.slice none 0 0,.string ⟨#[]⟩,.string ⟨#[]⟩,(0:Int)]):=J zb;have oL:=J (hx.out.later (Below.refl _ _).drew);have GL:lF < aM.drew.heap.size:=ph;clear yZ zb ph ix
   generalize aM.drew= wd at *
   refine ha fun gz dZ=>?_
   change wpQuiet _ _ _ _ (_ ::_ ::_ ::_ ::_ ::_ ::_ ::[]) _
   repeat (go_big_quiet_step (fail))
   refine wpQuiet_nil ?_
   change wpList _ _ _ (_ ::[]) _ _
   go_wp2_with fail
   refine (amq B an ar aj ak aA c0 c1 c2 c3 c4 rs qs af ae sp ws U os ck cl cj iu.out b c qi _ (by have:=hl.size;omega) oL.out).mono ?_
   rintro e dc ⟨⟨dp,dB,dP,dO,dG,bV,bY,dn,cI,e0,cF,e1,de,e2,df,e3,cJ,e4,nL,rfl,cX,jI⟩,ei⟩
   have mG:=J jI;clear jI;have lW:=ah hl ei;have kY:=om.to ei;have js:=(ei.cell (p:=⟨lF,_,none⟩) GL).trans dY;have jo:=(ei.cell (p:=⟨lF,_,none⟩) GL).trans eB
   go_wp2
   refine hn ((di.out _).2 ⟨js,jo,kY⟩) (dZ _ _ ?_)
   refine ha fun gz dZ=>?_
   change wpQuiet _ _ _ _ (_ ::_ ::[]) _
   repeat (go_big_quiet_step (fail))
   refine wpQuiet_nil ?_
   change wpList _ _ _ (_ ::[]) _ _
   have dr:=J (mm.out.below ei mm.out.lt);have al:=dr.out.bM;have eK:=dr.out.hh;have hs:=dr.out.lt
   go_wp2
   clear al eK hs
   refine hX 0 fun cS aC=>?_
   have er:=aC.dM kY;have bQ:=aC.hV dr.out;have fH:=mG.out.gY dr.out aC.gi;have ez:=aC.aE lW;have Dk:=aC.gi.cell js (by simpa using yA.out)
   have alY:=aC.gi.cell jo (by simpa using yA.out);clear aC
   refine hn ((di.out _).2 ⟨Dk,alY,er⟩) (dZ _ _ ?_)
   refine mA ?_
   change wpQuiet _ _ _ _ (_ ::[]) _
   repeat (go_big_quiet_step (fail))
   refine wpQuiet_nil ?_
   clear dd dV dT en et fL fM fN fO fP fK u0 u1
   go_wp2
   exact acA
 ·skip
  obtain rfl:a= a':=by rw [e] at cT;exact (Option.some.inj cT).symm
  have qb:=J (show jy ⟨rs,qs,af,ae,sp,ws,U,os⟩ vs= if (eF a == 14) then Bx ⟨rs,qs,af,ae,sp,ws,U,os⟩ b c d else (⟨rs,qs,af,ae,sp,ws,U,os⟩,(⟨#[63]⟩ :ByteArray)) by rw [e,agS];simp only [beq_iff_eq])
  have hlen:vs.length= 4:=by rw [e];rfl
  have Gk:=uh.out b (by rw [e];simp);have qi:=uh.out c (by rw [e];simp);have sC:=uh.out d (by rw [e];simp);have Me:=gB.out
  rw [e] at Me
  have afb:=J (HA Me 1);clear Me;clear oX BS uh yD e cT wj
  rw [hlen]
  rw [hlen] at sB
  generalize (eF a == 14)= sN at *
  generalize (eF a == 13)= Bm at *
  go_upto_region 4 with fail
  go_cut [20] (fun v W=>v= .bool false∧aM= W)
  case first=>
   cases Bm
   all_goals
    go_wp2
    go_meet
    exact⟨rfl,rfl⟩
  case' rest=>
   obtain⟨rfl,vg⟩:=hcut
   subst vg
  go_upto_region 6 with fail
  cases sN
  ·skip
   exact acn
  ·go_upto_region 7 with fail
   obtain⟨eX,gV⟩ :∃X:World→Prop,∀V,X V↔V.cell? ⟨lF,wv,none⟩ =some (.string a)∧aq V (w.heap.size) 46 #[.slice an rs c0,.slice ar qs c1,af,ae,sp,.slice aj ws c2,.slice ak U c3,.slice aA os c4,ck,cl,cj]:=⟨_,fun _=>Iff.rfl⟩
   have di:=J gV;clear gV;have ix:=(di.out aM).2 ⟨g0,vQ.out⟩
   haveI:Nonempty (cN eX):=⟨⟨aM,ix⟩⟩
   refine oU eX [([0,1,2],3),([4,5],6)] [7] (by kernel_rfl) (by kernel_rfl) ((di.out _).2 ⟨g0,vQ.out⟩) ?_
   clear bF vh
   obtain⟨dd,dV,dT,en,et,fL,fM,fN,fO,fP,fK⟩:=aq.sr (fun K:cN eX=>((di.out _).1 K.holds).2)
   have u0:=fun K:cN eX=>((di.out _).1 K.holds).1
   have hl:Below w w aM.drew:=ah hR (Below.refl _ _).drew;have Lr:=(Below.refl aM.heap.size aM).drew;have dY:aM.drew.cell? ⟨lF,wv,none⟩ =some (.string a):=g0;clear g0;have yZ:=vQ.out;have om:aq aM.drew (w.heap.size) 46 #[.slice an rs c0,.slice ar qs c1,af,ae,sp,.slice aj ws c2,.slice ak U c3,.slice aA os c4,ck,cl,cj]:=yZ
   have zb:=Iw.out;have mm:Hid (aq aM.drew (w.heap.size + 1) 46 #[.slice none 0 0,.slice none 0 0,(0:Int),(0:Int),(0:Int),.slice none 0 0,.slice none 0 0,.slice none 0 0,.string ⟨#[]⟩,.string ⟨#[]⟩,(0:Int)]):=J zb;have oL:=J (hx.out.later (Below.refl _ _).drew);have GL:lF < aM.drew.heap.size:=ph;clear yZ zb ph ix
   generalize aM.drew= wd at *
   refine ha fun gz dZ=>?_
   change wpQuiet _ _ _ _ (_ ::_ ::_ ::[]) _
   repeat (go_big_quiet_step (fail))
   refine wpQuiet_nil ?_
   change wpList _ _ _ (_ ::[]) _ _
   go_wp2_with fail
   refine (amt B an ar aj ak aA c0 c1 c2 c3 c4 rs qs af ae sp ws U os ck cl cj iu.out (some ⟨lF,wv + 1,none⟩) _ b c d Gk qi sC _ (by have:=hl.size;omega) oL.out (afb.out.below (show Below aM aM wd from Lr))).mono ?_
   exact adi
 ·skip
  obtain rfl:a= a':=by rw [e] at cT;exact (Option.some.inj cT).symm
  have qb:=J (show jy ⟨rs,qs,af,ae,sp,ws,U,os⟩ vs= (⟨rs,qs,af,ae,sp,ws,U,os⟩,(⟨#[63]⟩ :ByteArray)) by rw [e];exact agT _ _ _ bu)
  have hlen:vs.length= r.length + 1:=by rw [e];rfl
  clear oX BS uh yD e cT wj
  obtain⟨Ki,ajD⟩ :∃k,vs.length= k:=⟨_,rfl⟩
  rw [ajD]
  have h1:((Ki:Int) == 1)= false:=by rw [beq_eq_false_iff_ne];omega
  have h2:((Ki:Int) == 3)= false:=by rw [beq_eq_false_iff_ne];omega
  have h3:((Ki:Int) == 4)= false:=by rw [beq_eq_false_iff_ne];omega
  have h4:((Ki:Int) != 2)= true:=by rw [bne_iff_ne];omega
  generalize (eF a == 13)= Bm at *
  go_upto_region 4 with fail
  go_cut [20] (fun v W=>v= .bool false∧aM= W)
  case first=>
   cases Bm
   all_goals
    go_wp2
    go_meet
    exact⟨rfl,rfl⟩
  case' rest=>
   obtain⟨rfl,vg⟩:=hcut
   subst vg
  generalize (eF a == 14)= sN at *
  go_upto_region 6 with fail
  go_cut [40] (fun v W=>v= .bool false∧aM= W)
  case first=>
   cases sN
   all_goals
    go_wp2
    go_meet
    exact⟨rfl,rfl⟩
  case' rest=>
   obtain⟨rfl,vg⟩:=hcut
   subst vg
  exact acn
open Go.RowKit Go.G9
theorem apt (an ar aj ak aA:Option Addr) (c0 c1 c2 c3 c4:Nat) (rs:List aJ) (qs:List aL) (af ae sp:Int) (ws:List Int) (U:List aI) (os:List Out) (ck cl:ByteArray) (cj:Int) (Z:eC an ar aj ak aA c0 c1 c2 c3 c4 rs qs ws U os) (cc:ck.size + cl.size≤1048576) (l:ByteArray) (aS:l.size≤1048576) (w:World) (R:ea w an ar aj ak aA rs qs ws U os):
 Calls Tryz.prog 19 #[.agg #[.slice an rs c0,.slice ar qs c1,af,ae,sp,.slice aj ws c2,.slice ak U c3,.slice aA os c4,ck,cl,cj],l] w fun e ag=>∃(dp:List aJ) (dB:List aL) (dP dO dG:Int) (bV:List Int) (bY:List aI) (dn:List Out) (qN rn:ByteArray) (qJ:Int) (cI:Option Addr) (e0:Nat) (cF:Option Addr) (e1:Nat) (de:Option Addr) (e2:Nat) (df:Option Addr) (e3:Nat) (cJ:Option Addr) (e4:Nat) (y:ByteArray),e= .returned (.tuple #[.agg #[.slice cI dp e0,.slice cF dB e1,dP,dO,dG,.slice de bV e2,.slice df bY e3,.slice cJ dn e4,qN,rn,qJ],y])∧Hid ((cG (⟨rs,qs,af,ae,sp,ws,U,os,ck,cl,cj⟩ :fv) l,sq (⟨rs,qs,af,ae,sp,ws,U,os,ck,cl,cj⟩ :fv) l)= ((⟨dp,dB,dP,dO,dG,bV,bY,dn,qN,rn,qJ⟩ :fv),y))∧gA w ag cI e0 cF e1 de e2 df e3 cJ e4 dp dB bV bY dn∧Below w w ag:=by
 have dL:=J Z;clear Z
 cases aE:lH (⟨rs,qs,af,ae,sp,ws,U,os,ck,cl,cj⟩ :fv)
 ·have bC:=J aE
  have cB:=J (Tl (l:=l) aE);clear aE
  go_in
  go_upto_region 1 with fail
  refine fm fun aF au aQ ad=>?_
  replace R:=R.below au;have I:=au
  obtain⟨dd,dV,dT,en,et,fL,fM,fN,fO,fP,fK⟩:=aQ.bM
  obtain⟨z0,bw,z2,z3,z4,z5,cy,dh,dm,z9,dk⟩:=ad.bM;have hY:=J aQ;have eo:=J ad;have ff:=J R
  have rh:=I.size;clear z0 bw z2 z3 z4 z5 cy dh dm z9 dk aQ ad R
  go_wp2_with fail
  refine (Hp an ar aj ak aA c0 c1 c2 c3 c4 rs qs af ae sp ws U os ck cl cj dL.out aF ff.out).mono ?_
  rintro e aM ⟨cq,d0,cK,d1,bg,d2,bn,d3,ct,d4,rfl,gN,jA⟩
  have kC:=J (gN.base (B':=w.heap.size) rh);clear gN dd dV dT en et fL fM fN fO fP fK
  go_upto_region 2 with fail
  obtain⟨tI,lb⟩ :∃b,b= aM.heap.size:=⟨_,rfl⟩
  have qQ:=aq.new aM 46 #[.slice cq rs d0,.slice cK qs d1,af,ae,sp,.slice bg ws d2,.slice bn U d3,.slice ct os d4,ck,cl,cj];have qT:Below aM aM (aM.alloc (.cells #[.slice cq rs d0,.slice cK qs d1,af,ae,sp,.slice bg ws d2,.slice bn U d3,.slice ct os d4,ck,cl,cj] 46)):=bZ _ _
  rw [← lb] at qQ
  generalize aM.alloc (.cells #[.slice cq rs d0,.slice cK qs d1,af,ae,sp,.slice bg ws d2,.slice bn U d3,.slice ct os d4,ck,cl,cj] 46)= bB at *
  rw [← lb]
  clear lb;have gl:=ah jA qT;have As:=ah I gl;have ka:=J (kC.out.later qT);have sg:=J qQ;have cO:=J (ff.out.below gl);have bF:=(hY.out.below gl hY.out.lt).bM;clear qQ qT jA
  go_wp2_with fail
  refine (JP (⟨rs,qs,af,ae,sp,ws,U,os,ck,cl,cj⟩ :fv) an ar aj ak aA c0 c1 c2 c3 c4 dL.out.h0 dL.out.h1 dL.out.h2 dL.out.h3 dL.out.h4 cc _ bC.out bB cO.out.fF cO.out.dJ cO.out.r2 cO.out.hr cO.out.nJ dL.out.dY dL.out.eB dL.out.cp dL.out.ed dL.out.hp).mono ?_
  rintro e ca ⟨rfl,cU⟩
  have jB:=ah gl cU;have wa:=ah As cU;have lj:=J (ka.out.later cU);have vN:=J (sg.out.below cU sg.out.lt);clear bF;have mU:=vN.out.bM;have bQ:=eo.out.below jB eo.out.lt;have al:=bQ.bM;have eK:=bQ.hh;have jl:=J bQ;clear bQ
  go_wp2
  clear al eK mU
  refine hX 0 fun cS aC=>?_
  have bQ:=aC.hV jl.out;have fH:=lj.out.gY jl.out aC.gi;have ez:=aC.aE wa;clear aC
  obtain⟨z0,bw,z2,z3,z4,z5,cy,dh,dm,z9,dk⟩:=bQ.bM
  refine bodyPost_ret (v:= .tuple #[.agg #[.slice cq rs d0,.slice cK qs d1,af,ae,sp,.slice bg ws d2,.slice bn U d3,.slice ct os d4,ck,cl,cj],.string (⟨#[110,111]⟩ :ByteArray)]) (by simp [results,Tryz.results19,go_sem,z0,bw,z2,z3,z4,z5,cy,dh,dm,z9,dk]) rfl ?_
  exact DY
 ·have bC:=J aE
  obtain⟨sO,jr⟩ :∃b,lM l ⟨#[]⟩ =b:=⟨_,rfl⟩
  have Af:=J jr
  cases sO
  ·have cB:=J (Ti aE jr)
   clear aE jr
   go_in
   go_upto_region 1 with fail
   refine fm fun aF au aQ ad=>?_
   replace R:=R.below au;have I:=au
   obtain⟨dd,dV,dT,en,et,fL,fM,fN,fO,fP,fK⟩:=aQ.bM
   obtain⟨z0,bw,z2,z3,z4,z5,cy,dh,dm,z9,dk⟩:=ad.bM;have hY:=J aQ;have eo:=J ad;have ff:=J R
   have rh:=I.size;clear z0 bw z2 z3 z4 z5 cy dh dm z9 dk aQ ad R
   go_wp2_with fail
   refine (Hp an ar aj ak aA c0 c1 c2 c3 c4 rs qs af ae sp ws U os ck cl cj dL.out aF ff.out).mono ?_
   rintro e aM ⟨cq,d0,cK,d1,bg,d2,bn,d3,ct,d4,rfl,gN,jA⟩
   have kC:=J (gN.base (B':=w.heap.size) rh);clear gN dd dV dT en et fL fM fN fO fP fK
   go_upto_region 2 with fail
   obtain⟨tI,lb⟩ :∃b,b= aM.heap.size:=⟨_,rfl⟩
   have qQ:=aq.new aM 46 #[.slice cq rs d0,.slice cK qs d1,af,ae,sp,.slice bg ws d2,.slice bn U d3,.slice ct os d4,ck,cl,cj];have qT:Below aM aM (aM.alloc (.cells #[.slice cq rs d0,.slice cK qs d1,af,ae,sp,.slice bg ws d2,.slice bn U d3,.slice ct os d4,ck,cl,cj] 46)):=bZ _ _
   rw [← lb] at qQ
   generalize aM.alloc (.cells #[.slice cq rs d0,.slice cK qs d1,af,ae,sp,.slice bg ws d2,.slice bn U d3,.slice ct os d4,ck,cl,cj] 46)= bB at *
   rw [← lb]
   clear lb;have gl:=ah jA qT;have As:=ah I gl;have ka:=J (kC.out.later qT);have sg:=J qQ;have cO:=J (ff.out.below gl);have bF:=(hY.out.below gl hY.out.lt).bM;clear qQ qT jA
   go_wp2_with fail
   refine (JP (⟨rs,qs,af,ae,sp,ws,U,os,ck,cl,cj⟩ :fv) an ar aj ak aA c0 c1 c2 c3 c4 dL.out.h0 dL.out.h1 dL.out.h2 dL.out.h3 dL.out.h4 cc _ bC.out bB cO.out.fF cO.out.dJ cO.out.r2 cO.out.hr cO.out.nJ dL.out.dY dL.out.eB dL.out.cp dL.out.ed dL.out.hp).mono ?_
   rintro e ca ⟨rfl,cU⟩
   have jB:=ah gl cU;have wa:=ah As cU;have lj:=J (ka.out.later cU);have vN:=J (sg.out.below cU sg.out.lt);clear bF
   go_wp2_with fail
   refine (AX l ⟨#[]⟩ aS (Nat.zero_le _) _ Af.out ca).mono ?_
   rintro e dc ⟨rfl,ei⟩
   have kY:=ah jB ei;have CQ:=ah wa ei;have nc:=J (lj.out.later ei);have Ad:=J (vN.out.below ei vN.out.lt);have mU:=Ad.out.bM;have bQ:=eo.out.below kY eo.out.lt;have al:=bQ.bM;have eK:=bQ.hh;have jl:=J bQ;clear bQ
   go_wp2
   clear al eK mU
   refine hX 0 fun cS aC=>?_
   have bQ:=aC.hV jl.out;have fH:=nc.out.gY jl.out aC.gi;have ez:=aC.aE CQ;clear aC
   obtain⟨z0,bw,z2,z3,z4,z5,cy,dh,dm,z9,dk⟩:=bQ.bM
   refine bodyPost_ret (v:= .tuple #[.agg #[.slice cq rs d0,.slice cK qs d1,af,ae,sp,.slice bg ws d2,.slice bn U d3,.slice ct os d4,ck,cl,cj],.string (⟨#[98,97,100]⟩ :ByteArray)]) (by simp [results,Tryz.results19,go_sem,z0,bw,z2,z3,z4,z5,cy,dh,dm,z9,dk]) rfl ?_
   exact DY
  ·obtain⟨MK,xA⟩ :∃b,(cj == 60)= b:=⟨_,rfl⟩
   cases MK
   rotate_left
   ·have cB:=J (Tj aE jr xA)
    clear aE jr
    go_in
    go_upto_region 1 with fail
    refine fm fun aF au aQ ad=>?_
    replace R:=R.below au;have I:=au
    obtain⟨dd,dV,dT,en,et,fL,fM,fN,fO,fP,fK⟩:=aQ.bM
    obtain⟨z0,bw,z2,z3,z4,z5,cy,dh,dm,z9,dk⟩:=ad.bM;have hY:=J aQ;have eo:=J ad;have ff:=J R
    have rh:=I.size;clear z0 bw z2 z3 z4 z5 cy dh dm z9 dk aQ ad R
    go_wp2_with fail
    refine (Hp an ar aj ak aA c0 c1 c2 c3 c4 rs qs af ae sp ws U os ck cl cj dL.out aF ff.out).mono ?_
    rintro e aM ⟨cq,d0,cK,d1,bg,d2,bn,d3,ct,d4,rfl,gN,jA⟩
    have kC:=J (gN.base (B':=w.heap.size) rh);clear gN dd dV dT en et fL fM fN fO fP fK
    go_upto_region 2 with fail
    obtain⟨tI,lb⟩ :∃b,b= aM.heap.size:=⟨_,rfl⟩
    have qQ:=aq.new aM 46 #[.slice cq rs d0,.slice cK qs d1,af,ae,sp,.slice bg ws d2,.slice bn U d3,.slice ct os d4,ck,cl,cj];have qT:Below aM aM (aM.alloc (.cells #[.slice cq rs d0,.slice cK qs d1,af,ae,sp,.slice bg ws d2,.slice bn U d3,.slice ct os d4,ck,cl,cj] 46)):=bZ _ _
    rw [← lb] at qQ
    generalize aM.alloc (.cells #[.slice cq rs d0,.slice cK qs d1,af,ae,sp,.slice bg ws d2,.slice bn U d3,.slice ct os d4,ck,cl,cj] 46)= bB at *
    rw [← lb]
    clear lb;have gl:=ah jA qT;have As:=ah I gl;have ka:=J (kC.out.later qT);have sg:=J qQ;have cO:=J (ff.out.below gl);have bF:=(hY.out.below gl hY.out.lt).bM;clear qQ qT jA
    go_wp2_with fail
    refine (JP (⟨rs,qs,af,ae,sp,ws,U,os,ck,cl,cj⟩ :fv) an ar aj ak aA c0 c1 c2 c3 c4 dL.out.h0 dL.out.h1 dL.out.h2 dL.out.h3 dL.out.h4 cc _ bC.out bB cO.out.fF cO.out.dJ cO.out.r2 cO.out.hr cO.out.nJ dL.out.dY dL.out.eB dL.out.cp dL.out.ed dL.out.hp).mono ?_
    rintro e ca ⟨rfl,cU⟩
    have jB:=ah gl cU;have wa:=ah As cU;have lj:=J (ka.out.later cU);have vN:=J (sg.out.below cU sg.out.lt);clear bF
    go_wp2_with fail
    refine (AX l ⟨#[]⟩ aS (Nat.zero_le _) _ Af.out ca).mono ?_
    rintro e dc ⟨rfl,ei⟩
    have kY:=ah jB ei;have CQ:=ah wa ei;have nc:=J (lj.out.later ei);have Ad:=J (vN.out.below ei vN.out.lt);have bF:=(hY.out.below kY hY.out.lt).bM;have mU:=Ad.out.bM;have bQ:=eo.out.below kY eo.out.lt;have al:=bQ.bM;have eK:=bQ.hh;have jl:=J bQ;clear bQ
    go_wp2
    clear al eK mU bF
    refine hX 0 fun cS aC=>?_
    have bQ:=aC.hV jl.out;have fH:=nc.out.gY jl.out aC.gi;have ez:=aC.aE CQ;clear aC
    obtain⟨z0,bw,z2,z3,z4,z5,cy,dh,dm,z9,dk⟩:=bQ.bM
    refine bodyPost_ret (v:= .tuple #[.agg #[.slice cq rs d0,.slice cK qs d1,af,ae,sp,.slice bg ws d2,.slice bn U d3,.slice ct os d4,ck,cl,cj],.string (⟨#[102,117,108,108]⟩ :ByteArray)]) (by simp [results,Tryz.results19,go_sem,z0,bw,z2,z3,z4,z5,cy,dh,dm,z9,dk]) rfl ?_
    exact DY
   ·have cB:=J (Tm aE jr xA)
    have VI:=(YL jr).2;have iu:Hid (gM ⟨rs,qs,af,ae,sp,ws,U,os⟩):=J (Fv aE);have Lx:=J (show (⟨ck,cl,cj⟩ :hZ).eJ.size + (⟨ck,cl,cj⟩ :hZ).eR.size≤1048576 from cc);clear aE jr
    go_in
    go_upto_region 1 with fail
    refine fm fun aF au aQ ad=>?_
    replace R:=R.below au;have I:=au
    obtain⟨dd,dV,dT,en,et,fL,fM,fN,fO,fP,fK⟩:=aQ.bM
    obtain⟨z0,bw,z2,z3,z4,z5,cy,dh,dm,z9,dk⟩:=ad.bM;have hY:=J aQ;have eo:=J ad;have ff:=J R
    have rh:=I.size;clear z0 bw z2 z3 z4 z5 cy dh dm z9 dk aQ ad R
    go_wp2_with fail
    refine (Hp an ar aj ak aA c0 c1 c2 c3 c4 rs qs af ae sp ws U os ck cl cj dL.out aF ff.out).mono ?_
    rintro e aM ⟨cq,d0,cK,d1,bg,d2,bn,d3,ct,d4,rfl,gN,jA⟩
    have kC:=J (gN.base (B':=w.heap.size) rh);clear gN dd dV dT en et fL fM fN fO fP fK;have Df:=jA.size
    go_upto_region 2 with fail
    obtain⟨tI,lb⟩ :∃b,b= aM.heap.size:=⟨_,rfl⟩
    have qQ:=aq.new aM 46 #[.slice cq rs d0,.slice cK qs d1,af,ae,sp,.slice bg ws d2,.slice bn U d3,.slice ct os d4,ck,cl,cj];have qT:Below aM aM (aM.alloc (.cells #[.slice cq rs d0,.slice cK qs d1,af,ae,sp,.slice bg ws d2,.slice bn U d3,.slice ct os d4,ck,cl,cj] 46)):=bZ _ _
    rw [← lb] at qQ
    generalize aM.alloc (.cells #[.slice cq rs d0,.slice cK qs d1,af,ae,sp,.slice bg ws d2,.slice bn U d3,.slice ct os d4,ck,cl,cj] 46)= bB at *
    rw [← lb]
    have atN:aF.heap.size≤tI:=by omega
    clear lb Df;have gl:=ah jA qT;have As:=ah I gl;have ka:=J (kC.out.later qT);have sg:=J qQ;have cO:=J (ff.out.below gl);have bF:=(hY.out.below gl hY.out.lt).bM;clear qQ qT jA
    go_wp2_with fail
    refine (JP (⟨rs,qs,af,ae,sp,ws,U,os,ck,cl,cj⟩ :fv) an ar aj ak aA c0 c1 c2 c3 c4 dL.out.h0 dL.out.h1 dL.out.h2 dL.out.h3 dL.out.h4 cc _ bC.out bB cO.out.fF cO.out.dJ cO.out.r2 cO.out.hr cO.out.nJ dL.out.dY dL.out.eB dL.out.cp dL.out.ed dL.out.hp).mono ?_
    rintro e ca ⟨rfl,cU⟩
    have jB:=ah gl cU;have wa:=ah As cU;have lj:=J (ka.out.later cU);have vN:=J (sg.out.below cU sg.out.lt);clear bF
    go_wp2_with fail
    refine (AX l ⟨#[]⟩ aS (Nat.zero_le _) _ Af.out ca).mono ?_
    rintro e dc ⟨rfl,ei⟩
    have kY:=ah jB ei;have CQ:=ah wa ei;have nc:=J (lj.out.later ei);have Ad:=J (vN.out.below ei vN.out.lt);have bF:=(hY.out.below kY hY.out.lt).bM
    go_upto_region 8 with fail
    clear bF;have mU:=Ad.out.bM;have ajS:=CQ.size
    go_wp2_with fail
    refine (ams w.heap.size cq cK bg bn ct d0 d1 d2 d3 d4 rs qs af ae sp ws U os ck cl cj iu.out l (by omega) dc ajS nc.out).mono ?_
    rintro e gZ ⟨⟨dp,dB,dP,dO,dG,bV,bY,dn,cI,e0,cF,e1,de,e2,df,e3,cJ,e4,y,rfl,qb,jI⟩,pe⟩
    have mG:=J jI;clear jI mU;have tt:=ah kY pe;have FQ:=ah CQ pe;have RY:=J (Ad.out.below pe Ad.out.lt);have aem:Hid (gM ⟨dp,dB,dP,dO,dG,bV,bY,dn⟩):=J (by have:=TS (ws:=jk 32 l) iu.out;rw [qb.out] at this;exact this);have Ih:Hid (qt ⟨rs,qs,af,ae,sp,ws,U,os⟩ l= (⟨dp,dB,dP,dO,dG,bV,bY,dn⟩,y)):=J qb.out
    clear qb
    go_upto_region 9 with fail
    obtain⟨cA,mO⟩ :∃b,b= gZ.heap.size:=⟨_,rfl⟩
    have No:=aq.new gZ 46 #[.slice cI dp e0,.slice cF dB e1,dP,dO,dG,.slice de bV e2,.slice df bY e3,.slice cJ dn e4,ck,cl,cj];have Gh:Below gZ gZ (gZ.alloc (.cells #[.slice cI dp e0,.slice cF dB e1,dP,dO,dG,.slice de bV e2,.slice df bY e3,.slice cJ dn e4,ck,cl,cj] 46)):=bZ _ _
    rw [← mO] at No
    generalize gZ.alloc (.cells #[.slice cI dp e0,.slice cF dB e1,dP,dO,dG,.slice de bV e2,.slice df bY e3,.slice cJ dn e4,ck,cl,cj] 46)= zG at *
    rw [← mO]
    clear mO;have NB:=ah tt Gh;have UP:=ah FQ Gh;have Sa:=J (mG.out.later Gh);have RZ:=J (RY.out.below Gh RY.out.lt);have oz:=No.bM;have ajT:=UP.size
    go_wp2_with fail
    refine (Hp cI cF de df cJ e0 e1 e2 e3 e4 dp dB dP dO dG bV bY dn ck cl cj (Hh Sa.out aem.out) zG Sa.out.rd).mono ?_
    rintro e oC ⟨Rx,f0,Ry,f1,Rz,f2,RA,f3,RB,f4,rfl,OF,Gd⟩
    have vO:=J (OF.base (B':=w.heap.size) ajT);clear OF oz;have uK:=ah NB Gd;have Jm:=ah UP Gd;have Im:=J (RZ.out.below Gd RZ.out.lt);have mU:=Im.out.bM;have FC:=Im.out.hh
    go_upto_region 10 with fail
    clear mU FC No Gh
    refine hX 0 fun ux gg=>?_
    have uI:=gg.hV Im.out;have er:=gg.aE uK;have NA:=gg.aE Jm;have aez:=J (vO.out.gY Im.out gg.gi);have Ac:=J uI;clear uI gg
    go_upto_if 38 with fail
    go_cut [8] (fun ZZ W=>∃kA,ZZ= .string kA∧Hid (po y= kA)∧ux= W)
    case first=>
     exact aaN
    case rest=>
     obtain⟨kA,rfl,BU,hw⟩:=hcut
     subst hw
     have xN:kA.size≤1048576:=by
      rw [← BU.out]
      unfold po
      split
      ·decide
      ·omega
     have oI:=fun W=>api ⟨ck,cl,cj⟩ Lx.out ⟨l,kA⟩ aS xN W
     obtain⟨g,cw⟩ :∃g,iQ ⟨ck,cl,cj⟩ ⟨l,kA⟩ =g:=⟨_,rfl⟩
     rw [cw] at oI
     have hO:=J cw;clear cw
     obtain⟨qN,rn,qJ⟩:=g
     have sV:=J oI;clear oI
     simp only at sV
     have bF:=(hY.out.below er hY.out.lt).bM
     go_wp2_with fail
     refine (sV.out ux).mono ?_
     rintro e Bz ⟨rfl,Jo⟩
     have Ji:=Ac.out.below Jo Ac.out.lt;have Sc:=J Ji;have mU:=Ji.bM;have FC:=Ji.hh;clear bF Ji
     go_upto_region 13 with fail
     clear mU FC
     refine sT 8 fun xb gI=>?_
     have nD:=gI.PL Sc.out;have bq:=(aez.out.later Jo).gY Sc.out gI.gi;have ais:=gI.aE (ah er Jo);have air:=gI.aE (ah NA Jo);have bQ:=eo.out.below ais eo.out.lt
     have jl:=J bQ;have LC:=J bq;have mU:=nD.bM;have al:=bQ.bM;have eK:=bQ.hh;clear bQ bq gI nD
     go_wp2
     clear mU al eK
     refine hX 0 fun WF yj=>?_
     have NF:=yj.hV jl.out;have OF:=LC.out.gY jl.out yj.gi;have Lp:=yj.aE air;clear yj
     obtain⟨z0,bw,z2,z3,z4,z5,cy,dh,dm,z9,dk⟩:=NF.bM
     refine bodyPost_ret (v:= .tuple #[.agg #[.slice Rx dp f0,.slice Ry dB f1,dP,dO,dG,.slice Rz bV f2,.slice RA bY f3,.slice RB dn f4,qN,rn,qJ],.string kA]) (by simp [results,Tryz.results19,go_sem,z0,bw,z2,z3,z4,z5,cy,dh,dm,z9,dk]) rfl ?_
     exact⟨dp,dB,dP,dO,dG,bV,bY,dn,qN,rn,qJ,Rx,f0,Ry,f1,Rz,f2,RA,f3,RB,f4,kA,rfl,J (by
      rw [cB.out.1,cB.out.2]
      unfold Al
      rw [show qt (fv.kI (⟨rs,qs,af,ae,sp,ws,U,os,ck,cl,cj⟩ :fv)) l= (⟨dp,dB,dP,dO,dG,bV,bY,dn⟩,y) from Ih.out]
      simp only
      rw [BU.out,show iQ (fv.log (⟨rs,qs,af,ae,sp,ws,U,os,ck,cl,cj⟩ :fv)) ⟨l,kA⟩ =⟨qN,rn,qJ⟩ from hO.out]
      rfl),OF,Lp⟩
open Go.RowKit Go.G9
theorem acR {p:Prop} (h:p:=by
 refine H.mono ?_
 rintro e ag ⟨dp,dB,dP,dO,dG,bV,bY,dn,qN,rn,qJ,cq,d0,cK,d1,bg,d2,bn,d3,ct,d4,y,rfl,hw,O,aB⟩
 have e1:cG x l=⟨dp,dB,dP,dO,dG,bV,bY,dn,qN,rn,qJ⟩:=congrArg Prod.fst hw.out;have e2:sq x l= y:=congrArg Prod.snd hw.out
 rw [e1,e2]
 exact⟨cq,d0,cK,d1,bg,d2,bn,d3,ct,d4,rfl,O.kJ,O.hU,O.fk,O.fJ,O.mc,O.apart,aB⟩):p:=h
theorem aps (x:fv) (an ar aj ak aA:Option Addr) (c0 c1 c2 c3 c4:Nat) (h0:x.br.length≤1048576) (h1:x.bD.length≤1048576) (h2:x.bE.length≤1048576) (h3:x.bK.length≤1048576) (h4:x.bt.length≤1048576) (cc:x.eJ.size + x.eR.size≤1048576) (l:ByteArray) (aS:l.size≤1048576) (w:World) (aU:aH 7 aJ.cells w an x.br) (aT:aH 3 aL.cells w ar x.bD) (bj:aH 1 bR w aj x.bE) (bh:aH 3 aI.cells w ak x.bK) (bU:aH 3 Out.cells w aA x.bt) (n0:an= none→x.br= []∧c0= 0) (n1:ar= none→x.bD= []∧c1= 0) (n2:aj= none→x.bE= []∧c2= 0) (n3:ak= none→x.bK= []∧c3= 0) (n4:aA= none→x.bt= []∧c4= 0) (dY:x.br.length≤c0) (eB:x.bD.length≤c1) (cp:x.bE.length≤c2) (ed:x.bK.length≤c3) (hp:x.bt.length≤c4):
 Calls Tryz.prog 19 #[.agg #[.slice an x.br c0,.slice ar x.bD c1,x.cZ,x.cQ,x.dH,.slice aj x.bE c2,.slice ak x.bK c3,.slice aA x.bt c4,x.eJ,x.eR,x.ec],l] w fun e ag=>∃cq d0 cK d1 bg d2 bn d3 ct d4,e= .returned (.tuple #[.agg #[.slice cq (cG x l).br.length d0,.slice cK (cG x l).bD.length d1,.int .i64 (cG x l).cZ,.int .i64 (cG x l).cQ,.int .i64 (cG x l).dH,.slice bg (cG x l).bE.length d2,.slice bn (cG x l).bK.length d3,.slice ct (cG x l).bt.length d4,.string (cG x l).eJ,.string (cG x l).eR,.int .i64 (cG x l).ec],.string (sq x l)])∧aV w 89 7 aJ.cells ag (.slice cq (cG x l).br.length d0) (cG x l).br∧aV w 115 3 aL.cells ag (.slice cK (cG x l).bD.length d1) (cG x l).bD∧aV w 3 1 bR ag (.slice bg (cG x l).bE.length d2) (cG x l).bE∧aV w 214 3 aI.cells ag (.slice bn (cG x l).bK.length d3) (cG x l).bK∧aV w 163 3 Out.cells ag (.slice ct (cG x l).bt.length d4) (cG x l).bt∧qy [.slice cq (cG x l).br.length d0,.slice cK (cG x l).bD.length d1,.slice bg (cG x l).bE.length d2,.slice bn (cG x l).bK.length d3,.slice ct (cG x l).bt.length d4]∧Below w w ag:=by
 have H:=apt an ar aj ak aA c0 c1 c2 c3 c4 x.br x.bD x.cZ x.cQ x.dH x.bE x.bK x.bt x.eJ x.eR x.ec ⟨h0,h1,h2,h3,h4,n0,n1,n2,n3,n4,dY,eB,cp,ed,hp⟩ cc l aS w ⟨aU,aT,bj,bh,bU⟩
 exact acR
theorem Wz (x:fv) (an ar aj ak aA:Option Addr) (c0 c1 c2 c3 c4:Nat) (h0:x.br.length≤1048576) (h1:x.bD.length≤1048576) (h2:x.bE.length≤1048576) (h3:x.bK.length≤1048576) (h4:x.bt.length≤1048576) (cc:x.eJ.size + x.eR.size≤1048576) (l:ByteArray) (aS:l.size≤1048576) (w:World) (aU:aH 7 aJ.cells w an x.br) (aT:aH 3 aL.cells w ar x.bD) (bj:aH 1 bR w aj x.bE) (bh:aH 3 aI.cells w ak x.bK) (bU:aH 3 Out.cells w aA x.bt) (n0:an= none→x.br= []∧c0= 0) (n1:ar= none→x.bD= []∧c1= 0) (n2:aj= none→x.bE= []∧c2= 0) (n3:ak= none→x.bK= []∧c3= 0) (n4:aA= none→x.bt= []∧c4= 0) (dY:x.br.length≤c0) (eB:x.bD.length≤c1) (cp:x.bE.length≤c2) (ed:x.bK.length≤c3) (hp:x.bt.length≤c4) (bX:pZ w):
 Calls Tryz.prog 18 #[.agg #[.slice an x.br c0,.slice ar x.bD c1,x.cZ,x.cQ,x.dH,.slice aj x.bE c2,.slice ak x.bK c3,.slice aA x.bt c4,x.eJ,x.eR,x.ec],l] w fun e ag=>∃cq d0 cK d1 bg d2 bn d3 ct d4,e= .returned (.tuple #[.agg #[.slice cq (cG x l).br.length d0,.slice cK (cG x l).bD.length d1,.int .i64 (cG x l).cZ,.int .i64 (cG x l).cQ,.int .i64 (cG x l).dH,.slice bg (cG x l).bE.length d2,.slice bn (cG x l).bK.length d3,.slice ct (cG x l).bt.length d4,.string (cG x l).eJ,.string (cG x l).eR,.int .i64 (cG x l).ec],.string (sq x l)])∧aV w 89 7 aJ.cells ag (.slice cq (cG x l).br.length d0) (cG x l).br∧aV w 115 3 aL.cells ag (.slice cK (cG x l).bD.length d1) (cG x l).bD∧aV w 3 1 bR ag (.slice bg (cG x l).bE.length d2) (cG x l).bE∧aV w 214 3 aI.cells ag (.slice bn (cG x l).bK.length d3) (cG x l).bK∧aV w 163 3 Out.cells ag (.slice ct (cG x l).bt.length d4) (cG x l).bt∧qy [.slice cq (cG x l).br.length d0,.slice cK (cG x l).bD.length d1,.slice bg (cG x l).bE.length d2,.slice bn (cG x l).bK.length d3,.slice ct (cG x l).bt.length d4]∧Below w w ag:=by
 have H:=akH an ar aj ak aA c0 c1 c2 c3 c4 x.br x.bD x.cZ x.cQ x.dH x.bE x.bK x.bt x.eJ x.eR x.ec ⟨h0,h1,h2,h3,h4,n0,n1,n2,n3,n4,dY,eB,cp,ed,hp⟩ cc l aS w ⟨aU,aT,bj,bh,bU⟩ bX
 exact acR
open Go.RowKit Go.G9
theorem amC (x:fv) (akl:x.eJ.size≤maxLen) (akm:x.eR.size≤maxLen) (vD vE vF vG vH:Option Addr) (xh xi xj xk xl:Nat) (akg:x.br.length≤maxLen) (akh:x.bD.length≤maxLen) (aki:x.bE.length≤maxLen) (akj:x.bK.length≤maxLen) (akk:x.bt.length≤maxLen) (l:ByteArray) (aS:l.size≤maxLen) (w:World) (Fb:aH 7 aJ.cells w vD x.br) (IB:aH 3 aL.cells w vE x.bD) (IC:aH 1 bR w vF x.bE) (ID:aH 3 aI.cells w vG x.bK) (IE:aH 3 Out.cells w vH x.bt) (bX:pZ w):
 Calls Tryz.prog 8 #[.agg #[.slice vD x.br xh,.slice vE x.bD xi,x.cZ,x.cQ,x.dH,.slice vF x.bE xj,.slice vG x.bK xk,.slice vH x.bt xl,x.eJ,x.eR,x.ec],l] w fun e ag=>e= .returned true∧Below w w ag:=by
 by_cases zf:l.size≤1048576
 case neg=>
  unfold maxLen at aS
  go_in
  go_wp2
  go_ret
  exact⟨rfl,av⟩
 go_in
 go_wp2_with fail
 refine (aqM x vD vE vF vG vH xh xi xj xk xl akg akh aki akj akk akl akm 1048576 (by omega) (by omega) _ (Fb.below av)).mono ?_
 rintro e bd ⟨fF,rfl,atQ,rf,Oe,bz⟩
 have au:=be w bz;have bw:=au.size;have I:Below w w bd:=au;have ee:aq bd (w.heap.size) 78 #[.slice vD x.br xh,.slice vE x.bD xi,x.cZ,x.cQ,x.dH,.slice vF x.bE xj,.slice vG x.bK xk,.slice vH x.bt xl,x.eJ,x.eR,x.ec]:=aq.below (by repeat (first | exact aq.new _ _ _ | exact aq.fu _ _ _ _ | exact aq.fx _ _ _ _ _ | refine aq.alloc ?_ _)) bz (by simp <;> omega)
 have arU:=ee.lt
 obtain⟨kc,kd,kf,kg,kh,ki,kj,kl,km,kn,ke⟩:=ee.bM
 by_cases h00:fF < 0
 ·go_wp2
  go_ret
  exact⟨rfl,ah I av⟩
 clear kc kd kf kg kh ki kj kl km kn ke
 have iB:x.br.length≤1048576:=by omega
 have iC:x.bD.length≤1048576:=by omega
 have iD:x.bE.length≤1048576:=by omega
 have iE:x.bK.length≤1048576:=by omega
 have iF:x.bt.length≤1048576:=by omega
 have ja:x.eJ.size + x.eR.size≤1048576:=by omega
 clear Oe
 obtain⟨kc,kd,kf,kg,kh,ki,kj,kl,km,kn,ke⟩:=ee.bM
 go_wp2_with fail
 refine (KJ x vD vE vF vG vH xh xi xj xk xl iB iC iD iE iF ja _ (Fb.below (ah I av)) (IB.below (ah I av)) (IC.below (ah I av)) (ID.below (ah I av)) (IE.below (ah I av))).mono ?_
 rintro e aM ⟨Ri,Rj,Rk,Rl,Rm,rfl,EO,EP,ER,ES,ET,asr,aN⟩
 clear kc kd kf kg kh ki kj kl km kn ke;have ao:=be bd aN;have z2:=ao.size;replace I:=ah I ao;replace ee:=ee.to ao
 have aub:vR [.slice Ri x.br x.br,.slice Rj x.bD x.bD,.slice Rk x.bE x.bE,.slice Rl x.bK x.bK,.slice Rm x.bt x.bt] (bd.heap.size) (aM.heap.size):=by
  intro v aw k az
  simp only [List.mem_cons,List.not_mem_nil,or_false] at aw
  rcases aw with rfl | aw
  ·have h:=EO.lt k az;(try simp at h);omega
  rcases aw with rfl | aw
  ·have h:=EP.lt k az;(try simp at h);omega
  rcases aw with rfl | aw
  ·have h:=ER.lt k az;(try simp at h);omega
  rcases aw with rfl | aw
  ·have h:=ES.lt k az;(try simp at h);omega
  subst aw
  have h:=ET.lt k az
  (try simp at h)
  omega
 obtain⟨kc,kd,kf,kg,kh,ki,kj,kl,km,kn,ke⟩:=ee.bM
 go_wp2_with fail
 refine (aps x Ri Rj Rk Rl Rm x.br.length x.bD.length x.bE.length x.bK.length x.bt.length iB iC iD iE iF ja l zf _ (EO.dE.below av) (EP.dE.below av) (ER.dE.below av) (ES.dE.below av) (ET.dE.below av) EO.mS EP.mS ER.mS ES.mS ET.mS (Nat.le_refl _) (Nat.le_refl _) (Nat.le_refl _) (Nat.le_refl _) (Nat.le_refl _)).mono ?_
 rintro e bB ⟨BE,Cv,BF,Cw,BG,Cx,BH,Cy,BI,Cz,rfl,kR,kS,kT,kU,kV,ast,bG⟩
 clear kc kd kf kg kh ki kj kl km kn ke;have aK:=be aM bG;have z3:=aK.size;replace I:=ah I aK;replace EO:=EO.later aK;replace EP:=EP.later aK;replace ER:=ER.later aK;replace ES:=ES.later aK;replace ET:=ET.later aK;replace ee:=ee.to aK
 have wo:vR [.slice BE (cG x l).br.length Cv,.slice BF (cG x l).bD.length Cw,.slice BG (cG x l).bE.length Cx,.slice BH (cG x l).bK.length Cy,.slice BI (cG x l).bt.length Cz] (aM.heap.size) (bB.heap.size):=by
  intro v aw k az
  simp only [List.mem_cons,List.not_mem_nil,or_false] at aw
  rcases aw with rfl | aw
  ·have h:=kR.lt k az;(try simp at h);omega
  rcases aw with rfl | aw
  ·have h:=kS.lt k az;(try simp at h);omega
  rcases aw with rfl | aw
  ·have h:=kT.lt k az;(try simp at h);omega
  rcases aw with rfl | aw
  ·have h:=kU.lt k az;(try simp at h);omega
  subst aw
  have h:=kV.lt k az
  (try simp at h)
  omega
 have Aj:w.heap.size < bB.heap.size:=by have h:=ee.lt;omega
 obtain⟨kc,kd,kf,kg,kh,ki,kj,kl,km,kn,ke⟩:=ee.bM
 go_wp2_with fail
 refine (KJ x vD vE vF vG vH xh xi xj xk xl iB iC iD iE iF ja _ (Fb.below (ah I av)) (IB.below (ah I av)) (IC.below (ah I av)) (ID.below (ah I av)) (IE.below (ah I av))).mono ?_
 rintro e ca ⟨zL,zM,zN,zO,zP,rfl,uk,um,uo,uq,ur,afv,cU⟩
 clear Aj kc kd kf kg kh ki kj kl km kn ke;have bS:=be bB cU;have z4:=bS.size;replace I:=ah I bS;replace kR:=kR.later bS;replace kS:=kS.later bS;replace kT:=kT.later bS;replace kU:=kU.later bS;replace kV:=kV.later bS;replace ee:=ee.to bS;have fi:aq ca (bB.heap.size) 46 #[.slice BE (cG x l).br.length Cv,.slice BF (cG x l).bD.length Cw,.int .i64 (cG x l).cZ,.int .i64 (cG x l).cQ,.int .i64 (cG x l).dH,.slice BG (cG x l).bE.length Cx,.slice BH (cG x l).bK.length Cy,.slice BI (cG x l).bt.length Cz,.string (cG x l).eJ,.string (cG x l).eR,.int .i64 (cG x l).ec]:=aq.below (by repeat (first | exact aq.new _ _ _ | exact aq.fu _ _ _ _ | exact aq.fx _ _ _ _ _ | refine aq.alloc ?_ _)) cU (by simp <;> omega)
 have auu:=fi.lt
 have rj:vR [.slice zL x.br x.br,.slice zM x.bD x.bD,.slice zN x.bE x.bE,.slice zO x.bK x.bK,.slice zP x.bt x.bt] (bB.heap.size + 1) (ca.heap.size):=by
  intro v aw k az
  simp only [List.mem_cons,List.not_mem_nil,or_false] at aw
  rcases aw with rfl | aw
  ·have h:=uk.lt k az;(try simp at h);omega
  rcases aw with rfl | aw
  ·have h:=um.lt k az;(try simp at h);omega
  rcases aw with rfl | aw
  ·have h:=uo.lt k az;(try simp at h);omega
  rcases aw with rfl | aw
  ·have h:=uq.lt k az;(try simp at h);omega
  subst aw
  have h:=ur.lt k az
  (try simp at h)
  omega
 have Aj:w.heap.size < ca.heap.size:=by have h:=ee.lt;omega
 obtain⟨kc,kd,kf,kg,kh,ki,kj,kl,km,kn,ke⟩:=ee.bM
 have Fg:bB.heap.size < ca.heap.size:=by have h:=fi.lt;omega
 have nP:=fi.bM
 go_wp2_with fail
 refine (Wz x zL zM zN zO zP x.br.length x.bD.length x.bE.length x.bK.length x.bt.length iB iC iD iE iF ja l zf _ (uk.dE.below av) (um.dE.below av) (uo.dE.below av) (uq.dE.below av) (ur.dE.below av) uk.mS um.mS uo.mS uq.mS ur.mS (Nat.le_refl _) (Nat.le_refl _) (Nat.le_refl _) (Nat.le_refl _) (Nat.le_refl _) (bX.below (ah I av))).mono ?_
 rintro e dc ⟨yp,yJ,yq,yK,yr,yL,yt,yM,yu,yN,rfl,te,tf,tg,th,ti,aft,ei⟩
 clear Aj kc kd kf kg kh ki kj kl km kn ke;clear Fg nP;have cx:=be ca ei;have z5:=cx.size;replace I:=ah I cx;replace kR:=kR.later cx;replace kS:=kS.later cx;replace kT:=kT.later cx;replace kU:=kU.later cx;replace kV:=kV.later cx;replace uk:=uk.later cx;replace um:=um.later cx;replace uo:=uo.later cx
 replace uq:=uq.later cx;replace ur:=ur.later cx;replace ee:=ee.to cx;replace fi:=fi.to cx;have fA:aq dc (ca.heap.size) 46 #[.slice zL x.br x.br,.slice zM x.bD x.bD,x.cZ,x.cQ,x.dH,.slice zN x.bE x.bE,.slice zO x.bK x.bK,.slice zP x.bt x.bt,x.eJ,x.eR,x.ec]:=aq.below (by repeat (first | exact aq.new _ _ _ | exact aq.fu _ _ _ _ | exact aq.fx _ _ _ _ _ | refine aq.alloc ?_ _)) ei (by simp <;> omega)
 have auv:=fA.lt
 have ri:vR [.slice yp (cG x l).br.length yJ,.slice yq (cG x l).bD.length yK,.slice yr (cG x l).bE.length yL,.slice yt (cG x l).bK.length yM,.slice yu (cG x l).bt.length yN] (ca.heap.size + 1) (dc.heap.size):=by
  intro v aw k az
  simp only [List.mem_cons,List.not_mem_nil,or_false] at aw
  rcases aw with rfl | aw
  ·have h:=te.lt k az;(try simp at h);omega
  rcases aw with rfl | aw
  ·have h:=tf.lt k az;(try simp at h);omega
  rcases aw with rfl | aw
  ·have h:=tg.lt k az;(try simp at h);omega
  rcases aw with rfl | aw
  ·have h:=th.lt k az;(try simp at h);omega
  subst aw
  have h:=ti.lt k az
  (try simp at h)
  omega
 have Aj:w.heap.size < dc.heap.size:=by have h:=ee.lt;omega
 obtain⟨kc,kd,kf,kg,kh,ki,kj,kl,km,kn,ke⟩:=ee.bM
 have Fg:bB.heap.size < dc.heap.size:=by have h:=fi.lt;omega
 have nP:=fi.bM
 have Ml:ca.heap.size < dc.heap.size:=by have h:=fA.lt;omega
 obtain⟨nQ,nR,nT,nU,nV,nW,nX,nY,nZ,oa,nS⟩:=fA.bM
 go_wp2_with fail
 refine (IZ (cG x l) yp yq yr yt yu BE BF BG BH BI yJ yK yL yM yN Cv Cw Cx Cy Cz (kp l (jw.mk iB iC iD iE iF ja)).js (kp l (jw.mk iB iC iD iE iF ja)).jo (kp l (jw.mk iB iC iD iE iF ja)).mQ (kp l (jw.mk iB iC iD iE iF ja)).qq (kp l (jw.mk iB iC iD iE iF ja)).sI _ (te.dE.below av) (tf.dE.below av) (tg.dE.below av) (th.dE.below av) (ti.dE.below av) (kR.dE.below av) (kS.dE.below av) (kT.dE.below av) (kU.dE.below av) (kV.dE.below av)).mono ?_
 rintro e gZ ⟨rfl,pe⟩
 clear Aj kc kd kf kg kh ki kj kl km kn ke;clear Fg nP;clear Ml nQ nR nT nU nV nW nX nY nZ oa nS;have eD:=be dc pe;have cy:=eD.size;replace I:=ah I eD;replace kR:=kR.later eD;replace kS:=kS.later eD;replace kT:=kT.later eD;replace kU:=kU.later eD;replace kV:=kV.later eD;replace uk:=uk.later eD
 replace um:=um.later eD;replace uo:=uo.later eD;replace uq:=uq.later eD;replace ur:=ur.later eD;replace te:=te.later eD;replace tf:=tf.later eD;replace tg:=tg.later eD;replace th:=th.later eD;replace ti:=ti.later eD;replace ee:=ee.to eD;replace fi:=fi.to eD;replace fA:=fA.to eD;have gv:aq gZ (dc.heap.size) 46 #[.slice yp (cG x l).br.length yJ,.slice yq (cG x l).bD.length yK,.int .i64 (cG x l).cZ,.int .i64 (cG x l).cQ,.int .i64 (cG x l).dH,.slice yr (cG x l).bE.length yL,.slice yt (cG x l).bK.length yM,.slice yu (cG x l).bt.length yN,.string (cG x l).eJ,.string (cG x l).eR,.int .i64 (cG x l).ec]:=aq.below (by repeat (first | exact aq.new _ _ _ | exact aq.fu _ _ _ _ | exact aq.fx _ _ _ _ _ | refine aq.alloc ?_ _)) pe (by simp <;> omega)
 have auw:=gv.lt
 have tj:∀W,Below gZ gZ W→aq W (w.heap.size) 78 #[.slice vD x.br xh,.slice vE x.bD xi,x.cZ,x.cQ,x.dH,.slice vF x.bE xj,.slice vG x.bK xk,.slice vH x.bt xl,x.eJ,x.eR,x.ec]:=fun W h=>ee.to h
 have afc:∀W,Below gZ gZ W→aq W (bB.heap.size) 46 #[.slice BE (cG x l).br.length Cv,.slice BF (cG x l).bD.length Cw,.int .i64 (cG x l).cZ,.int .i64 (cG x l).cQ,.int .i64 (cG x l).dH,.slice BG (cG x l).bE.length Cx,.slice BH (cG x l).bK.length Cy,.slice BI (cG x l).bt.length Cz,.string (cG x l).eJ,.string (cG x l).eR,.int .i64 (cG x l).ec]:=fun W h=>fi.to h
 have tk:∀W,Below gZ gZ W→aq W (ca.heap.size) 46 #[.slice zL x.br x.br,.slice zM x.bD x.bD,x.cZ,x.cQ,x.dH,.slice zN x.bE x.bE,.slice zO x.bK x.bK,.slice zP x.bt x.bt,x.eJ,x.eR,x.ec]:=fun W h=>fA.to h
 have afd:∀W,Below gZ gZ W→aq W (dc.heap.size) 46 #[.slice yp (cG x l).br.length yJ,.slice yq (cG x l).bD.length yK,.int .i64 (cG x l).cZ,.int .i64 (cG x l).cQ,.int .i64 (cG x l).dH,.slice yr (cG x l).bE.length yL,.slice yt (cG x l).bK.length yM,.slice yu (cG x l).bt.length yN,.string (cG x l).eJ,.string (cG x l).eR,.int .i64 (cG x l).ec]:=fun W h=>gv.to h
 have kc:=fun W bI=>((tj W bI).cell 0).trans (show _= some (.slice vD x.br xh) from rfl)
 have kd:=fun W bI=>((tj W bI).cell 1).trans (show _= some (.slice vE x.bD xi) from rfl)
 have kf:=fun W bI=>((tj W bI).cell 2).trans (show _= some (.int .i64 x.cZ) from rfl)
 have kg:=fun W bI=>((tj W bI).cell 3).trans (show _= some (.int .i64 x.cQ) from rfl)
 have kh:=fun W bI=>((tj W bI).cell 4).trans (show _= some (.int .i64 x.dH) from rfl)
 have ki:=fun W bI=>((tj W bI).cell 5).trans (show _= some (.slice vF x.bE xj) from rfl)
 have kj:=fun W bI=>((tj W bI).cell 6).trans (show _= some (.slice vG x.bK xk) from rfl)
 have kl:=fun W bI=>((tj W bI).cell 7).trans (show _= some (.slice vH x.bt xl) from rfl)
 have km:=fun W bI=>((tj W bI).cell 8).trans (show _= some (.string x.eJ) from rfl)
 have kn:=fun W bI=>((tj W bI).cell 9).trans (show _= some (.string x.eR) from rfl)
 have ke:=fun W bI=>((tj W bI).cell 10).trans (show _= some (.int .i64 x.ec) from rfl)
 have nQ:=fun W bI=>((tk W bI).cell 0).trans (show _= some (.slice zL x.br x.br) from rfl)
 have nR:=fun W bI=>((tk W bI).cell 1).trans (show _= some (.slice zM x.bD x.bD) from rfl)
 have nT:=fun W bI=>((tk W bI).cell 2).trans (show _= some (.int .i64 x.cZ) from rfl)
 have nU:=fun W bI=>((tk W bI).cell 3).trans (show _= some (.int .i64 x.cQ) from rfl)
 have nV:=fun W bI=>((tk W bI).cell 4).trans (show _= some (.int .i64 x.dH) from rfl)
 have nW:=fun W bI=>((tk W bI).cell 5).trans (show _= some (.slice zN x.bE x.bE) from rfl)
 have nX:=fun W bI=>((tk W bI).cell 6).trans (show _= some (.slice zO x.bK x.bK) from rfl)
 have nY:=fun W bI=>((tk W bI).cell 7).trans (show _= some (.slice zP x.bt x.bt) from rfl)
 have nZ:=fun W bI=>((tk W bI).cell 8).trans (show _= some (.string x.eJ) from rfl)
 have oa:=fun W bI=>((tk W bI).cell 9).trans (show _= some (.string x.eR) from rfl)
 have nS:=fun W bI=>((tk W bI).cell 10).trans (show _= some (.int .i64 x.ec) from rfl)
 clear tj afc tk afd
 go_wp2
 go_region_held3 (fun W=>Below gZ gZ W) (first | exact (Below.refl _ _).drew | assumption) ((first
  | (go_at_call 36;refine (KJ x vD vE vF vG vH xh xi xj xk xl iB iC iD iE iF ja _ (Fb.below (ah I (Below.refl _ _).drew)) (IB.below (ah I (Below.refl _ _).drew)) (IC.below (ah I (Below.refl _ _).drew)) (ID.below (ah I (Below.refl _ _).drew)) (IE.below (ah I (Below.refl _ _).drew))).mono ?_;rintro e zG ⟨adK,adL,adM,adN,adO,rfl,aeW,aeX,aeY,aeZ,afa,_,uL⟩;have CZ:Below gZ gZ zG:=ah (Below.refl _ _).drew uL)
  | (go_at_call 38;refine (IZ x zL zM zN zO zP adK adL adM adN adO x.br.length x.bD.length x.bE.length x.bK.length x.bt.length x.br.length x.bD.length x.bE.length x.bK.length x.bt.length iB iC iD iE iF _ (uk.dE.below CZ) (um.dE.below CZ) (uo.dE.below CZ) (uq.dE.below CZ) (ur.dE.below CZ) aeW.dE aeX.dE aeY.dE aeZ.dE afa.dE).mono ?_;rintro e oC ⟨rfl,Gd⟩;have nG:Below gZ gZ oC:=ah CZ Gd)))
 clear kc kd kf kg kh ki kj kl km kn ke nQ nR nT nU nV nW nX nY nZ oa nS;have dm:=nG.size;replace I:=ah I nG;replace kR:=kR.later nG;replace kS:=kS.later nG;replace kT:=kT.later nG;replace kU:=kU.later nG;replace kV:=kV.later nG;replace uk:=uk.later nG;replace um:=um.later nG
 replace uo:=uo.later nG;replace uq:=uq.later nG;replace ur:=ur.later nG;replace te:=te.later nG;replace tf:=tf.later nG;replace tg:=tg.later nG;replace th:=th.later nG;replace ti:=ti.later nG;replace ee:=ee.to nG;replace fi:=fi.to nG;replace fA:=fA.to nG;replace gv:=gv.to nG
 obtain⟨kc,kd,kf,kg,kh,ki,kj,kl,km,kn,ke⟩:=ee.bM
 have nP:=fi.bM
 obtain⟨nQ,nR,nT,nU,nV,nW,nX,nY,nZ,oa,nS⟩:=fA.bM
 have qc:=gv.bM
 go_wp2_with fail
 refine (XH x zL zM zN zO zP x.br.length x.bD.length x.bE.length x.bK.length x.bt.length iB iC iD iE iF (1) (by omega) (by omega) _ uk um uo uq ur afv).mono ?_
 rintro e mY ⟨rfl,ase,asf,asg,ash,asi,oJ⟩
 clear kc kd kf kg kh ki kj kl km kn ke;clear nP;clear nQ nR nT nU nV nW nX nY nZ oa nS;clear qc;have z9:=oJ.size;replace I:=I.trans (oJ.below rj (by omega) I.size);replace kR:=kR.mv oJ wo rj (by simp) (by omega);replace kS:=kS.mv oJ wo rj (by simp) (by omega);replace kT:=kT.mv oJ wo rj (by simp) (by omega)
 replace kU:=kU.mv oJ wo rj (by simp) (by omega);replace kV:=kV.mv oJ wo rj (by simp) (by omega);replace te:=te.mv oJ ri rj (by simp) (by omega);replace tf:=tf.mv oJ ri rj (by simp) (by omega);replace tg:=tg.mv oJ ri rj (by simp) (by omega);replace th:=th.mv oJ ri rj (by simp) (by omega);replace ti:=ti.mv oJ ri rj (by simp) (by omega)
 replace ee:=ee.mv oJ rj (by omega);replace fi:=fi.mv oJ rj (by omega);replace fA:=fA.mv oJ rj (by omega);replace gv:=gv.mv oJ rj (by omega)
 obtain⟨kc,kd,kf,kg,kh,ki,kj,kl,km,kn,ke⟩:=ee.bM
 have nP:=fi.bM
 obtain⟨nQ,nR,nT,nU,nV,nW,nX,nY,nZ,oa,nS⟩:=fA.bM
 have qc:=gv.bM
 go_wp2_with fail
 refine (IZ (cG x l) yp yq yr yt yu BE BF BG BH BI yJ yK yL yM yN Cv Cw Cx Cy Cz (kp l (jw.mk iB iC iD iE iF ja)).js (kp l (jw.mk iB iC iD iE iF ja)).jo (kp l (jw.mk iB iC iD iE iF ja)).mQ (kp l (jw.mk iB iC iD iE iF ja)).qq (kp l (jw.mk iB iC iD iE iF ja)).sI _ (te.dE.below av) (tf.dE.below av) (tg.dE.below av) (th.dE.below av) (ti.dE.below av) (kR.dE.below av) (kS.dE.below av) (kT.dE.below av) (kU.dE.below av) (kV.dE.below av)).mono ?_
 rintro e HL ⟨rfl,Gc⟩
 clear kc kd kf kg kh ki kj kl km kn ke;clear nP;clear nQ nR nT nU nV nW nX nY nZ oa nS;clear qc;have qm:=be mY Gc;have dk:=qm.size;replace I:=ah I qm;replace kR:=kR.later qm;replace kS:=kS.later qm;replace kT:=kT.later qm;replace kU:=kU.later qm;replace kV:=kV.later qm;replace te:=te.later qm
 replace tf:=tf.later qm;replace tg:=tg.later qm;replace th:=th.later qm;replace ti:=ti.later qm;replace ee:=ee.to qm;replace fi:=fi.to qm;replace fA:=fA.to qm;replace gv:=gv.to qm
 obtain⟨kc,kd,kf,kg,kh,ki,kj,kl,km,kn,ke⟩:=ee.bM
 have nP:=fi.bM
 obtain⟨nQ,nR,nT,nU,nV,nW,nX,nY,nZ,oa,nS⟩:=fA.bM
 have qc:=gv.bM
 go_wp2_with fail
 refine (XH (cG x l) yp yq yr yt yu yJ yK yL yM yN (kp l (jw.mk iB iC iD iE iF ja)).js (kp l (jw.mk iB iC iD iE iF ja)).jo (kp l (jw.mk iB iC iD iE iF ja)).mQ (kp l (jw.mk iB iC iD iE iF ja)).qq (kp l (jw.mk iB iC iD iE iF ja)).sI (1) (by omega) (by omega) _ te tf tg th ti aft).mono ?_
 rintro e arz ⟨rfl,sZ,ta,tb,tc,td,uc⟩
 clear kc kd kf kg kh ki kj kl km kn ke;clear nP;clear nQ nR nT nU nV nW nX nY nZ oa nS;clear qc;have auF:=uc.size;replace I:=I.trans (uc.below ri (by omega) I.size);replace kR:=kR.mv uc wo ri (by simp) (by omega);replace kS:=kS.mv uc wo ri (by simp) (by omega);replace kT:=kT.mv uc wo ri (by simp) (by omega)
 replace kU:=kU.mv uc wo ri (by simp) (by omega);replace kV:=kV.mv uc wo ri (by simp) (by omega);replace ee:=ee.mv uc ri (by omega);replace fi:=fi.mv uc ri (by omega);replace fA:=fA.mv uc ri (by omega);replace gv:=gv.mv uc ri (by omega)
 obtain⟨kc,kd,kf,kg,kh,ki,kj,kl,km,kn,ke⟩:=ee.bM
 have nP:=fi.bM
 obtain⟨nQ,nR,nT,nU,nV,nW,nX,nY,nZ,oa,nS⟩:=fA.bM
 have qc:=gv.bM
 go_wp2_with fail
 refine (Vl (cG x l) yp yq yr yt yu yJ yK yL yM yN (kp l (jw.mk iB iC iD iE iF ja)).js (kp l (jw.mk iB iC iD iE iF ja)).jo (kp l (jw.mk iB iC iD iE iF ja)).mQ (kp l (jw.mk iB iC iD iE iF ja)).qq (kp l (jw.mk iB iC iD iE iF ja)).sI (1) (by omega) (by omega) _ (sZ.dE.below av) (ta.dE.below av) (tb.dE.below av) (tc.dE.below av) (td.dE.below av)).mono ?_
 rintro e aab ⟨rfl,aiE⟩
 clear kc kd kf kg kh ki kj kl km kn ke;clear nP;clear nQ nR nT nU nV nW nX nY nZ oa nS;clear qc;have qn:=be arz aiE;have z12:=qn.size;replace I:=ah I qn;replace kR:=kR.later qn;replace kS:=kS.later qn;replace kT:=kT.later qn;replace kU:=kU.later qn;replace kV:=kV.later qn
 replace sZ:=sZ.later qn;replace ta:=ta.later qn;replace tb:=tb.later qn;replace tc:=tc.later qn;replace td:=td.later qn;replace ee:=ee.to qn;replace fi:=fi.to qn;replace fA:=fA.to qn;replace gv:=gv.to qn
 obtain⟨kc,kd,kf,kg,kh,ki,kj,kl,km,kn,ke⟩:=ee.bM
 have nP:=fi.bM
 obtain⟨nQ,nR,nT,nU,nV,nW,nX,nY,nZ,oa,nS⟩:=fA.bM
 have qc:=gv.bM
 go_wp2_with fail
 refine (KJ x vD vE vF vG vH xh xi xj xk xl iB iC iD iE iF ja _ (Fb.below (ah I av)) (IB.below (ah I av)) (IC.below (ah I av)) (ID.below (ah I av)) (IE.below (ah I av))).mono ?_
 rintro e Qu ⟨Rn,Ro,Rp,Rq,Rr,rfl,EU,EV,EW,EX,EY,ass,aiF⟩
 clear kc kd kf kg kh ki kj kl km kn ke;clear nP;clear nQ nR nT nU nV nW nX nY nZ oa nS;clear qc;have qo:=be aab aiF;have auG:=qo.size;replace I:=ah I qo;replace kR:=kR.later qo;replace kS:=kS.later qo;replace kT:=kT.later qo;replace kU:=kU.later qo;replace kV:=kV.later qo
 replace sZ:=sZ.later qo;replace ta:=ta.later qo;replace tb:=tb.later qo;replace tc:=tc.later qo;replace td:=td.later qo;replace ee:=ee.to qo;replace fi:=fi.to qo;replace fA:=fA.to qo;replace gv:=gv.to qo
 have auc:vR [.slice Rn x.br x.br,.slice Ro x.bD x.bD,.slice Rp x.bE x.bE,.slice Rq x.bK x.bK,.slice Rr x.bt x.bt] (aab.heap.size) (Qu.heap.size):=by
  intro v aw k az
  simp only [List.mem_cons,List.not_mem_nil,or_false] at aw
  rcases aw with rfl | aw
  ·have h:=EU.lt k az;(try simp at h);omega
  rcases aw with rfl | aw
  ·have h:=EV.lt k az;(try simp at h);omega
  rcases aw with rfl | aw
  ·have h:=EW.lt k az;(try simp at h);omega
  rcases aw with rfl | aw
  ·have h:=EX.lt k az;(try simp at h);omega
  subst aw
  have h:=EY.lt k az
  (try simp at h)
  omega
 obtain⟨kc,kd,kf,kg,kh,ki,kj,kl,km,kn,ke⟩:=ee.bM
 have nP:=fi.bM
 obtain⟨nQ,nR,nT,nU,nV,nW,nX,nY,nZ,oa,nS⟩:=fA.bM
 have qc:=gv.bM
 go_wp2_with fail
 refine (Wz x Rn Ro Rp Rq Rr x.br.length x.bD.length x.bE.length x.bK.length x.bt.length iB iC iD iE iF ja l zf _ (EU.dE.below av) (EV.dE.below av) (EW.dE.below av) (EX.dE.below av) (EY.dE.below av) EU.mS EV.mS EW.mS EX.mS EY.mS (Nat.le_refl _) (Nat.le_refl _) (Nat.le_refl _) (Nat.le_refl _) (Nat.le_refl _) (bX.below (ah I av))).mono ?_
 rintro e By ⟨Lf,Mx,Lg,My,Lh,Mz,Li,MA,Lj,MB,rfl,Ce,Cf,Cg,Ch,Ci,asq,aiG⟩
 clear kc kd kf kg kh ki kj kl km kn ke;clear nP;clear nQ nR nT nU nV nW nX nY nZ oa nS;clear qc;have nH:=be Qu aiG;have auH:=nH.size;replace I:=ah I nH;replace kR:=kR.later nH;replace kS:=kS.later nH;replace kT:=kT.later nH;replace kU:=kU.later nH;replace kV:=kV.later nH
 replace sZ:=sZ.later nH;replace ta:=ta.later nH;replace tb:=tb.later nH;replace tc:=tc.later nH;replace td:=td.later nH;replace EU:=EU.later nH;replace EV:=EV.later nH;replace EW:=EW.later nH;replace EX:=EX.later nH;replace EY:=EY.later nH;replace ee:=ee.to nH;replace fi:=fi.to nH
 replace fA:=fA.to nH;replace gv:=gv.to nH
 have aua:vR [.slice Lf (cG x l).br.length Mx,.slice Lg (cG x l).bD.length My,.slice Lh (cG x l).bE.length Mz,.slice Li (cG x l).bK.length MA,.slice Lj (cG x l).bt.length MB] (Qu.heap.size) (By.heap.size):=by
  intro v aw k az
  simp only [List.mem_cons,List.not_mem_nil,or_false] at aw
  rcases aw with rfl | aw
  ·have h:=Ce.lt k az;(try simp at h);omega
  rcases aw with rfl | aw
  ·have h:=Cf.lt k az;(try simp at h);omega
  rcases aw with rfl | aw
  ·have h:=Cg.lt k az;(try simp at h);omega
  rcases aw with rfl | aw
  ·have h:=Ch.lt k az;(try simp at h);omega
  subst aw
  have h:=Ci.lt k az
  (try simp at h)
  omega
 have Aj:w.heap.size < By.heap.size:=by have h:=ee.lt;omega
 obtain⟨kc,kd,kf,kg,kh,ki,kj,kl,km,kn,ke⟩:=ee.bM
 have Fg:bB.heap.size < By.heap.size:=by have h:=fi.lt;omega
 have nP:=fi.bM
 have Ml:ca.heap.size < By.heap.size:=by have h:=fA.lt;omega
 obtain⟨nQ,nR,nT,nU,nV,nW,nX,nY,nZ,oa,nS⟩:=fA.bM
 have afe:dc.heap.size < By.heap.size:=by have h:=gv.lt;omega
 have qc:=gv.bM
 go_wp2_with fail
 refine (IZ (cG x l) Lf Lg Lh Li Lj BE BF BG BH BI Mx My Mz MA MB Cv Cw Cx Cy Cz (kp l (jw.mk iB iC iD iE iF ja)).js (kp l (jw.mk iB iC iD iE iF ja)).jo (kp l (jw.mk iB iC iD iE iF ja)).mQ (kp l (jw.mk iB iC iD iE iF ja)).qq (kp l (jw.mk iB iC iD iE iF ja)).sI _ (Ce.dE.below av) (Cf.dE.below av) (Cg.dE.below av) (Ch.dE.below av) (Ci.dE.below av) (kR.dE.below av) (kS.dE.below av) (kT.dE.below av) (kU.dE.below av) (kV.dE.below av)).mono ?_
 rintro e aac ⟨rfl,UY⟩
 clear Aj kc kd kf kg kh ki kj kl km kn ke;clear Fg nP;clear Ml nQ nR nT nU nV nW nX nY nZ oa nS;clear afe qc;have nI:=be By UY;have auI:=nI.size;replace I:=ah I nI;replace kR:=kR.later nI;replace kS:=kS.later nI;replace kT:=kT.later nI;replace kU:=kU.later nI;replace kV:=kV.later nI
 replace sZ:=sZ.later nI;replace ta:=ta.later nI;replace tb:=tb.later nI;replace tc:=tc.later nI;replace td:=td.later nI;replace Ce:=Ce.later nI;replace Cf:=Cf.later nI;replace Cg:=Cg.later nI;replace Ch:=Ch.later nI;replace Ci:=Ci.later nI;replace ee:=ee.to nI;replace fi:=fi.to nI
 replace fA:=fA.to nI;replace gv:=gv.to nI;have Fh:aq aac (By.heap.size) 46 #[.slice Lf (cG x l).br.length Mx,.slice Lg (cG x l).bD.length My,.int .i64 (cG x l).cZ,.int .i64 (cG x l).cQ,.int .i64 (cG x l).dH,.slice Lh (cG x l).bE.length Mz,.slice Li (cG x l).bK.length MA,.slice Lj (cG x l).bt.length MB,.string (cG x l).eJ,.string (cG x l).eR,.int .i64 (cG x l).ec]:=aq.below (by repeat (first | exact aq.new _ _ _ | exact aq.fu _ _ _ _ | exact aq.fx _ _ _ _ _ | refine aq.alloc ?_ _)) UY (by simp <;> omega)
 have auy:=Fh.lt
 obtain⟨kc,kd,kf,kg,kh,ki,kj,kl,km,kn,ke⟩:=ee.bM
 have nP:=fi.bM
 obtain⟨nQ,nR,nT,nU,nV,nW,nX,nY,nZ,oa,nS⟩:=fA.bM
 have qc:=gv.bM;have SF:=Fh.bM
 go_wp2_with fail
 refine (Vl (cG x l) yp yq yr yt yu yJ yK yL yM yN (kp l (jw.mk iB iC iD iE iF ja)).js (kp l (jw.mk iB iC iD iE iF ja)).jo (kp l (jw.mk iB iC iD iE iF ja)).mQ (kp l (jw.mk iB iC iD iE iF ja)).qq (kp l (jw.mk iB iC iD iE iF ja)).sI (1) (by omega) (by omega) _ (sZ.dE.below av) (ta.dE.below av) (tb.dE.below av) (tc.dE.below av) (td.dE.below av)).mono ?_
 rintro e aup ⟨rfl,aiH⟩
 clear kc kd kf kg kh ki kj kl km kn ke;clear nP;clear nQ nR nT nU nV nW nX nY nZ oa nS;clear qc;clear SF;have nn:=be aac aiH;have auJ:=nn.size;replace I:=ah I nn;replace kR:=kR.later nn;replace kS:=kS.later nn;replace kT:=kT.later nn;replace kU:=kU.later nn;replace kV:=kV.later nn
 replace sZ:=sZ.later nn;replace ta:=ta.later nn;replace tb:=tb.later nn;replace tc:=tc.later nn;replace td:=td.later nn;replace Ce:=Ce.later nn;replace Cf:=Cf.later nn;replace Cg:=Cg.later nn;replace Ch:=Ch.later nn;replace Ci:=Ci.later nn;replace ee:=ee.to nn;replace fi:=fi.to nn
 replace fA:=fA.to nn;replace gv:=gv.to nn;replace Fh:=Fh.to nn
 obtain⟨kc,kd,kf,kg,kh,ki,kj,kl,km,kn,ke⟩:=ee.bM
 have nP:=fi.bM
 obtain⟨nQ,nR,nT,nU,nV,nW,nX,nY,nZ,oa,nS⟩:=fA.bM
 have qc:=gv.bM;have SF:=Fh.bM
 go_wp2
 go_ret
 exact⟨rfl,ah I av⟩
open Go.ChangeShapes Go.WideShapes Go.ChangeAt Go.RowKit Go.Deep Go.G9
theorem anV:ownKnob Tryz.prog.godebug= none:=by kernel_rfl
theorem anU:laidOutB Tryz.prog= true:=by kernel_rfl
theorem qI:Tryz.prog.cellsOf 3= 1:=by kernel_rfl
theorem Mw:Tryz.prog.cellsOf 9= 1:=by kernel_rfl
theorem Ft:Tryz.prog.cellsOf 4= 1:=by kernel_rfl
section
variable {H:Type} {enc:TypeId×Value→H} {w:World} {base:Nat} {sp:Nat→Bool} {bO:Bool} {fuel:Nat} {cs:List Value} {x:DataW H×List MemPlace}
theorem aop (h:DataW.trod enc Tryz.prog w base sp bO fuel 3 cs= some x):∃y:Int,cs= bR y:=by
 obtain⟨n,rfl,_,_⟩:=DataW.trod_int Tryz.underlying3 h
 exact⟨n,rfl⟩
theorem afM:Tryz.prog.cellsOf 24= 3:=by kernel_rfl
theorem aoq (h:DataW.trod enc Tryz.prog w base sp bO fuel 24 cs= some x):∃(d p:ByteArray) (n:Int),cs= [.string d,.string p,.int .i64 n]∧d.size≤maxLen∧p.size≤maxLen:=by
 obtain⟨xs,n,rfl,_,aS,hlen,cw⟩:=DataW.trod_struct Tryz.underlying24 h
 match cs,aS.trans afM with
 | [c0,c1,c2],_=>
  obtain⟨n0,e0,dY⟩:=PS hlen cw 0 _ rfl Tryz.underlying9 Mw
  obtain⟨n1,e1,eB⟩:=PS hlen cw 1 _ rfl Tryz.underlying9 Mw
  obtain⟨n2,e2⟩:=rY hlen cw 2 _ rfl Tryz.underlying3 qI
  simp at e0 e1 e2
  subst e0 e1 e2
  exact⟨n0,n1,n2,rfl,dY,eB⟩
end
open Go.ChangeShapes Go.WideShapes Go.ChangeAt Go.RowKit Go.Deep Go.G9
section
variable {H:Type} {enc:TypeId×Value→H} {w:World} {base:Nat} {sp:Nat→Bool} {bO:Bool} {fuel:Nat} {cs:List Value} {x:DataW H×List MemPlace}
theorem Tb:Tryz.prog.cellsOf 87= 7:=by kernel_rfl
theorem aou (h:DataW.trod enc Tryz.prog w base sp bO fuel 87 cs= some x):∃y:aJ,cs= y.cells:=by
 obtain⟨xs,n,rfl,_,aS,hlen,cw⟩:=DataW.trod_struct Tryz.underlying87 h
 match cs,aS.trans Tb with
 | [c0,c1,c2,c3,c4,c5,rB],_=>
  obtain⟨n0,e0⟩:=rY hlen cw 0 _ rfl Tryz.underlying3 qI
  obtain⟨n1,e1,eB⟩:=PS hlen cw 1 _ rfl Tryz.underlying9 Mw
  obtain⟨n2,e2⟩:=rY hlen cw 2 _ rfl Tryz.underlying3 qI
  obtain⟨n3,e3⟩:=Hy hlen cw 3 _ rfl Tryz.underlying4 Ft
  obtain⟨n4,e4⟩:=Hy hlen cw 4 _ rfl Tryz.underlying4 Ft
  obtain⟨n5,e5⟩:=Hy hlen cw 5 _ rfl Tryz.underlying4 Ft
  obtain⟨n6,e6⟩:=rY hlen cw 6 _ rfl Tryz.underlying3 qI
  exact⟨⟨n0,n1,n2,n3,n4,n5,n6,eB⟩,by simp_all [aJ.cells]⟩
theorem Ta:Tryz.prog.cellsOf 234= 3:=by kernel_rfl
theorem aot (h:DataW.trod enc Tryz.prog w base sp bO fuel 234 cs= some x):∃y:aL,cs= y.cells:=by
 obtain⟨xs,n,rfl,_,aS,hlen,cw⟩:=DataW.trod_struct Tryz.underlying234 h
 match cs,aS.trans Ta with
 | [c0,c1,c2],_=>
  obtain⟨n0,e0⟩:=rY hlen cw 0 _ rfl Tryz.underlying3 qI
  obtain⟨n1,e1⟩:=rY hlen cw 1 _ rfl Tryz.underlying3 qI
  obtain⟨n2,e2⟩:=Hy hlen cw 2 _ rfl Tryz.underlying4 Ft
  exact⟨⟨n0,n1,n2⟩,by simp_all [aL.cells]⟩
theorem Tc:Tryz.prog.cellsOf 275= 3:=by kernel_rfl
theorem aov (h:DataW.trod enc Tryz.prog w base sp bO fuel 275 cs= some x):∃y:aI,cs= y.cells:=by
 obtain⟨xs,n,rfl,_,aS,hlen,cw⟩:=DataW.trod_struct Tryz.underlying275 h
 match cs,aS.trans Tc with
 | [c0,c1,c2],_=>
  obtain⟨n0,e0⟩:=rY hlen cw 0 _ rfl Tryz.underlying3 qI
  obtain⟨n1,e1⟩:=rY hlen cw 1 _ rfl Tryz.underlying3 qI
  obtain⟨n2,e2⟩:=rY hlen cw 2 _ rfl Tryz.underlying3 qI
  exact⟨⟨n0,n1,n2⟩,by simp_all [aI.cells]⟩
theorem SZ:Tryz.prog.cellsOf 238= 3:=by kernel_rfl
theorem aos (h:DataW.trod enc Tryz.prog w base sp bO fuel 238 cs= some x):∃y:Out,cs= y.cells:=by
 obtain⟨xs,n,rfl,_,aS,hlen,cw⟩:=DataW.trod_struct Tryz.underlying238 h
 match cs,aS.trans SZ with
 | [c0,c1,c2],_=>
  obtain⟨n0,e0⟩:=rY hlen cw 0 _ rfl Tryz.underlying3 qI
  obtain⟨n1,e1⟩:=rY hlen cw 1 _ rfl Tryz.underlying3 qI
  obtain⟨n2,e2⟩:=Hy hlen cw 2 _ rfl Tryz.underlying4 Ft
  exact⟨⟨n0,n1,n2⟩,by simp_all [Out.cells]⟩
theorem afP:Tryz.prog.cellsOf 22= 1:=by kernel_rfl
theorem afO:Tryz.prog.cellsOf 70= 1:=by kernel_rfl
theorem afR:Tryz.prog.cellsOf 38= 1:=by kernel_rfl
theorem afQ:Tryz.prog.cellsOf 71= 1:=by kernel_rfl
theorem afN:Tryz.prog.cellsOf 74= 1:=by kernel_rfl
theorem afK:Tryz.prog.cellsOf 73= 5:=by kernel_rfl
theorem SY:Tryz.prog.cellsOf 76= 8:=by kernel_rfl
theorem aor (h:DataW.trod enc Tryz.prog w base sp bO fuel 76 cs= some x):∃(m:cz) (an ar aj ak aA:Option Addr) (c0 c1 c2 c3 c4:Nat),cs= [.slice an m.br c0,.slice ar m.bD c1,.int .i64 m.cZ,.int .i64 m.cQ,.int .i64 m.dH,.slice aj m.bE c2,.slice ak m.bK c3,.slice aA m.bt c4]∧
  m.br.length≤maxLen∧m.bD.length≤maxLen∧m.bE.length≤maxLen∧m.bK.length≤maxLen∧m.bt.length≤maxLen∧
  aH 7 aJ.cells w an m.br∧aH 3 aL.cells w ar m.bD∧aH 1 bR w aj m.bE∧aH 3 aI.cells w ak m.bK∧aH 3 Out.cells w aA m.bt:=by
 obtain⟨xs,n,rfl,_,aS,hlen,cw⟩:=DataW.trod_struct Tryz.underlying76 h
 match cs,aS.trans SY with
 | [d0,d1,d2,d3,d4,d5,d6,d7],_=>
  obtain⟨_,h0⟩:=zz hlen cw 0 _ rfl afP
  obtain⟨_,h1⟩:=zz hlen cw 1 _ rfl afO
  obtain⟨_,h2⟩:=zz hlen cw 2 _ rfl afK
  obtain⟨_,h3⟩:=zz hlen cw 3 _ rfl afN
  obtain⟨aus,oz,rfl,_,zf,Gw,uT⟩:=DataW.trod_struct Tryz.underlying73 h2
  obtain⟨n0,e2⟩:=rY Gw uT 0 _ rfl Tryz.underlying3 qI
  obtain⟨n1,e3⟩:=rY Gw uT 1 _ rfl Tryz.underlying3 qI
  obtain⟨n2,e4⟩:=rY Gw uT 2 _ rfl Tryz.underlying3 qI
  obtain⟨_,h5⟩:=zz Gw uT 3 _ rfl afR
  obtain⟨_,h6⟩:=zz Gw uT 4 _ rfl afQ
  obtain⟨an,c0,rs,e0,js,aU,_⟩:=Hz aJ.cells 7 (by decide) Tryz.underlying22 Tb (fun _ _ _ h=>aou h) h0
  obtain⟨ar,c1,qs,e1,jo,aT,_⟩:=Hz aL.cells 3 (by decide) Tryz.underlying70 Ta (fun _ _ _ h=>aot h) h1
  obtain⟨aj,c2,ws,e5,mQ,bj,_⟩:=Hz bR 1 (by decide) Tryz.underlying38 qI (fun _ _ _ h=>aop h) h5
  obtain⟨ak,c3,cn,e6,qq,bh,_⟩:=Hz aI.cells 3 (by decide) Tryz.underlying71 Tc (fun _ _ _ h=>aov h) h6
  obtain⟨aA,c4,os,e7,sI,bU,_⟩:=Hz Out.cells 3 (by decide) Tryz.underlying74 SZ (fun _ _ _ h=>aos h) h3
  simp at e0 e1 e2 e3 e4 e5 e6 e7
  subst e0 e1 e2 e3 e4 e5 e6 e7
  exact⟨⟨rs,qs,n0,n1,n2,ws,cn,os⟩,an,ar,aj,ak,aA,c0,c1,c2,c3,c4,rfl,js,jo,mQ,qq,sI,aU,aT,bj,bh,bU⟩
end
open Go.ChangeShapes Go.WideShapes Go.ChangeAt Go.RowKit Go.Deep Go.G9
section
variable {H:Type} {enc:TypeId×Value→H} {w:World} {base:Nat} {sp:Nat→Bool} {bO:Bool} {fuel:Nat} {cs:List Value} {x:DataW H×List MemPlace}
theorem afL:Tryz.prog.cellsOf 24= 3:=by kernel_rfl
theorem afJ:Tryz.prog.cellsOf 78= 11:=by kernel_rfl
theorem aoo (h:DataW.trod enc Tryz.prog w base sp bO fuel 78 cs= some x):∃(m:fv) (an ar aj ak aA:Option Addr) (c0 c1 c2 c3 c4:Nat),cs= [.slice an m.br c0,.slice ar m.bD c1,.int .i64 m.cZ,.int .i64 m.cQ,.int .i64 m.dH,.slice aj m.bE c2,.slice ak m.bK c3,.slice aA m.bt c4,.string m.eJ,.string m.eR,.int .i64 m.ec]∧
  m.eJ.size≤maxLen∧m.eR.size≤maxLen∧m.br.length≤maxLen∧m.bD.length≤maxLen∧m.bE.length≤maxLen∧m.bK.length≤maxLen∧m.bt.length≤maxLen∧
  aH 7 aJ.cells w an m.br∧aH 3 aL.cells w ar m.bD∧aH 1 bR w aj m.bE∧aH 3 aI.cells w ak m.bK∧aH 3 Out.cells w aA m.bt:=by
 obtain⟨xs,n,rfl,_,aS,hlen,cw⟩:=DataW.trod_struct Tryz.underlying78 h
 match cs,aS.trans afJ with
 | [d0,d1,d2,d3,d4,d5,d6,d7,d8,d9,d10],_=>
  obtain⟨_,h0⟩:=zz hlen cw 0 _ rfl SY
  obtain⟨_,h1⟩:=zz hlen cw 1 _ rfl afL
  obtain⟨m,an,ar,aj,ak,aA,c0,c1,c2,c3,c4,e0,js,jo,mQ,qq,sI,aU,aT,bj,bh,bU⟩:=aor h0
  obtain⟨d,p,k,e1,iU,s1⟩:=aoq h1
  simp at e0 e1
  obtain⟨rfl,rfl,rfl,rfl,rfl,rfl,rfl,rfl⟩:=e0
  obtain⟨rfl,rfl,rfl⟩:=e1
  exact⟨m.Tf d p k,an,ar,aj,ak,aA,c0,c1,c2,c3,c4,rfl,iU,s1,js,jo,mQ,qq,sI,aU,aT,bj,bh,bU⟩
end
end Go.Proofs.YtlaaemmmbodaaaaGreatDoor
namespace Go.G9
open Go.ChangeShapes Go.WideShapes Go.ChangeAt Go.RowKit Go.Deep
theorem ZX {H:Type} {enc:TypeId×Value→H} {P:Program} {w:World} {sp:Nat→Bool}:∀{xX:List String} {gs:List (DataW H)} {ps:List MemPlace},DataW.TrodVars enc P w sp xX gs ps→gs.length= xX.length
 | [],[],_,_=>rfl
 | _ ::_,_ ::_,_,h=>by obtain⟨_,_,_,_,_,_,_,_,_,_,h2,_⟩:=h;simp [ZX h2]
 | [],_ ::_,_,h=>h.elim
 | _ ::_,[],_,h=>h.elim
theorem amD {H:Type} {enc:TypeId×Value→H} {P:Program} {fn:Func} {s:ChangeSpec} {W eE:World} {args:Array Value} {qM gs:List (DataW H)} {before:List MemPlace} {rt:TypeId}
  (Jv:laidOutB P= true) (OD:∀t ∈ fn.params.toList,P.readableRec t= true∧t < P.types.size) (OG:fn.resultTypes= #[rt]) (NL:P.underlying rt= some .bool) (OV:varsRowed P s.vars= true)
  (OL:∀l g:List (DataW H),l.length= fn.params.toList.length→g.length= s.vars.length→s.fn H (l ++ g)= {results:=[.lit (.bool true)],args:=l,vars:=g})
  (bI:DataW.Whole enc P fn.params.toList s.vars false W args.toList qM gs before) (aB:Below W W eE):s.post enc P fn false true false false W args (.bool true) eE:=by
 have bl:=bI.lt;have Nz:=bI
 obtain⟨p,q,aR,ic,rfl,ajg,Ok⟩:=bI
 have ou:=OL qM gs (ZW aR) (ZX ic)
 refine⟨qM,gs,p ++ q,[],p,q,Nz,?_,?_,?_,aB.frame _,fun h=>by cases h⟩
 ·rw [ou,OG];exact trodAll_mk1 (shut_bool NL true)
 ·rw [ou];exact ZV Jv aB OD (fun x ay=>bl x (List.mem_append_left _ ay)) aR
 ·rw [ou];exact Below.trodVars Jv aB OV ic
theorem agj {H:Type} {enc:TypeId×Value→H} {C:Checked} {os:Os} {f:FuncId} {fn:Func} {s:ChangeSpec} {F:Stop.Interp} {rt:TypeId} {laid:List (String×DataW Unit)} (own:ownKnob C.prog.godebug= none) (started:os.Started) (ant:C.prog.inits.idxOf? f= none) (NQ:C.prog.funcs[f]? =some fn)
  (witness:∃(w:World) (tape:Tape) (i:Input),w.os= os∧(w.forCall tape i).Shaped C.prog∧i.vars= []∧Input.okWide C.prog (w.forCall tape i) .any w.heap.size f i∧
   (OpenSpec.ofChange s).preRow enc C.prog fn [] false laid (w.forCall tape i).memory i.args∧({}:Assume).holds C.prog (lone (Frame.enter C.prog f i.args .normal) [] (w.forCall tape i)))
  (Jv:laidOutB C.prog= true) (OD:∀t ∈ fn.params.toList,C.prog.readableRec t= true∧t < C.prog.types.size) (OG:fn.resultTypes= #[rt]) (NL:C.prog.underlying rt= some .bool) (OV:varsRowed C.prog s.vars= true)
  (OL:∀l g:List (DataW H),l.length= fn.params.toList.length→g.length= s.vars.length→s.fn H (l ++ g)= {results:=[.lit (.bool true)],args:=l,vars:=g})
  (walk:∀(W:World) (base:Nat) (args:Array Value) (qM:List (DataW H)) (p:List MemPlace),laidMetH C.prog laid W→W.ShapedOpen C.prog→(∀(j:Nat) t v,fn.params[j]? =some t→args[j]? =some v→Value.okWide C.prog W .any base t v)→
   DataW.TrodAll enc C.prog W 0 (fun _=>true) true fn.params.toList args.toList qM p→Calls C.prog f args W fun e eE=>e= .returned true∧Below W W eE):
  ReturnsInHanded {} C os f .any ((OpenSpec.ofChange s).preRow enc C.prog fn [] false laid) (((OpenSpec.ofChange s).at F).post enc C.prog fn false true false false):=by
 refine returnsInHanded_of_row (C:=C) (s:=OpenSpec.ofChange s) own started ant NQ witness ?_
 intro W base args qM gs before ve bI _ _ _ jq ld _
 have Nz:=bI
 obtain⟨p,q,aR,_,_,_,_⟩:=bI
 exact (walk W base args qM p jq ld ve aR).mono fun e eE ⟨he,aB⟩=>⟨_,he,amD (s:=s) Jv OD OG NL OV OL Nz aB⟩
theorem aoD {α β arZ:Type} {x:Option (α×β×arZ)} {a:α} {b:β} (h:x.map (fun y=>(y.1,y.2.1))= some (a,b)):∃c,x= some (a,b,c):=by
 cases x with
 | none=>cases h
 | some y=>obtain⟨ym,kA,HT⟩:=y;simp at h;obtain⟨rfl,rfl⟩:=h;exact⟨HT,rfl⟩
end Go.G9
namespace Go.Proofs.YtlaaemmmbodaaaaGreatDoor
open Go.ChangeShapes Go.WideShapes Go.ChangeAt Go.RowKit Go.Deep Go.G9
theorem amA:(Rows.laid_internal_strconv_uint64pow10:DataW Unit)= Lib.tabData .u64 Lib.pow10Tab:=rfl
theorem arb {laid:List (String×DataW Unit)} {W:World} (hf:laid.filter (fun x=>x.1 == "internal/strconv.uint64pow10")= [("internal/strconv.uint64pow10",Rows.laid_internal_strconv_uint64pow10)]) (h:laidMetH Tryz.prog laid W):ll W:=by
 have h1:=h.filter (fun x=>x.1 == "internal/strconv.uint64pow10")
 rw [hf,amA] at h1
 have h2:=Lib.tabIs_of_head (P:=Tryz.prog) (rest:=[]) (t:=290) (e:=93) MY (by kernel_rfl) Tryz.underlying290 Tryz.underlying93 (by kernel_rfl) (by kernel_rfl) h1
 refine⟨?_,h2⟩
 have h3:=h2.cell MY 0 (by decide)
 exact World.block_lt_of_cell? W _ h3
open Go.RowKit Go.G9
open Go.ChangeShapes Go.WideShapes Go.ChangeAt Go.Deep
open Go.ChangeMaps
set_option maxHeartbeats 4000000
theorem agN (u:TypeId) (h:Tryz.prog.typeName? 3 u= some "*errors.errorString"):u= 326:=
 typeName_ptr_named (nm:= "errors.errorString") (by rw [show "*" ++ "errors.errorString" = "*errors.errorString" by decide];kernel_rfl) (by kernel_rfl) (by decide) u (by rw [show "*" ++ "errors.errorString" = "*errors.errorString" by decide];exact h)
theorem agO {laid:List (String×DataW Unit)} {W:World} (hf:laid.filter (fun x=>x.1 == "strconv.ErrSyntax")= [("strconv.ErrSyntax",Rows.laid_strconv_ErrSyntax)]) (h:laidMetH Tryz.prog laid W):BJ W:=by
 have h1:=h.filter (fun x=>x.1 == "strconv.ErrSyntax")
 rw [hf,MakeChecks.laidMetH_plain _ _ _ (by kernel_rfl)] at h1
 obtain⟨a0,iU,Wg,-,-,-⟩:=laid_sentinel h1 MZ (by kernel_rfl) Tryz.underlying257 agN Tryz.underlying326 Tryz.underlying328 rfl rfl Tryz.underlying9 (by kernel_rfl) (by kernel_rfl)
 exact⟨World.block_lt_of_cell? W _ (World.var?_cell MZ Wg 0),_,_,Wg⟩
theorem anl {W:World} (h:W.ShapedOpen Tryz.prog):Ag W:=by
 obtain⟨m,hm⟩:=cell_of_shapedOpen_int (P:=Tryz.prog) (g:=1) (t:=3) (zero:=#[(0:Int)]) h (of_decide_eq_true (by kernel_rfl)) (by kernel_rfl) rfl (by kernel_rfl) (by kernel_rfl) Tryz.underlying3
 exact⟨World.block_lt_of_cell? W _ hm,m,hm⟩
open Go.RowKit Go.G9
open Go.ChangeShapes Go.WideShapes Go.ChangeAt Go.Deep
open Go.ChangeMaps
set_option maxHeartbeats 4000000
theorem ahj (os:Os) {H:Type} (enc:TypeId×Value→H):∃places,DataW.whole enc Tryz.prog ((World.laidAll Tryz.prog os Rows.fnExactExecuteCommandRow.laid).forCall (fun _ _=>0) ⟨#[],#[.agg #[.slice none 0 0,.slice none 0 0,(0:Int),(0:Int),(0:Int),.slice none 0 0,.slice none 0 0,.slice none 0 0,.string ⟨#[]⟩,.string ⟨#[]⟩,(0:Int)],.string ⟨#[]⟩],[]⟩).memory Tryz.f8.params.toList Rows.fnExactExecuteCommandSpec.vars false (#[.agg #[.slice none 0 0,.slice none 0 0,(0:Int),(0:Int),(0:Int),.slice none 0 0,.slice none 0 0,.slice none 0 0,.string ⟨#[]⟩,.string ⟨#[]⟩,(0:Int)],.string ⟨#[]⟩]:Array Value).toList 8= some ([.agg [.agg [.nil,.nil,.agg [.lit (.int .i64 0),.lit (.int .i64 0),.lit (.int .i64 0),.nil,.nil],.nil],.agg [.lit (.string []),.lit (.string []),.lit (.int .i64 0)]],.lit (.string [])],[],places):=
 aoD (by kernel_rfl)
theorem ahh (os:Os):laidMet Tryz.prog Rows.fnExactExecuteCommandRow.laid ((World.laidAll Tryz.prog os Rows.fnExactExecuteCommandRow.laid).forCall (fun _ _=>0) ⟨#[],#[.agg #[.slice none 0 0,.slice none 0 0,(0:Int),(0:Int),(0:Int),.slice none 0 0,.slice none 0 0,.slice none 0 0,.string ⟨#[]⟩,.string ⟨#[]⟩,(0:Int)],.string ⟨#[]⟩],[]⟩).memory:=
 laidMet_laidAll _ (by kernel_rfl) (by kernel_rfl)
theorem ahe (os:Os) (started:os.Started) (H:Type) (enc:TypeId×Value→H) (F:Stop.Interp):
  ReturnsInHanded {} Tryz.checked os 8 .any ((OpenSpec.ofChange Rows.fnExactExecuteCommandSpec).preRow enc Tryz.prog Tryz.f8 Rows.fnExactExecuteCommandRow.domain false Rows.fnExactExecuteCommandRow.laid) (((OpenSpec.ofChange Rows.fnExactExecuteCommandSpec).at F).post enc Tryz.prog Tryz.f8 false true false false):=by
 obtain⟨places,ay⟩:=ahj os enc
 refine agj (C:=Tryz.checked) (rt:=4) anV started (by kernel_rfl) Tryz.func8
  (witness_row_atRef (enc:=enc) (C:=Tryz.checked) false (World.laidAll Tryz.prog os Rows.fnExactExecuteCommandRow.laid) #[.agg #[.slice none 0 0,.slice none 0 0,(0:Int),(0:Int),(0:Int),.slice none 0 0,.slice none 0 0,.slice none 0 0,.string ⟨#[]⟩,.string ⟨#[]⟩,(0:Int)],.string ⟨#[]⟩] (World.laidAll_os _ _ _) (by kernel_rfl) (by kernel_rfl) (by kernel_rfl) (OpenSpec.preRow_of_cond 8 ay (by kernel_rfl) (fun k az=>by cases az) (by kernel_rfl) (ahh os)))
  anU (by rw [Tryz.params8];intro t cE;simp at cE;rcases cE with rfl | rfl;all_goals exact⟨by kernel_rfl,of_decide_eq_true (by kernel_rfl)⟩) rfl Tryz.underlying4 (by kernel_rfl)
  (by rw [Tryz.params8];intro l g aS cw;match l,g,aS,cw with | [d0,d1],[],_,_=>rfl) ?_
 intro W base args qM p jq ld ve aR
 rw [Tryz.params8] at aR ve
 obtain⟨v0,v1,d0,d1,cu,dI,rfl,rfl,rfl,h0,h1⟩:=trodAll_two aR
 obtain⟨l,rfl,rfl,rfl,amz⟩:=open_string Tryz.underlying9 (ve 1 9 v1 rfl rfl) h1
 obtain⟨agc,rfl,_⟩:=okWide_struct Tryz.underlying78 (ve 0 78 v0 rfl rfl)
 obtain⟨ath,ahp⟩:=h0
 obtain⟨x,an,ar,aj,ak,aA,c0,c1,c2,c3,c4,agt,iU,s1,js,jo,mQ,qq,sI,aU,aT,bj,bh,bU⟩:=aoo ahp
 rw [afj (cs:=agc) agt]
 exact amC x iU s1 an ar aj ak aA c0 c1 c2 c3 c4 js jo mQ qq sI l amz W aU aT bj bh bU ⟨arb rfl jq,agO rfl jq,anl ld⟩
end Go.Proofs.YtlaaemmmbodaaaaGreatDoor
