/- Parts. -/
import Derived.Deep.Slices
import Derived.ProofKit
import Derived.Test.YtlaaemmmbodaaaaGreatDoorFx6
set_option maxHeartbeats 16000000
set_option maxRecDepth 100000
set_option linter.all false
open Go Go.RowKit Go.ChangeShapes Go.WideShapes Go.ChangeAt Go.Deep Go.Proofs.YtlaaemmmbodaaaaGreatDoor
variable {aq au ak al aF:QR} {c0 aw c2 c3 c4 fuel k:Nat} {rs:List aM} {qs:List aZ} {tu se sp mem val yes bR n:Int} {ws:List Int} {ae:List aW} {os:List Out} {t e:TypeId} {cs:List Value} {u:Prop} {KL:VG aq au ak al aF c0 aw c2 c3 c4 rs qs ws ae os tu se sp}
namespace Go.Proofs.YtlaaemmmbodaaaaGreatDoor
theorem Ys (h:u:=by repeat (first | exact U | exact Below.refl _ _ | refine Below.alloc ?_ (by first | exact Nat.le_refl _ | (have gd:=U.size;simp;omega) | (simp <;> omega)) _ | refine Below.setCell ?_ (by first | exact Nat.le_refl _ | (simp <;> omega)) _)):u:=h
theorem ZD (h:u:=by simp only [di.hF,az,Bool.false_and];decide):u:=h
theorem ZF (h:u:=by simp only [di.hF,az,cr,Bool.and_self]):u:=h
theorem ZG (h:u:=by simp only [cr,Bool.and_false];decide):u:=h
theorem ZO (h:u:=by simp [results,Tryz.results154,go_sem,af]):u:=h
theorem Zj (h:u:=by simp only [oB,Bool.and_eq_true,decide_eq_true_eq] at az;exact az.2.2):u:=h
theorem Zd (h:u:=by simp [results,Tryz.results178,go_sem,af]):u:=h
theorem Zp (h:u:=by simp [results,Tryz.results103,go_sem,af]):u:=h
theorem aGE (h:u:=by simp [results,Tryz.results125,go_sem,hr]):u:=h
theorem ZW (h:u:=by rw [Dn aP];decide):u:=h
theorem aGM (h:u:=by show¬jk rs qs= true;rw [cr];decide):u:=h
theorem anb (h:u:=by
 have eg:=J.iX
 go_wp2
 clear aJ af
 refine iO 0 λcP aE=>?_
 replace U:=aE.aN U;replace J:=aE.iV J;have af:=J.aH
 refine XY (v:= .tuple #[.agg #[(),(),(0:Int),(0:Int),(0:Int),(),(),()],false]) Zd rfl ?_
 exact⟨rfl,U⟩):u:=h
theorem RC (Z:KL) {kind no:Int} (aP:(sp != 0)= true) {w:World} (R:eF w aq au ak al aF rs qs ws ae os):
 Rd 178 #[.agg KL,.agg #[kind,mem,val,yes,no,bR]] w (jr none w):=by
 clear R Z
 go_in
 go_upto_region 1 with fail
 refine gY λaO ar ag bl J=>?_
 have U:=ar;have aJ:=ag.aH;have af:=J.aH
 exact anb
theorem aHv (h:u:=by
 rintro e aI ⟨rR,sh,rfl,ef,aQ⟩
 have aj:=be aO aQ;replace U:=ai U aj;replace ag:=ag.to aj;replace aJ:=ag.aH;clear a';replace J:=J.to aj;replace af:=J.aH;have vX:=U.size
 go_wp2_with fail
 refine (akb Z.o (R.o.ad (ai U ao))).mono ?_
 rintro e bw ⟨bN,d0,bI,d4,rfl,cn,cx,bG⟩
 have aY:=be aI bG;replace U:=ai U aY;replace ef:=ef.aK aY;clear aJ;replace J:=J.to aY;replace af:=J.aH;have gE:=cn.bK J;have xe:=ef.bK J;have gL:=cx.bK J;have eg:=J.iX
 go_wp2
 clear af
 refine iO 0 λcP aE=>?_
 replace U:=aE.aN U;replace J:=aE.iV J;replace ef:=ef.cS aE xe;replace cn:=cn.cS aE gE;replace cx:=cx.cS aE gL;have af:=J.aH
 refine XY (v:= .tuple #[.agg #[bN rs d0,rR ps sh,tu,se,(0:Int),(),(),bI os d4],true]) Zd rfl ?_
 exact⟨bN,d0,rR,sh,none,0,none,0,bI,d4,rfl,⟨cn.base KK,ef.base KK,bn.nil,bn.nil,cx.base KK⟩,U⟩):u:=h
theorem auB (Z:KL) {no:Int} (ps:List aZ) (az:kU rs qs val mem= some ps) (aP:(sp != 0)= false) {w:World} (R:eF w aq au ak al aF rs qs ws ae os):
 Rd 178 #[.agg KL,.agg #[(1:Int),mem,val,yes,no,bR]] w (jr (some ⟨rs,ps,tu,se,0,[],[],os⟩) w):=by
 replace R:=I R;replace Z:=I Z;replace az:=I az
 go_in
 go_upto_region 1 with fail
 refine gY λaO ar ag bl J=>?_
 have U:=ar;have aJ:=ag.aH;have a':=bl.cX;have hC:=J.lt
 go_wp2_with fail
 refine (avv aq c0 rs Z.o.h0 Z.o.ev au aw qs Z.o.h1 Z.o.n1 val mem ps az.o _ (R.o.fC.ad (ai U ao)) (R.o.dM.ad (ai U ao))).mono ?_
 exact aHv
theorem amN (h:u:=by
 rintro e aI ⟨rR,sh,rfl,aQ⟩
 have aj:=be aO aQ;replace U:=ai U aj;clear aJ;clear a';replace J:=J.to aj;replace af:=J.aH;have eg:=J.iX
 go_wp2
 clear af
 refine iO 0 λcP aE=>?_
 replace U:=aE.aN U;replace J:=aE.iV J;have af:=J.aH
 refine XY (v:= .tuple #[.agg #[(),(),(0:Int),(0:Int),(0:Int),(),(),()],false]) Zd rfl ?_
 exact⟨rfl,U⟩):u:=h
theorem auA (Z:KL) {no:Int} (az:kU rs qs val mem= none) (aP:(sp != 0)= false) {w:World} (R:eF w aq au ak al aF rs qs ws ae os):
 Rd 178 #[.agg KL,.agg #[(1:Int),mem,val,yes,no,bR]] w (jr none w):=by
 replace R:=I R;replace Z:=I Z;replace az:=I az
 go_in
 go_upto_region 1 with fail
 refine gY λaO ar ag bl J=>?_
 have U:=ar;have aJ:=ag.aH;have a':=bl.cX
 go_wp2_with fail
 refine (avu aq c0 rs Z.o.h0 Z.o.ev au aw qs Z.o.h1 Z.o.n1 val mem az.o _ (R.o.fC.ad (ai U ao)) (R.o.dM.ad (ai U ao))).mono ?_
 exact amN
theorem auF (Z:KL) {no:Int} (ps:List aZ) (az:mG rs qs mem= some ps) (aP:(sp != 0)= false) {w:World} (R:eF w aq au ak al aF rs qs ws ae os):
 Rd 178 #[.agg KL,.agg #[(8:Int),mem,val,yes,no,bR]] w (jr (some ⟨rs,ps,tu,se,0,[],[],os⟩) w):=by
 replace R:=I R;replace Z:=I Z;replace az:=I az
 go_in
 go_upto_region 1 with fail
 refine gY λaO ar ag bl J=>?_
 have U:=ar;have aJ:=ag.aH;have a':=bl.cX;have hC:=J.lt
 go_wp2_with fail
 refine (avM aq c0 rs Z.o.h0 Z.o.ev au aw qs Z.o.h1 Z.o.eU mem ps az.o _ (R.o.fC.ad (ai U ao)) (R.o.dM.ad (ai U ao))).mono ?_
 exact aHv
theorem auE (Z:KL) {no:Int} (az:mG rs qs mem= none) (aP:(sp != 0)= false) {w:World} (R:eF w aq au ak al aF rs qs ws ae os):
 Rd 178 #[.agg KL,.agg #[(8:Int),mem,val,yes,no,bR]] w (jr none w):=by
 replace R:=I R;replace Z:=I Z;replace az:=I az
 go_in
 go_upto_region 1 with fail
 refine gY λaO ar ag bl J=>?_
 have U:=ar;have aJ:=ag.aH;have a':=bl.cX
 go_wp2_with fail
 refine (avL aq c0 rs Z.o.h0 Z.o.ev au aw qs Z.o.h1 Z.o.eU mem az.o _ (R.o.fC.ad (ai U ao)) (R.o.dM.ad (ai U ao))).mono ?_
 exact amN
theorem auH (Z:KL) {no:Int} (ps:List aZ) (az:nP rs qs= some ps) (aP:(sp != 0)= false) (aT:ps.length < qs.length) {w:World} (R:eF w aq au ak al aF rs qs ws ae os):
 Rd 178 #[.agg KL,.agg #[(9:Int),mem,val,yes,no,bR]] w (jr (some ⟨rs,ps,tu,se,0,[],[],os⟩) w):=by
 replace R:=I R;replace Z:=I Z;replace az:=I az
 go_in
 go_upto_region 1 with fail
 refine gY λaO ar ag bl J=>?_
 have U:=ar;have aJ:=ag.aH;have a':=bl.cX;have hC:=J.lt
 go_wp2_with fail
 refine (afK aq c0 rs Z.o.h0 Z.o.ev au aw qs Z.o.h1 Z.o.n1 ps az.o _ (R.o.fC.ad (ai U ao)) (R.o.dM.ad (ai U ao))).mono ?_
 exact aHv
theorem auG (Z:KL) {no:Int} (ps:List aZ) (az:nP rs qs= some ps) (aP:(sp != 0)= false) (aT:¬ps.length < qs.length) {w:World} (R:eF w aq au ak al aF rs qs ws ae os):
 Rd 178 #[.agg KL,.agg #[(9:Int),mem,val,yes,no,bR]] w (jr none w):=by
 replace R:=I R;replace Z:=I Z;replace az:=I az
 go_in
 go_upto_region 1 with fail
 refine gY λaO ar ag bl J=>?_
 have U:=ar;have aJ:=ag.aH;have a':=bl.cX;have af:=J.aH
 go_wp2_with fail
 refine (afK aq c0 rs Z.o.h0 Z.o.ev au aw qs Z.o.h1 Z.o.n1 ps az.o _ (R.o.fC.ad (ai U ao)) (R.o.dM.ad (ai U ao))).mono ?_
 rintro e aI ⟨rR,sh,rfl,ef,aQ⟩
 have aj:=be aO aQ;replace U:=ai U aj;replace ag:=ag.to aj;replace aJ:=ag.aH;clear a';replace J:=J.to aj;replace af:=J.aH;clear ef
 exact anb
theorem auD (Z:KL) {no:Int} (aP:(sp != 0)= false) (n:di) (az:sk KL ⟨7,mem,val,yes,no,bR⟩ =some n) (aS:ee rs qs= true) (dn:os.length<=12) {w:World} (R:eF w aq au ak al aF rs qs ws ae os):
 Rd 178 #[.agg KL,.agg #[(7:Int),mem,val,yes,no,bR]] w (jr (some n) w):=by
 replace R:=I R;replace Z:=I Z;replace az:=I az
 go_in
 go_upto_region 1 with fail
 refine gY λaO ar ag bl J=>?_
 have U:=ar;have aJ:=ag.aH;have a':=bl.cX;have af:=J.aH;have hC:=J.lt
 go_wp2_with fail
 refine (avK aq au ak al aF c0 aw c2 c3 c4 rs qs tu se sp ws ae os Z.o mem val yes no bR n az.o aS dn _ (R.o.ad (ai U ao))).mono ?_
 rintro e aI ⟨bN,d0,bZ,d1,aU,d2,bd,d3,bI,d4,rfl,dv,aQ⟩
 have aj:=be aO aQ;replace U:=ai U aj;clear aJ;clear a';replace J:=J.to aj;replace af:=J.aH;have cn:=dv.jg;have cm:=dv.hx;have bh:=dv.fc;have bf:=dv.fE;have cx:=dv.kK;clear dv;have gE:=cn.bK J;have jf:=cm.bK J;have eo:=bh.bK J;have dL:=bf.bK J;have gL:=cx.bK J;have eg:=J.iX
 go_wp2
 clear af
 refine iO 0 λcP aE=>?_
 replace U:=aE.aN U;replace J:=aE.iV J;replace cn:=cn.cS aE gE;replace cm:=cm.cS aE jf;replace bh:=bh.cS aE eo;replace bf:=bf.cS aE dL;replace cx:=cx.cS aE gL;have af:=J.aH
 refine XY (v:= .tuple #[.agg #[bN n.bT d0,bZ n.ch d1,n.dw,n.dp,n.dF,aU n.cz d2,bd n.cC d3,bI n.bQ d4],true]) Zd rfl ?_
 exact⟨bN,d0,bZ,d1,aU,d2,bd,d3,bI,d4,rfl,⟨cn.base KK,cm.base KK,bh.base KK,bf.base KK,cx.base KK⟩,U⟩
theorem auC (Z:KL) {no:Int} (aP:(sp != 0)= false) (az:sk KL ⟨7,mem,val,yes,no,bR⟩ =none) {w:World} (R:eF w aq au ak al aF rs qs ws ae os):
 Rd 178 #[.agg KL,.agg #[(7:Int),mem,val,yes,no,bR]] w (jr none w):=by
 replace R:=I R;replace Z:=I Z;replace az:=I az
 go_in
 go_upto_region 1 with fail
 refine gY λaO ar ag bl J=>?_
 have U:=ar;have aJ:=ag.aH;have a':=bl.cX;have af:=J.aH
 go_wp2_with fail
 refine (avI Z.o mem val az.o (R.o.ad (ai U ao))).mono ?_
 rintro e aI ⟨rfl,aQ⟩
 have aj:=be aO aQ;replace U:=ai U aj;clear aJ;clear a';replace J:=J.to aj;replace af:=J.aH;have eg:=J.iX
 go_wp2
 clear af
 refine iO 0 λcP aE=>?_
 replace U:=aE.aN U;replace J:=aE.iV J;have af:=J.aH
 refine XY (v:= .tuple #[.agg #[(),(),(0:Int),(0:Int),(0:Int),(),(),()],false]) Zd rfl ?_
 exact⟨rfl,U⟩
theorem Fv (h:u:=by
 clear R Z
 cases o with
 | none=>
  go_in
  go_upto_region 1 with fail
  refine gY λaO ar ag bl J=>?_
  have U:=ar;have aJ:=ag.aH;have a':=bl.cX;have af:=J.aH
  go_wp2_with fail
  refine (H.o _ (ai U ao)).mono ?_
  rintro e aI ⟨rfl,aQ⟩
  have aj:=be aO aQ;replace U:=ai U aj;clear aJ;clear a';replace J:=J.to aj;replace af:=J.aH;have eg:=J.iX
  go_wp2
  clear af
  refine iO 0 λcP aE=>?_
  replace U:=aE.aN U;replace J:=aE.iV J;have af:=J.aH
  refine XY (v:= .tuple #[.agg #[(),(),(0:Int),(0:Int),(0:Int),(),(),()],false]) Zp rfl ?_
  exact⟨rfl,U⟩
 | some n=>
  go_in
  go_upto_region 1 with fail
  refine gY λaO ar ag bl J=>?_
  have U:=ar;have aJ:=ag.aH;have a':=bl.cX;have af:=J.aH;have hC:=J.lt
  go_wp2_with fail
  refine (H.o _ (ai U ao)).mono ?_
  rintro e aI ⟨bN,d0,bZ,d1,aU,d2,bd,d3,bI,d4,rfl,dv,aQ⟩
  have aj:=be aO aQ;replace U:=ai U aj;clear aJ;clear a';replace J:=J.to aj;replace af:=J.aH;have cn:=dv.jg;have cm:=dv.hx;have bh:=dv.fc;have bf:=dv.fE;have cx:=dv.kK;clear dv;have gE:=cn.bK J;have jf:=cm.bK J;have eo:=bh.bK J;have dL:=bf.bK J;have gL:=cx.bK J;have eg:=J.iX
  go_wp2
  clear af
  refine iO 0 λcP aE=>?_
  replace U:=aE.aN U;replace J:=aE.iV J;replace cn:=cn.cS aE gE;replace cm:=cm.cS aE jf;replace bh:=bh.cS aE eo;replace bf:=bf.cS aE dL;replace cx:=cx.cS aE gL;have af:=J.aH
  refine XY (v:= .tuple #[.agg #[bN n.bT d0,bZ n.ch d1,n.dw,n.dp,n.dF,aU n.cz d2,bd n.cC d3,bI n.bQ d4],true]) Zp rfl ?_
  exact⟨bN,d0,bZ,d1,aU,d2,bd,d3,bI,d4,rfl,⟨cn.base KK,cm.base KK,bh.base KK,bf.base KK,cx.base KK⟩,U⟩):u:=h
theorem avi (aq au ak al aF:QR) (c0 aw c2 c3 c4:Nat) (rs:List aM) (qs:List aZ) (tu se sp:Int) (ws:List Int) (ae:List aW) (os:List Out) (Z:fa aq au ak al aF c0 aw c2 c3 c4 rs qs ws ae os) (mem val yes no bR:Int) (o:Option di) (w:World) (R:eF w aq au ak al aF rs qs ws ae os) (H:∀W,Below w w W->Rd 178 #[.agg #[aq rs c0,au qs aw,tu,se,sp,ak ws c2,al ae c3,aF os c4],.agg #[(1:Int),mem,val,yes,no,bR]] W (jr o W)):
 Rd 103 #[.agg #[aq rs c0,au qs aw,tu,se,sp,ak ws c2,al ae c3,aF os c4],.agg #[(1:Int),mem,val,yes,no,bR]] w (jr o w):=by
 replace H:=I H
 exact Fv
theorem avp (aq au ak al aF:QR) (c0 aw c2 c3 c4:Nat) (rs:List aM) (qs:List aZ) (tu se sp:Int) (ws:List Int) (ae:List aW) (os:List Out) (Z:fa aq au ak al aF c0 aw c2 c3 c4 rs qs ws ae os) (mem val yes no bR:Int) (o:Option di) (w:World) (R:eF w aq au ak al aF rs qs ws ae os) (H:∀W,Below w w W->Rd 178 #[.agg #[aq rs c0,au qs aw,tu,se,sp,ak ws c2,al ae c3,aF os c4],.agg #[(7:Int),mem,val,yes,no,bR]] W (jr o W)):
 Rd 103 #[.agg #[aq rs c0,au qs aw,tu,se,sp,ak ws c2,al ae c3,aF os c4],.agg #[(7:Int),mem,val,yes,no,bR]] w (jr o w):=by
 replace H:=I H
 exact Fv
theorem avq (aq au ak al aF:QR) (c0 aw c2 c3 c4:Nat) (rs:List aM) (qs:List aZ) (tu se sp:Int) (ws:List Int) (ae:List aW) (os:List Out) (Z:fa aq au ak al aF c0 aw c2 c3 c4 rs qs ws ae os) (mem val yes no bR:Int) (o:Option di) (w:World) (R:eF w aq au ak al aF rs qs ws ae os) (H:∀W,Below w w W->Rd 178 #[.agg #[aq rs c0,au qs aw,tu,se,sp,ak ws c2,al ae c3,aF os c4],.agg #[(8:Int),mem,val,yes,no,bR]] W (jr o W)):
 Rd 103 #[.agg #[aq rs c0,au qs aw,tu,se,sp,ak ws c2,al ae c3,aF os c4],.agg #[(8:Int),mem,val,yes,no,bR]] w (jr o w):=by
 replace H:=I H
 exact Fv
theorem avr (aq au ak al aF:QR) (c0 aw c2 c3 c4:Nat) (rs:List aM) (qs:List aZ) (tu se sp:Int) (ws:List Int) (ae:List aW) (os:List Out) (Z:fa aq au ak al aF c0 aw c2 c3 c4 rs qs ws ae os) (mem val yes no bR:Int) (o:Option di) (w:World) (R:eF w aq au ak al aF rs qs ws ae os) (H:∀W,Below w w W->Rd 178 #[.agg #[aq rs c0,au qs aw,tu,se,sp,ak ws c2,al ae c3,aF os c4],.agg #[(9:Int),mem,val,yes,no,bR]] W (jr o W)):
 Rd 103 #[.agg #[aq rs c0,au qs aw,tu,se,sp,ak ws c2,al ae c3,aF os c4],.agg #[(9:Int),mem,val,yes,no,bR]] w (jr o w):=by
 replace H:=I H
 exact Fv
theorem avl (aq au ak al aF:QR) (c0 aw c2 c3 c4:Nat) (rs:List aM) (qs:List aZ) (tu se sp:Int) (ws:List Int) (ae:List aW) (os:List Out) (Z:fa aq au ak al aF c0 aw c2 c3 c4 rs qs ws ae os) (mem val yes no bR:Int) (o:Option di) (w:World) (R:eF w aq au ak al aF rs qs ws ae os) (H:∀W,Below w w W->Rd 179 #[.agg #[aq rs c0,au qs aw,tu,se,sp,ak ws c2,al ae c3,aF os c4],.agg #[(3:Int),mem,val,yes,no,bR]] W (jr o W)):
 Rd 103 #[.agg #[aq rs c0,au qs aw,tu,se,sp,ak ws c2,al ae c3,aF os c4],.agg #[(3:Int),mem,val,yes,no,bR]] w (jr o w):=by
 replace H:=I H
 exact Fv
theorem avm (aq au ak al aF:QR) (c0 aw c2 c3 c4:Nat) (rs:List aM) (qs:List aZ) (tu se sp:Int) (ws:List Int) (ae:List aW) (os:List Out) (Z:fa aq au ak al aF c0 aw c2 c3 c4 rs qs ws ae os) (mem val yes no bR:Int) (o:Option di) (w:World) (R:eF w aq au ak al aF rs qs ws ae os) (H:∀W,Below w w W->Rd 179 #[.agg #[aq rs c0,au qs aw,tu,se,sp,ak ws c2,al ae c3,aF os c4],.agg #[(4:Int),mem,val,yes,no,bR]] W (jr o W)):
 Rd 103 #[.agg #[aq rs c0,au qs aw,tu,se,sp,ak ws c2,al ae c3,aF os c4],.agg #[(4:Int),mem,val,yes,no,bR]] w (jr o w):=by
 replace H:=I H
 exact Fv
theorem avn (aq au ak al aF:QR) (c0 aw c2 c3 c4:Nat) (rs:List aM) (qs:List aZ) (tu se sp:Int) (ws:List Int) (ae:List aW) (os:List Out) (Z:fa aq au ak al aF c0 aw c2 c3 c4 rs qs ws ae os) (mem val yes no bR:Int) (o:Option di) (w:World) (R:eF w aq au ak al aF rs qs ws ae os) (H:∀W,Below w w W->Rd 179 #[.agg #[aq rs c0,au qs aw,tu,se,sp,ak ws c2,al ae c3,aF os c4],.agg #[(5:Int),mem,val,yes,no,bR]] W (jr o W)):
 Rd 103 #[.agg #[aq rs c0,au qs aw,tu,se,sp,ak ws c2,al ae c3,aF os c4],.agg #[(5:Int),mem,val,yes,no,bR]] w (jr o w):=by
 replace H:=I H
 exact Fv
theorem avo (aq au ak al aF:QR) (c0 aw c2 c3 c4:Nat) (rs:List aM) (qs:List aZ) (tu se sp:Int) (ws:List Int) (ae:List aW) (os:List Out) (Z:fa aq au ak al aF c0 aw c2 c3 c4 rs qs ws ae os) (mem val yes no bR:Int) (o:Option di) (w:World) (R:eF w aq au ak al aF rs qs ws ae os) (H:∀W,Below w w W->Rd 179 #[.agg #[aq rs c0,au qs aw,tu,se,sp,ak ws c2,al ae c3,aF os c4],.agg #[(6:Int),mem,val,yes,no,bR]] W (jr o W)):
 Rd 103 #[.agg #[aq rs c0,au qs aw,tu,se,sp,ak ws c2,al ae c3,aF os c4],.agg #[(6:Int),mem,val,yes,no,bR]] w (jr o w):=by
 replace H:=I H
 exact Fv
theorem akZ (h:u:=by
 exact⟨ck,e0,rR,sh,ct,e2,cu,e3,cl,e4,rfl,⟨cn.base KK,ef.base KK,bh.base KK,bf.base KK,cx.base KK⟩,U⟩):u:=h
theorem avk (Z:KL) {no:Int} (ps:List aZ) (az:ln rs qs mem= some ps) {w:World} (R:eF w aq au ak al aF rs qs ws ae os):
 Rd 103 #[.agg KL,.agg #[(2:Int),mem,val,yes,no,bR]] w (jr (some ⟨rs,ps,tu,se,sp,ws,ae,os⟩) w):=by
 replace R:=I R;replace Z:=I Z;replace az:=I az
 go_in
 go_upto_region 1 with fail
 refine gY λaO ar ag bl J=>?_
 have U:=ar;have aJ:=ag.aH;have a':=bl.cX;have af:=J.aH;have hC:=J.lt
 go_wp2_with fail
 refine (avF aq c0 rs Z.o.h0 Z.o.ev au aw qs Z.o.h1 Z.o.n1 mem ps az.o _ (R.o.fC.ad (ai U ao)) (R.o.dM.ad (ai U ao))).mono ?_
 rintro e aI ⟨rR,sh,rfl,ef,aQ⟩
 have aj:=be aO aQ;replace U:=ai U aj;replace ag:=ag.to aj;replace aJ:=ag.aH;clear a';replace J:=J.to aj;replace af:=J.aH;have sj:=aj.size;have vX:=U.size
 go_wp2_with fail
 refine (Sd aq au ak al aF c0 aw c2 c3 c4 rs qs tu se sp ws ae os Z.o _ (R.o.ad (ai U ao))).mono ?_
 rintro e bw ⟨ck,e0,cf,e1,ct,e2,cu,e3,cl,e4,rfl,dv,bG⟩
 have aY:=be aI bG;replace U:=ai U aY;replace ef:=ef.aK aY;clear aJ;replace J:=J.to aY;replace af:=J.aH;have uV:=aY.size;have Ta:=U.size
 go_upto_region 17 with fail
 refine Xi λrb cj aR=>?_;have kC:=dv.aK cj;clear dv;replace ef:=ef.aK cj
 replace U:=ai U cj;have bE:=aR.aH;replace J:=J.to cj;replace af:=J.aH;have cn:=kC.jg;have bh:=kC.fc;have bf:=kC.fE;have cx:=kC.kK;clear kC;have Gt:=aR.frozen 1;have gE:=cn.bK aR;have xe:=ef.bK aR;have eo:=bh.bK aR;have dL:=bf.bK aR;have gL:=cx.bK aR
 go_upto_region 18 with fail
 clear af bE
 refine kL 1 λoL fK=>?_
 replace U:=fK.aN U;replace J:=fK.dj J;replace aR:=fK.OB aR;replace ef:=ef.cS fK xe;replace cn:=cn.cS fK gE;replace bh:=bh.cS fK eo;replace bf:=bf.cS fK dL;replace cx:=cx.cS fK gL
 have af:=J.aH;have bE:=aR.aH;clear Gt;replace gE:=cn.bK J;replace xe:=ef.bK J;replace eo:=bh.bK J;replace dL:=bf.bK J;replace gL:=cx.bK J;have eg:=J.iX
 go_wp2
 clear af bE
 refine iO 0 λcP aE=>?_
 replace U:=aE.aN U;replace J:=aE.iV J;replace ef:=ef.cS aE xe;replace cn:=cn.cS aE gE;replace bh:=bh.cS aE eo;replace bf:=bf.cS aE dL;replace cx:=cx.cS aE gL;have af:=J.aH
 refine XY (v:= .tuple #[.agg #[ck rs e0,rR ps sh,tu,se,sp,ct ws e2,cu ae e3,cl os e4],true]) Zp rfl ?_
 exact akZ
theorem anm (h:u:=by
 refine iO 0 λcP aE=>?_
 replace U:=aE.aN U;replace J:=aE.iV J;have af:=J.aH
 refine XY (v:= .tuple #[.agg #[(),(),(0:Int),(0:Int),(0:Int),(),(),()],false]) Zp rfl ?_
 exact⟨rfl,U⟩):u:=h
theorem avj (Z:KL) {no:Int} (az:ln rs qs mem= none) {w:World} (R:eF w aq au ak al aF rs qs ws ae os):
 Rd 103 #[.agg KL,.agg #[(2:Int),mem,val,yes,no,bR]] w (jr none w):=by
 replace R:=I R;replace Z:=I Z;replace az:=I az
 go_in
 go_upto_region 1 with fail
 refine gY λaO ar ag bl J=>?_
 have U:=ar;have aJ:=ag.aH;have a':=bl.cX;have af:=J.aH
 go_wp2_with fail
 refine (avE aq c0 rs Z.o.h0 Z.o.ev au aw qs Z.o.h1 Z.o.n1 mem az.o _ (R.o.fC.ad (ai U ao)) (R.o.dM.ad (ai U ao))).mono ?_
 rintro e aI ⟨rR,sh,rfl,aQ⟩
 have aj:=be aO aQ;replace U:=ai U aj;clear aJ;clear a';replace J:=J.to aj;replace af:=J.aH;have eg:=J.iX
 go_wp2
 clear af
 exact anm
theorem avt (aq au ak al aF:QR) (c0 aw c2 c3 c4:Nat) (rs:List aM) (qs:List aZ) (tu se sp:Int) (ws:List Int) (ae:List aW) (os:List Out) (Z:fa aq au ak al aF c0 aw c2 c3 c4 rs qs ws ae os) (kind mem val yes no bR:Int) (g1:(kind == 1)= false) (g2:(kind == 2)= false) (g3:(kind == 3)= false) (g4:(kind == 4)= false) (g5:(kind == 5)= false) (g6:(kind == 6)= false) (g7:(kind == 7)= false) (g8:(kind == 8)= false) (g9:(kind == 9)= false) (w:World) (R:eF w aq au ak al aF rs qs ws ae os):
 Rd 103 #[.agg #[aq rs c0,au qs aw,tu,se,sp,ak ws c2,al ae c3,aF os c4],.agg #[kind,mem,val,yes,no,bR]] w (jr none w):=by
 clear R Z
 go_in
 go_upto_region 1 with fail
 refine gY λaO ar ag bl J=>?_
 have U:=ar;have a':=bl.cX;have af:=J.aH;have eg:=J.iX
 go_wp2
 clear a' af
 exact anm
theorem aHw (h:u:=by
 rintro e bw ⟨rR,sh,rfl,ef,bG⟩
 have aY:=be ic bG;replace U:=ai U aY;replace ag:=ag.to aY;replace aJ:=ag.aH;clear a';replace J:=J.to aY;replace af:=J.aH;have vX:=U.size
 go_wp2_with fail
 refine (ago Z.o (R.o.ad (ai U ao))).mono ?_
 rintro e bH ⟨bN,d0,bI,d4,rfl,cn,cx,db⟩
 have cj:=be bw db;replace U:=ai U cj;replace ef:=ef.aK cj;clear aJ;replace J:=J.to cj;replace af:=J.aH;have gE:=cn.bK J;have xe:=ef.bK J;have gL:=cx.bK J;have eg:=J.iX
 go_wp2
 clear af
 refine iO 0 λcP aE=>?_
 replace U:=aE.aN U;replace J:=aE.iV J;replace ef:=ef.cS aE xe;replace cn:=cn.cS aE gE;replace cx:=cx.cS aE gL;have af:=J.aH
 refine XY (v:= .tuple #[.agg #[bN rs d0,rR ps sh,tu,se,(0:Int),(),(),bI os d4],true]) ZO rfl ?_
 exact⟨bN,d0,rR,sh,none,0,none,0,bI,d4,rfl,⟨cn.base KK,ef.base KK,bn.nil,bn.nil,cx.base KK⟩,U⟩):u:=h
theorem aAb (Z:KL) {no:Int} (ps:List aZ) (az:kU rs qs val mem= some ps) (aP:(sp == 0)= true) {w:World} (R:eF w aq au ak al aF rs qs ws ae os):
 Rd 154 #[.agg KL,.agg #[(1:Int),mem,val,yes,no,bR]] w (jr (some ⟨rs,ps,tu,se,0,[],[],os⟩) w):=by
 replace R:=I R;replace Z:=I Z;replace az:=I az
 go_in
 go_upto_region 1 with fail
 refine gY λaO ar ag bl J=>?_
 have U:=ar;have aJ:=ag.aH;have a':=bl.cX;have hC:=J.lt
 go_upto_region 2 with fail
 refine dh λic aj ec=>?_
 replace U:=ai U aj;replace ag:=ag.to aj;replace aJ:=ag.aH;replace bl:=bl.to aj;replace a':=bl.cX;replace J:=J.to aj;have No:=ec.lt
 go_wp2_with fail
 refine (aiL aq c0 rs Z.o.h0 au aw qs Z.o.h1 Z.o.n1 val mem ps az.o _ (R.o.fC.ad (ai U ao)) (R.o.dM.ad (ai U ao))).mono ?_
 exact aHw
theorem aaj (h:u:=by
 rintro e bw ⟨rR,sh,rfl,bG⟩
 have aY:=be ic bG;replace U:=ai U aY;clear aJ;clear a';replace J:=J.to aY;replace af:=J.aH;have eg:=J.iX
 go_wp2
 clear af
 refine iO 0 λcP aE=>?_
 replace U:=aE.aN U;replace J:=aE.iV J;have af:=J.aH
 refine XY (v:= .tuple #[.agg #[(),(),(0:Int),(0:Int),(0:Int),(),(),()],false]) ZO rfl ?_
 exact⟨rfl,U⟩):u:=h
theorem aiI (Z:KL) {no:Int} (az:kU rs qs val mem= none) {w:World} (R:eF w aq au ak al aF rs qs ws ae os):
 Rd 154 #[.agg KL,.agg #[(1:Int),mem,val,yes,no,bR]] w (jr none w):=by
 replace R:=I R;replace Z:=I Z;replace az:=I az
 go_in
 go_upto_region 1 with fail
 refine gY λaO ar ag bl J=>?_
 have U:=ar;have aJ:=ag.aH;have a':=bl.cX
 go_upto_region 2 with fail
 refine dh λic aj ec=>?_
 replace U:=ai U aj;replace ag:=ag.to aj;replace aJ:=ag.aH;replace bl:=bl.to aj;replace a':=bl.cX;replace J:=J.to aj
 go_wp2_with fail
 refine (aAk aq c0 rs Z.o.h0 au aw qs Z.o.h1 Z.o.n1 val mem az.o _ (R.o.fC.ad (ai U ao)) (R.o.dM.ad (ai U ao))).mono ?_
 exact aaj
theorem amI (h:u:=by
 rintro e bw ⟨rR,sh,rfl,ef,bG⟩
 have aY:=be ic bG;replace U:=ai U aY;clear aJ;clear a';replace J:=J.to aY;replace af:=J.aH;clear ef;have eg:=J.iX
 go_wp2
 clear af
 refine iO 0 λcP aE=>?_
 replace U:=aE.aN U;replace J:=aE.iV J;have af:=J.aH
 refine XY (v:= .tuple #[.agg #[(),(),(0:Int),(0:Int),(0:Int),(),(),()],false]) ZO rfl ?_
 exact⟨rfl,U⟩):u:=h
theorem aAa (Z:KL) {no:Int} (ps:List aZ) (az:kU rs qs val mem= some ps) (aP:(sp == 0)= false) {w:World} (R:eF w aq au ak al aF rs qs ws ae os):
 Rd 154 #[.agg KL,.agg #[(1:Int),mem,val,yes,no,bR]] w (jr none w):=by
 replace R:=I R;replace Z:=I Z;replace az:=I az
 go_in
 go_upto_region 1 with fail
 refine gY λaO ar ag bl J=>?_
 have U:=ar;have aJ:=ag.aH;have a':=bl.cX
 go_upto_region 2 with fail
 refine dh λic aj ec=>?_
 replace U:=ai U aj;replace ag:=ag.to aj;replace aJ:=ag.aH;replace bl:=bl.to aj;replace a':=bl.cX;replace J:=J.to aj
 go_wp2_with fail
 refine (aiL aq c0 rs Z.o.h0 au aw qs Z.o.h1 Z.o.n1 val mem ps az.o _ (R.o.fC.ad (ai U ao)) (R.o.dM.ad (ai U ao))).mono ?_
 exact amI
theorem aAg (Z:KL) {no:Int} (ps:List aZ) (az:mG rs qs mem= some ps) (aP:(sp == 0)= true) {w:World} (R:eF w aq au ak al aF rs qs ws ae os):
 Rd 154 #[.agg KL,.agg #[(8:Int),mem,val,yes,no,bR]] w (jr (some ⟨rs,ps,tu,se,0,[],[],os⟩) w):=by
 replace R:=I R;replace Z:=I Z;replace az:=I az
 go_in
 go_upto_region 1 with fail
 refine gY λaO ar ag bl J=>?_
 have U:=ar;have aJ:=ag.aH;have a':=bl.cX;have hC:=J.lt
 go_upto_region 2 with fail
 refine dh λic aj ec=>?_
 replace U:=ai U aj;replace ag:=ag.to aj;replace aJ:=ag.aH;replace bl:=bl.to aj;replace a':=bl.cX;replace J:=J.to aj;have No:=ec.lt
 go_wp2_with fail
 refine (aiT aq c0 rs Z.o.h0 au aw qs Z.o.h1 Z.o.eU mem ps az.o _ (R.o.fC.ad (ai U ao)) (R.o.dM.ad (ai U ao))).mono ?_
 exact aHw
theorem aiK (Z:KL) {no:Int} (az:mG rs qs mem= none) {w:World} (R:eF w aq au ak al aF rs qs ws ae os):
 Rd 154 #[.agg KL,.agg #[(8:Int),mem,val,yes,no,bR]] w (jr none w):=by
 replace R:=I R;replace Z:=I Z;replace az:=I az
 go_in
 go_upto_region 1 with fail
 refine gY λaO ar ag bl J=>?_
 have U:=ar;have aJ:=ag.aH;have a':=bl.cX
 go_upto_region 2 with fail
 refine dh λic aj ec=>?_
 replace U:=ai U aj;replace ag:=ag.to aj;replace aJ:=ag.aH;replace bl:=bl.to aj;replace a':=bl.cX;replace J:=J.to aj
 go_wp2_with fail
 refine (aAy aq c0 rs Z.o.h0 au aw qs Z.o.h1 Z.o.eU mem az.o _ (R.o.fC.ad (ai U ao)) (R.o.dM.ad (ai U ao))).mono ?_
 exact aaj
theorem aAf (Z:KL) {no:Int} (ps:List aZ) (az:mG rs qs mem= some ps) (aP:(sp == 0)= false) {w:World} (R:eF w aq au ak al aF rs qs ws ae os):
 Rd 154 #[.agg KL,.agg #[(8:Int),mem,val,yes,no,bR]] w (jr none w):=by
 replace R:=I R;replace Z:=I Z;replace az:=I az
 go_in
 go_upto_region 1 with fail
 refine gY λaO ar ag bl J=>?_
 have U:=ar;have aJ:=ag.aH;have a':=bl.cX
 go_upto_region 2 with fail
 refine dh λic aj ec=>?_
 replace U:=ai U aj;replace ag:=ag.to aj;replace aJ:=ag.aH;replace bl:=bl.to aj;replace a':=bl.cX;replace J:=J.to aj
 go_wp2_with fail
 refine (aiT aq c0 rs Z.o.h0 au aw qs Z.o.h1 Z.o.eU mem ps az.o _ (R.o.fC.ad (ai U ao)) (R.o.dM.ad (ai U ao))).mono ?_
 exact amI
theorem aAi (Z:KL) {no:Int} (ps:List aZ) (az:nP rs qs= some ps) (aT:ps.length < qs.length) {w:World} (R:eF w aq au ak al aF rs qs ws ae os):
 Rd 154 #[.agg KL,.agg #[(9:Int),mem,val,yes,no,bR]] w (jr (some ⟨rs,ps,tu,se,0,[],[],os⟩) w):=by
 replace R:=I R;replace Z:=I Z;replace az:=I az
 go_in
 go_upto_region 1 with fail
 refine gY λaO ar ag bl J=>?_
 have U:=ar;have aJ:=ag.aH;have a':=bl.cX;have hC:=J.lt
 go_upto_region 2 with fail
 refine dh λic aj ec=>?_
 replace U:=ai U aj;replace ag:=ag.to aj;replace aJ:=ag.aH;replace bl:=bl.to aj;replace a':=bl.cX;replace J:=J.to aj;have No:=ec.lt
 go_wp2_with fail
 refine (aiC aq c0 rs Z.o.h0 au aw qs Z.o.h1 Z.o.n1 Z.o.eU ps az.o _ (R.o.fC.ad (ai U ao)) (R.o.dM.ad (ai U ao))).mono ?_
 exact aHw
theorem aAh (Z:KL) {no:Int} (ps:List aZ) (az:nP rs qs= some ps) (aT:¬ps.length < qs.length) {w:World} (R:eF w aq au ak al aF rs qs ws ae os):
 Rd 154 #[.agg KL,.agg #[(9:Int),mem,val,yes,no,bR]] w (jr none w):=by
 replace R:=I R;replace Z:=I Z;replace az:=I az
 go_in
 go_upto_region 1 with fail
 refine gY λaO ar ag bl J=>?_
 have U:=ar;have aJ:=ag.aH;have a':=bl.cX;have af:=J.aH
 go_upto_region 2 with fail
 refine dh λic aj ec=>?_
 replace U:=ai U aj;replace ag:=ag.to aj;replace aJ:=ag.aH;replace bl:=bl.to aj;replace a':=bl.cX;replace J:=J.to aj;replace af:=J.aH
 go_wp2_with fail
 refine (aiC aq c0 rs Z.o.h0 au aw qs Z.o.h1 Z.o.n1 Z.o.eU ps az.o _ (R.o.fC.ad (ai U ao)) (R.o.dM.ad (ai U ao))).mono ?_
 rintro e bw ⟨rR,sh,rfl,ef,bG⟩
 have aY:=be ic bG;replace U:=ai U aY;replace ag:=ag.to aY;replace aJ:=ag.aH;clear a';replace J:=J.to aY;replace af:=J.aH;clear ef;have eg:=J.iX
 go_wp2
 clear aJ af
 refine iO 0 λcP aE=>?_
 replace U:=aE.aN U;replace J:=aE.iV J;have af:=J.aH
 refine XY (v:= .tuple #[.agg #[(),(),(0:Int),(0:Int),(0:Int),(),(),()],false]) ZO rfl ?_
 exact⟨rfl,U⟩
theorem amm (h:u:=by
 rintro e bw ⟨bN,d0,bZ,d1,aU,d2,bd,d3,bI,d4,rfl,dv,bG⟩
 have aY:=be ic bG;replace U:=ai U aY;clear aJ;clear a';replace J:=J.to aY;replace af:=J.aH;have cn:=dv.jg;have cm:=dv.hx;have bh:=dv.fc;have bf:=dv.fE;have cx:=dv.kK;clear dv;have gE:=cn.bK J;have jf:=cm.bK J;have eo:=bh.bK J;have dL:=bf.bK J;have gL:=cx.bK J;have eg:=J.iX
 go_wp2
 clear af
 refine iO 0 λcP aE=>?_
 replace U:=aE.aN U;replace J:=aE.iV J;replace cn:=cn.cS aE gE;replace cm:=cm.cS aE jf;replace bh:=bh.cS aE eo;replace bf:=bf.cS aE dL;replace cx:=cx.cS aE gL;have af:=J.aH
 refine XY (v:= .tuple #[.agg #[bN n.bT d0,bZ n.ch d1,n.dw,n.dp,n.dF,aU n.cz d2,bd n.cC d3,bI n.bQ d4],true]) ZO rfl ?_
 exact⟨bN,d0,bZ,d1,aU,d2,bd,d3,bI,d4,rfl,⟨cn.base KK,cm.base KK,bh.base KK,bf.base KK,cx.base KK⟩,U⟩):u:=h
theorem aAe (Z:KL) {no:Int} (aP:(sp != 0)= false) (n:di) (az:sk KL ⟨7,mem,val,yes,no,bR⟩ =some n) (aS:ee rs qs= true) (dn:os.length<=12) {w:World} (R:eF w aq au ak al aF rs qs ws ae os):
 Rd 154 #[.agg KL,.agg #[(7:Int),mem,val,yes,no,bR]] w (jr (some n) w):=by
 replace R:=I R;replace Z:=I Z;replace az:=I az
 go_in
 go_upto_region 1 with fail
 refine gY λaO ar ag bl J=>?_
 have U:=ar;have aJ:=ag.aH;have a':=bl.cX;have hC:=J.lt
 go_upto_region 2 with fail
 refine dh λic aj ec=>?_
 replace U:=ai U aj;replace ag:=ag.to aj;replace aJ:=ag.aH;replace bl:=bl.to aj;replace a':=bl.cX;replace J:=J.to aj;have No:=ec.lt
 go_wp2_with fail
 refine (aAx aq au ak al aF c0 aw c2 c3 c4 rs qs tu se sp ws ae os Z.o mem val yes no bR aP n az.o aS dn _ (R.o.ad (ai U ao))).mono ?_
 exact amm
theorem amO (h:u:=by
 rintro e bw ⟨rfl,bG⟩
 have aY:=be ic bG;replace U:=ai U aY;clear aJ;clear a';replace J:=J.to aY;replace af:=J.aH;have eg:=J.iX
 go_wp2
 clear af
 refine iO 0 λcP aE=>?_
 replace U:=aE.aN U;replace J:=aE.iV J;have af:=J.aH
 refine XY (v:= .tuple #[.agg #[(),(),(0:Int),(0:Int),(0:Int),(),(),()],false]) ZO rfl ?_
 exact⟨rfl,U⟩):u:=h
theorem aiJ (Z:KL) {no:Int} (az:sp≠0\/sk KL ⟨7,mem,val,yes,no,bR⟩ =none) {w:World} (R:eF w aq au ak al aF rs qs ws ae os):
 Rd 154 #[.agg KL,.agg #[(7:Int),mem,val,yes,no,bR]] w (jr none w):=by
 replace R:=I R;replace Z:=I Z;replace az:=I az
 go_in
 go_upto_region 1 with fail
 refine gY λaO ar ag bl J=>?_
 have U:=ar;have aJ:=ag.aH;have a':=bl.cX
 go_upto_region 2 with fail
 refine dh λic aj ec=>?_
 replace U:=ai U aj;replace ag:=ag.to aj;replace aJ:=ag.aH;replace bl:=bl.to aj;replace a':=bl.cX;replace J:=J.to aj
 go_wp2_with fail
 refine (aAv Z.o mem val az.o (R.o.ad (ai U ao))).mono ?_
 exact amO
theorem OP (tu se sp:Int) (Z:fa aq au ak al aF c0 aw c2 c3 c4 rs qs ws ae os) (kind mem val yes no bR:Int) (g1:(kind == 1)= false) (g2:(kind == 2)= false) (g7:(kind == 7)= false) (g8:(kind == 8)= false) (g9:(kind == 9)= false) (o:Option di) {w:World} (R:eF w aq au ak al aF rs qs ws ae os) (H:∀W,Below w w W->Rd 235 #[.agg #[aq rs c0,au qs aw,tu,se,sp,ak ws c2,al ae c3,aF os c4],.agg #[kind,mem,val,yes,no,bR]] W (jr o W)):
 Rd 154 #[.agg #[aq rs c0,au qs aw,tu,se,sp,ak ws c2,al ae c3,aF os c4],.agg #[kind,mem,val,yes,no,bR]] w (jr o w):=by
 replace H:=I H;clear R Z
 cases o with
 | none=>
  go_in
  go_upto_region 1 with fail
  refine gY λaO ar ag bl J=>?_
  have U:=ar;have aJ:=ag.aH;have a':=bl.cX
  go_upto_region 2 with fail
  refine dh λic aj ec=>?_
  replace U:=ai U aj;replace ag:=ag.to aj;replace aJ:=ag.aH;replace bl:=bl.to aj;replace a':=bl.cX;replace J:=J.to aj
  go_wp2_with fail
  refine (H.o _ (ai U ao)).mono ?_
  exact amO
 | some n=>
  go_in
  go_upto_region 1 with fail
  refine gY λaO ar ag bl J=>?_
  have U:=ar;have aJ:=ag.aH;have a':=bl.cX;have hC:=J.lt
  go_upto_region 2 with fail
  refine dh λic aj ec=>?_
  replace U:=ai U aj;replace ag:=ag.to aj;replace aJ:=ag.aH;replace bl:=bl.to aj;replace a':=bl.cX;replace J:=J.to aj;have No:=ec.lt
  go_wp2_with fail
  refine (H.o _ (ai U ao)).mono ?_
  exact amm
theorem aAd (Z:KL) {no:Int} (ps:List aZ) (az:ln rs qs mem= some ps) {w:World} (R:eF w aq au ak al aF rs qs ws ae os):
 Rd 154 #[.agg KL,.agg #[(2:Int),mem,val,yes,no,bR]] w (jr (some ⟨rs,ps,tu,se,sp,ws,ae,os⟩) w):=by
 replace R:=I R;replace Z:=I Z;replace az:=I az
 go_in
 go_upto_region 1 with fail
 refine gY λaO ar ag bl J=>?_
 have U:=ar;have aJ:=ag.aH;have a':=bl.cX;have af:=J.aH;have hC:=J.lt
 go_upto_region 2 with fail
 refine dh λic aj ec=>?_
 replace U:=ai U aj;replace ag:=ag.to aj;replace aJ:=ag.aH;replace bl:=bl.to aj;replace a':=bl.cX;replace J:=J.to aj;replace af:=J.aH;have No:=ec.lt
 go_wp2_with fail
 refine (aAq aq c0 rs Z.o.h0 au aw qs Z.o.h1 Z.o.n1 mem ps az.o _ (R.o.fC.ad (ai U ao)) (R.o.dM.ad (ai U ao))).mono ?_
 rintro e bw ⟨rR,sh,rfl,ef,bG⟩
 have aY:=be ic bG;replace U:=ai U aY;replace ag:=ag.to aY;replace aJ:=ag.aH;clear a';replace J:=J.to aY;replace af:=J.aH;have sj:=aY.size;have vX:=U.size
 go_wp2_with fail
 refine (NY aq au ak al aF c0 aw c2 c3 c4 rs qs tu se sp ws ae os Z.o _ (R.o.ad (ai U ao))).mono ?_
 rintro e bH ⟨ck,e0,cf,e1,ct,e2,cu,e3,cl,e4,rfl,dv,db⟩
 have cj:=be bw db;replace U:=ai U cj;replace ef:=ef.aK cj;clear aJ;replace J:=J.to cj;replace af:=J.aH;have uV:=cj.size;have Ta:=U.size
 go_upto_region 13 with fail
 refine Xi λrb dK aR=>?_;have kC:=dv.aK dK;clear dv;replace ef:=ef.aK dK
 replace U:=ai U dK;have bE:=aR.aH;replace J:=J.to dK;replace af:=J.aH;have cn:=kC.jg;have bh:=kC.fc;have bf:=kC.fE;have cx:=kC.kK;clear kC;have Gt:=aR.frozen 1;have gE:=cn.bK aR;have xe:=ef.bK aR;have eo:=bh.bK aR;have dL:=bf.bK aR;have gL:=cx.bK aR
 go_upto_region 14 with fail
 clear af bE
 refine kL 1 λoL fK=>?_
 replace U:=fK.aN U;replace J:=fK.dj J;replace aR:=fK.OB aR;replace ef:=ef.cS fK xe;replace cn:=cn.cS fK gE;replace bh:=bh.cS fK eo;replace bf:=bf.cS fK dL;replace cx:=cx.cS fK gL
 have af:=J.aH;have bE:=aR.aH;clear Gt;replace gE:=cn.bK J;replace xe:=ef.bK J;replace eo:=bh.bK J;replace dL:=bf.bK J;replace gL:=cx.bK J;have eg:=J.iX
 go_wp2
 clear af bE
 refine iO 0 λcP aE=>?_
 replace U:=aE.aN U;replace J:=aE.iV J;replace ef:=ef.cS aE xe;replace cn:=cn.cS aE gE;replace bh:=bh.cS aE eo;replace bf:=bf.cS aE dL;replace cx:=cx.cS aE gL;have af:=J.aH
 refine XY (v:= .tuple #[.agg #[ck rs e0,rR ps sh,tu,se,sp,ct ws e2,cu ae e3,cl os e4],true]) ZO rfl ?_
 exact akZ
theorem aAc (Z:KL) {no:Int} (az:ln rs qs mem= none) {w:World} (R:eF w aq au ak al aF rs qs ws ae os):
 Rd 154 #[.agg KL,.agg #[(2:Int),mem,val,yes,no,bR]] w (jr none w):=by
 replace R:=I R;replace Z:=I Z;replace az:=I az
 go_in
 go_upto_region 1 with fail
 refine gY λaO ar ag bl J=>?_
 have U:=ar;have aJ:=ag.aH;have a':=bl.cX
 go_upto_region 2 with fail
 refine dh λic aj ec=>?_
 replace U:=ai U aj;replace ag:=ag.to aj;replace aJ:=ag.aH;replace bl:=bl.to aj;replace a':=bl.cX;replace J:=J.to aj
 go_wp2_with fail
 refine (aAp aq c0 rs Z.o.h0 au aw qs Z.o.h1 Z.o.n1 mem az.o _ (R.o.fC.ad (ai U ao)) (R.o.dM.ad (ai U ao))).mono ?_
 exact aaj
theorem DE (h:(sp != 0)= false):(sp == 0)= true:=by rw [bne] at h;simpa using h
theorem Dn (h:(sp != 0)= true):(sp == 0)= false:=by rw [bne] at h;simpa using h
theorem Qx (h:ee rs qs= true):nP rs qs= some (AN rs qs):=by rw [nP,XX h]
theorem acS (h:mb rs qs= true):(AN rs qs).length < qs.length:=by
 obtain⟨j,q,cc,_⟩:=Oc h
 rw [AN,XX h,YA];omega
theorem acR (h:mb rs qs= false):¬(AN rs qs).length < qs.length:=by
 rw [AN,h];simp
theorem ajs (tu se sp:Int) (ws:List Int) (ae:List aW) (val:Int):∃eD cq cw,lp ⟨tu,se,sp,ws,ae⟩ val=⟨tu,se,eD,cq,cw⟩:=by
 unfold lp;split <;> exact⟨_,_,_,rfl⟩
theorem alD (h:u:=by
 unfold hY wJ;simp only [XU eU,XU cL,XU dS,XU hl,XU JM,XU EU,XU JN,XU JO,XU JP]):u:=h
theorem avg (aq au ak al aF:QR) (c0 aw c2 c3 c4:Nat) (rs:List aM) (qs:List aZ) (tu se sp:Int) (ws:List Int) (ae:List aW) (os:List Out) (Z:fa aq au ak al aF c0 aw c2 c3 c4 rs qs ws ae os) (kind mem val yes no bR:Int) (h:hL ⟨rs,qs,tu,se,sp,ws,ae,os⟩) (w:World) (R:eF w aq au ak al aF rs qs ws ae os):
 Rd 103 #[.agg #[aq rs c0,au qs aw,tu,se,sp,ak ws c2,al ae c3,aF os c4],.agg #[kind,mem,val,yes,no,bR]] w (jr (hY ⟨rs,qs,tu,se,sp,ws,ae,os⟩ ⟨kind,mem,val,yes,no,bR⟩) w):=by
 have aS:ee rs qs= true:=h.jn
 by_cases eU:kind= 1
 .subst eU
  refine avi aq au ak al aF c0 aw c2 c3 c4 rs qs tu se sp ws ae os Z mem val yes no bR _ w R λW aB=>?_
  have gG:=R.ad aB
  unfold hY;rw [XX rfl];dsimp only
  cases aP:(sp != 0)
  .rw [XX (DE aP)]
   cases az:kU rs qs val mem with
   | none=>exact auA Z az aP gG
   | some ps=>exact auB Z ps az aP gG
  .rw [XU ZW]
   exact RC Z aP gG
 by_cases cL:kind= 2
 .subst cL
  have gG:=R
  generalize cv:w= W at *
  unfold hY;rw [XU (by decide:¬(2:Int)= 1)];rw [XX rfl];dsimp only
  cases az:ln rs qs mem with
  | none=>exact avj Z az gG
  | some ps=>exact avk Z ps az gG
 by_cases JN:kind= 7
 .subst JN
  refine avp aq au ak al aF c0 aw c2 c3 c4 rs qs tu se sp ws ae os Z mem val yes no bR _ w R λW aB=>?_
  have gG:=R.ad aB
  unfold hY;rw [XU (by decide:¬(7:Int)= 1)];rw [XU (by decide:¬(7:Int)= 2)];rw [XX rfl];dsimp only
  cases aP:(sp != 0)
  .rw [XX (DE aP)]
   cases az:sk ⟨rs,qs,tu,se,sp,ws,ae,os⟩ ⟨7,mem,val,yes,no,bR⟩ with
   | none=>exact auC Z aP az gG
   | some n=>exact auD Z aP n az aS h.ol gG
  .rw [XU ZW]
   exact RC Z aP gG
 by_cases JO:kind= 8
 .subst JO
  refine avq aq au ak al aF c0 aw c2 c3 c4 rs qs tu se sp ws ae os Z mem val yes no bR _ w R λW aB=>?_
  have gG:=R.ad aB
  unfold hY;rw [XU (by decide:¬(8:Int)= 1)];rw [XU (by decide:¬(8:Int)= 2)];rw [XU (by decide:¬(8:Int)= 7)];rw [XX rfl];dsimp only
  cases aP:(sp != 0)
  .rw [XX (DE aP)]
   cases az:mG rs qs mem with
   | none=>exact auE Z az aP gG
   | some ps=>exact auF Z ps az aP gG
  .rw [XU ZW]
   exact RC Z aP gG
 by_cases JP:kind= 9
 .subst JP
  refine avr aq au ak al aF c0 aw c2 c3 c4 rs qs tu se sp ws ae os Z mem val yes no bR _ w R λW aB=>?_
  have gG:=R.ad aB
  unfold hY;rw [XU (by decide:¬(9:Int)= 1)];rw [XU (by decide:¬(9:Int)= 2)];rw [XU (by decide:¬(9:Int)= 7)];rw [XU (by decide:¬(9:Int)= 8)];rw [XX rfl];dsimp only
  cases aP:(sp != 0)
  .cases aT:mb rs qs
   .rw [XU Wn]
    exact auG Z _ (Qx aS) aP (acR aT) gG
   .rw [XX (by rw [DE aP,aS];rfl)]
    exact auH Z _ (Qx aS) aP (acS aT) gG
  .rw [XU (by rw [Dn aP];simp)]
   exact RC Z aP gG
 by_cases dS:kind= 3
 .subst dS
  refine avl aq au ak al aF c0 aw c2 c3 c4 rs qs tu se sp ws ae os Z mem val yes no bR _ w R λW aB=>?_
  have gG:=R.ad aB
  unfold hY;rw [XU (by decide:¬(3:Int)= 1)];rw [XU (by decide:¬(3:Int)= 2)];rw [XU (by decide:¬(3:Int)= 7)];rw [XU (by decide:¬(3:Int)= 8)];rw [XU (by decide:¬(3:Int)= 9)];unfold wJ;rw [XX rfl];dsimp only
  cases az:qf ⟨tu,se,sp,ws,ae⟩ mem
  .rw [XU ZD]
   exact auO Z az aS gG
  .cases cr:jk rs qs
   .rw [XU ZG]
    exact auN Z az cr aS gG
   .rw [XX ZF]
    exact auP aq au ak al aF c0 aw c2 c3 c4 rs qs tu se sp ws ae os Z mem val yes no bR _ _ _ az rfl aS cr W gG
 by_cases hl:kind= 4
 .subst hl
  refine avm aq au ak al aF c0 aw c2 c3 c4 rs qs tu se sp ws ae os Z mem val yes no bR _ w R λW aB=>?_
  have gG:=R.ad aB
  unfold hY;rw [XU (by decide:¬(4:Int)= 1)];rw [XU (by decide:¬(4:Int)= 2)];rw [XU (by decide:¬(4:Int)= 7)];rw [XU (by decide:¬(4:Int)= 8)];rw [XU (by decide:¬(4:Int)= 9)];unfold wJ;rw [XU (by decide:¬(4:Int)= 3)];rw [XX rfl];dsimp only
  cases az:oB ⟨tu,se,sp,ws,ae⟩
  .rw [XU ZD]
   exact auR Z az aS gG
  .cases cr:jk rs qs
   .rw [XU ZG]
    exact auQ Z az cr aS gG
   .rw [XX ZF]
    cases bt:xh ⟨tu,se,sp,ws,ae⟩ with
    | none=>exact absurd (Sk (f:=⟨tu,se,sp,ws,ae⟩) Zj) (by rw [bt];simp)
    | some q=>
     simp only [di.hF,bt,Zi]
     exact auS aq au ak al aF c0 aw c2 c3 c4 rs qs tu se sp ws ae os Z mem val yes no bR q bt _ _ _ az rfl aS cr W gG
 by_cases JM:kind= 5
 .subst JM
  refine avn aq au ak al aF c0 aw c2 c3 c4 rs qs tu se sp ws ae os Z mem val yes no bR _ w R λW aB=>?_
  have gG:=R.ad aB
  unfold hY;rw [XU (by decide:¬(5:Int)= 1)];rw [XU (by decide:¬(5:Int)= 2)];rw [XU (by decide:¬(5:Int)= 7)];rw [XU (by decide:¬(5:Int)= 8)];rw [XU (by decide:¬(5:Int)= 9)];unfold wJ;rw [XU (by decide:¬(5:Int)= 3)];rw [XU (by decide:¬(5:Int)= 4)];rw [XX rfl];dsimp only
  cases az:qq ⟨tu,se,sp,ws,ae⟩ val
  .rw [XU ZD]
   exact auU Z az aS gG
  .cases cr:jk rs qs
   .rw [XU ZG]
    exact auT Z az cr aS gG
   .rw [XX ZF]
    obtain⟨eD,cq,cw,he⟩:=ajs tu se sp ws ae val
    simp only [di.hF,he]
    exact auV aq au ak al aF c0 aw c2 c3 c4 rs qs tu se sp ws ae os Z mem val yes no bR eD cq cw az he aS cr W gG
 by_cases EU:kind= 6
 .subst EU
  refine avo aq au ak al aF c0 aw c2 c3 c4 rs qs tu se sp ws ae os Z mem val yes no bR _ w R λW aB=>?_
  have gG:=R.ad aB
  unfold hY;rw [XU (by decide:¬(6:Int)= 1)];rw [XU (by decide:¬(6:Int)= 2)];rw [XU (by decide:¬(6:Int)= 7)];rw [XU (by decide:¬(6:Int)= 8)];rw [XU (by decide:¬(6:Int)= 9)];unfold wJ;rw [XU (by decide:¬(6:Int)= 3)];rw [XU (by decide:¬(6:Int)= 4)];rw [XU (by decide:¬(6:Int)= 5)];rw [XX rfl];dsimp only
  cases az:oH ⟨tu,se,sp,ws,ae⟩
  .rw [XU ZD]
   exact auX Z az aS gG
  .cases cr:jk rs qs
   .rw [XU ZG]
    exact auW Z az cr aS gG
   .rw [XX ZF]
    exact auY aq au ak al aF c0 aw c2 c3 c4 rs qs tu se sp ws ae os Z mem val yes no bR _ _ _ az rfl aS cr W gG
 have e:hY ⟨rs,qs,tu,se,sp,ws,ae,os⟩ ⟨kind,mem,val,yes,no,bR⟩ =none:=by
  exact alD
 rw [e]
 exact avt aq au ak al aF c0 aw c2 c3 c4 rs qs tu se sp ws ae os Z kind mem val yes no bR (Xb.2 eU) (Xb.2 cL) (Xb.2 dS) (Xb.2 hl) (Xb.2 JM) (Xb.2 EU) (Xb.2 JN) (Xb.2 JO) (Xb.2 JP) w R
theorem alV (h:u:=by
 exact azI Z cr aS gG):u:=h
theorem aiG (aq au ak al aF:QR) (c0 aw c2 c3 c4:Nat) (rs:List aM) (qs:List aZ) (tu se sp:Int) (ws:List Int) (ae:List aW) (os:List Out) (Z:fa aq au ak al aF c0 aw c2 c3 c4 rs qs ws ae os) (kind mem val yes no bR:Int) (h:hL ⟨rs,qs,tu,se,sp,ws,ae,os⟩) (w:World) (R:eF w aq au ak al aF rs qs ws ae os):
 Rd 154 #[.agg #[aq rs c0,au qs aw,tu,se,sp,ak ws c2,al ae c3,aF os c4],.agg #[kind,mem,val,yes,no,bR]] w (jr (hY ⟨rs,qs,tu,se,sp,ws,ae,os⟩ ⟨kind,mem,val,yes,no,bR⟩) w):=by
 have aS:ee rs qs= true:=h.jn
 by_cases eU:kind= 1
 .subst eU
  have gG:=R
  generalize cv:w= W at *
  unfold hY;rw [XX rfl];dsimp only
  cases aP:(sp != 0)
  .rw [XX (DE aP)]
   cases az:kU rs qs val mem with
   | none=>exact aiI Z az gG
   | some ps=>exact aAb Z ps az (DE aP) gG
  .rw [XU ZW]
   cases az:kU rs qs val mem with
   | none=>exact aiI Z az gG
   | some ps=>exact aAa Z ps az (Dn aP) gG
 by_cases cL:kind= 2
 .subst cL
  have gG:=R
  generalize cv:w= W at *
  unfold hY;rw [XU (by decide:¬(2:Int)= 1)];rw [XX rfl];dsimp only
  cases az:ln rs qs mem with
  | none=>exact aAc Z az gG
  | some ps=>exact aAd Z ps az gG
 by_cases JN:kind= 7
 .subst JN
  have gG:=R
  generalize cv:w= W at *
  unfold hY;rw [XU (by decide:¬(7:Int)= 1)];rw [XU (by decide:¬(7:Int)= 2)];rw [XX rfl];dsimp only
  cases aP:(sp != 0)
  .rw [XX (DE aP)]
   cases az:sk ⟨rs,qs,tu,se,sp,ws,ae,os⟩ ⟨7,mem,val,yes,no,bR⟩ with
   | none=>exact aiJ Z (Or.inr az) gG
   | some n=>exact aAe Z aP n az aS h.ol gG
  .rw [XU ZW]
   exact aiJ Z (Or.inl (by simpa using aP)) gG
 by_cases JO:kind= 8
 .subst JO
  have gG:=R
  generalize cv:w= W at *
  unfold hY;rw [XU (by decide:¬(8:Int)= 1)];rw [XU (by decide:¬(8:Int)= 2)];rw [XU (by decide:¬(8:Int)= 7)];rw [XX rfl];dsimp only
  cases aP:(sp != 0)
  .rw [XX (DE aP)]
   cases az:mG rs qs mem with
   | none=>exact aiK Z az gG
   | some ps=>exact aAg Z ps az (DE aP) gG
  .rw [XU ZW]
   cases az:mG rs qs mem with
   | none=>exact aiK Z az gG
   | some ps=>exact aAf Z ps az (Dn aP) gG
 by_cases JP:kind= 9
 .subst JP
  have gG:=R
  generalize cv:w= W at *
  unfold hY;rw [XU (by decide:¬(9:Int)= 1)];rw [XU (by decide:¬(9:Int)= 2)];rw [XU (by decide:¬(9:Int)= 7)];rw [XU (by decide:¬(9:Int)= 8)];rw [XX rfl];dsimp only
  cases aT:mb rs qs
  .rw [XU Wn]
   exact aAh Z _ (Qx aS) (acR aT) gG
  .have h0:sp= 0:=aBg h aT
   rw [XX (by rw [h0,aS];rfl)]
   exact aAi Z _ (Qx aS) (acS aT) gG
 by_cases dS:kind= 3
 .subst dS
  refine OP tu se sp Z 3 mem val yes no bR WG WG WG WG WG _ R λW aB=>?_
  have gG:=R.ad aB
  unfold hY;rw [XU (by decide:¬(3:Int)= 1)];rw [XU (by decide:¬(3:Int)= 2)];rw [XU (by decide:¬(3:Int)= 7)];rw [XU (by decide:¬(3:Int)= 8)];rw [XU (by decide:¬(3:Int)= 9)];unfold wJ;rw [XX rfl];dsimp only
  cases az:qf ⟨tu,se,sp,ws,ae⟩ mem
  .rw [XU ZD]
   cases cr:jk rs qs
   .exact alV
   .exact azJ Z az cr aS gG
  .cases cr:jk rs qs
   .rw [XU ZG]
    exact alV
   .rw [XX ZF]
    exact azK aq au ak al aF c0 aw c2 c3 c4 rs qs tu se sp ws ae os Z mem val yes no bR _ _ _ az rfl aS cr W gG
 by_cases hl:kind= 4
 .subst hl
  refine OP tu se sp Z 4 mem val yes no bR WG WG WG WG WG _ R λW aB=>?_
  have gG:=R.ad aB
  unfold hY;rw [XU (by decide:¬(4:Int)= 1)];rw [XU (by decide:¬(4:Int)= 2)];rw [XU (by decide:¬(4:Int)= 7)];rw [XU (by decide:¬(4:Int)= 8)];rw [XU (by decide:¬(4:Int)= 9)];unfold wJ;rw [XU (by decide:¬(4:Int)= 3)];rw [XX rfl];dsimp only
  cases az:oB ⟨tu,se,sp,ws,ae⟩
  .rw [XU ZD]
   exact azL Z az aS gG
  .cases cr:jk rs qs
   .rw [XU ZG]
    exact absurd (aqj h Zj) aGM
   .rw [XX ZF]
    cases bt:xh ⟨tu,se,sp,ws,ae⟩ with
    | none=>exact absurd (Sk (f:=⟨tu,se,sp,ws,ae⟩) Zj) (by rw [bt];simp)
    | some q=>
     simp only [di.hF,bt,Zi]
     exact azM aq au ak al aF c0 aw c2 c3 c4 rs qs tu se sp ws ae os Z mem val yes no bR q bt _ _ _ az rfl aS cr W gG
 by_cases JM:kind= 5
 .subst JM
  refine OP tu se sp Z 5 mem val yes no bR WG WG WG WG WG _ R λW aB=>?_
  have gG:=R.ad aB
  unfold hY;rw [XU (by decide:¬(5:Int)= 1)];rw [XU (by decide:¬(5:Int)= 2)];rw [XU (by decide:¬(5:Int)= 7)];rw [XU (by decide:¬(5:Int)= 8)];rw [XU (by decide:¬(5:Int)= 9)];unfold wJ;rw [XU (by decide:¬(5:Int)= 3)];rw [XU (by decide:¬(5:Int)= 4)];rw [XX rfl];dsimp only
  cases az:qq ⟨tu,se,sp,ws,ae⟩ val
  .rw [XU ZD]
   exact azN Z az aS gG
  .cases cr:jk rs qs
   .rw [XU ZG]
    exact absurd (acP h (OS az).2.1) aGM
   .rw [XX ZF]
    obtain⟨eD,cq,cw,he⟩:=ajs tu se sp ws ae val
    simp only [di.hF,he]
    exact azO aq au ak al aF c0 aw c2 c3 c4 rs qs tu se sp ws ae os Z mem val yes no bR eD cq cw az he aS cr W gG
 by_cases EU:kind= 6
 .subst EU
  refine OP tu se sp Z 6 mem val yes no bR WG WG WG WG WG _ R λW aB=>?_
  have gG:=R.ad aB
  unfold hY;rw [XU (by decide:¬(6:Int)= 1)];rw [XU (by decide:¬(6:Int)= 2)];rw [XU (by decide:¬(6:Int)= 7)];rw [XU (by decide:¬(6:Int)= 8)];rw [XU (by decide:¬(6:Int)= 9)];unfold wJ;rw [XU (by decide:¬(6:Int)= 3)];rw [XU (by decide:¬(6:Int)= 4)];rw [XU (by decide:¬(6:Int)= 5)];rw [XX rfl];dsimp only
  cases az:oH ⟨tu,se,sp,ws,ae⟩
  .rw [XU ZD]
   exact azP Z az aS gG
  .cases cr:jk rs qs
   .rw [XU ZG]
    exact absurd (acP h (by simp only [oH,Xa,YJ,Xb] at az;exact az.2)) aGM
   .rw [XX ZF]
    exact azQ aq au ak al aF c0 aw c2 c3 c4 rs qs tu se sp ws ae os Z mem val yes no bR _ _ _ az rfl aS cr W gG
 have e:hY ⟨rs,qs,tu,se,sp,ws,ae,os⟩ ⟨kind,mem,val,yes,no,bR⟩ =none:=by
  exact alD
 rw [e]
 refine OP tu se sp Z kind mem val yes no bR (Xb.2 eU) (Xb.2 cL) (Xb.2 JN) (Xb.2 JO) (Xb.2 JP) none R λW aB=>?_
 exact azR Z (Xb.2 dS) (Xb.2 hl) (Xb.2 JM) (Xb.2 EU) aS (R.ad aB)
structure dE where
 bT:List aM
 ch:List aZ
 dw:Int
 dp:Int
 dF:Int
 cz:List Int
 cC:List aW
 bQ:List Out
 bY:ByteArray
 bW:ByteArray
 bM:Int
def dE.nA (c:dE):di:=⟨c.bT,c.ch,c.dw,c.dp,c.dF,c.cz,c.cC,c.bQ⟩
def di.Qq (m:di) (d p:ByteArray) (n:Int):dE:=⟨m.bT,m.ch,m.dw,m.dp,m.dF,m.cz,m.cC,m.bQ,d,p,n⟩
section
variable {H:Type} {enc:TypeId×Value->H} {P:Program}
theorem ajL (aT:laidOutB P= true) {W fz:World} (aB:Below W W fz):∀{hT:List TypeId} {vs:List Value} {pg:List (DataW H)} {ps:List MemPlace},
  (∀t ∈ hT,P.readableRec t= true/\t < P.types.size)->(∀x ∈ ps,x.block < W.heap.size)->DataW.TrodAll enc P W 0 (λ_=>true) true hT vs pg ps->
  DataW.TrodAll enc P fz 0 (λb=>decide (b < W.heap.size)) true hT vs pg ps
 | [],[],[],_,_,_,h=>h
 | t ::hT,v ::vs,d ::pg,ps,cJ,bC,h=>by
  obtain⟨p,q,h1,h2,e⟩:=h
  have afs:=cJ t (Xl.2 (Or.inl rfl))
  exact⟨p,q,Below.trod aT afs.1 afs.2 h1 aB (λx av=>bC x (by rw [e];exact Yj _ av)),
   ajL aT aB (λgr ez=>cJ gr (Xl.2 (Or.inr ez))) (λx av=>bC x (by rw [e];exact ZI _ av)) h2,e⟩
 | [],[],_ ::_,_,_,_,h=>h.elim
 | [],_ ::_,_,_,_,_,h=>h.elim
 | _ ::_,[],_,_,_,_,h=>h.elim
 | _ ::_,_ ::_,[],_,_,_,h=>h.elim
theorem ajM {w:World} {base:Nat} {sp:Nat->Bool} {cr:Bool}:∀{hT:List TypeId} {vs:List Value} {pg:List (DataW H)} {ps:List MemPlace},DataW.TrodAll enc P w base sp cr hT vs pg ps->pg.length= hT.length
 | [],[],[],_,_=>rfl
 | _ ::_,_ ::_,_ ::_,_,h=>by obtain⟨_,_,_,h2,_⟩:=h;simp [ajM h2]
 | [],[],_ ::_,_,h=>h.elim
 | [],_ ::_,_,_,h=>h.elim
 | _ ::_,[],_,_,h=>h.elim
 | _ ::_,_ ::_,[],_,h=>h.elim
variable {w:World} {base:Nat} {sp:Nat->Bool} {cr:Bool}
theorem aBl {w:World} {a:Addr} {v:Value} (h:w.cell? a= some v):a.spot= none:=by
 unfold World.cell? at h
 split at h
 .split at h
  .cases h
  .rename_i aP;simpa using aP
 .cases h
theorem ayz {T:Type} (f:T->List Value) (sz:Nat) (gd:0 < sz) (cJ:P.underlying t= some (.slice e)) (aA:P.cellsOf e= sz)
 (WD:∀fuel cs x,DataW.trod enc P w base sp cr fuel e cs= some x->∃y:T,cs= f y) {x:DataW H×List MemPlace} (h:DataW.trod enc P w base sp cr fuel t cs= some x):
  ∃(A:QR) (c:Nat) (xs:List T),cs= [A xs c]/\xs.length<=maxLen/\aX sz f w A xs/\(A= none->xs= []/\c= 0):=by
 rcases open_slice cJ h with ⟨rfl,_⟩ | ⟨a,len,cap,m,n,D,aCz,rfl,_,Nx,pV,hm,_,bo⟩
 .exact⟨none,0,[],rfl,by simp,aX.nil,λ_=>⟨rfl,rfl⟩⟩
 .have hle:len<=m:=by rw [hm];split <;> omega
  have hex:∀i,i < len->∃y:T,w.cells? base (a.add (i * sz)) sz= some (f y):=λi aDY=>by
   obtain⟨yP,cK,aue⟩:=bo i KK
   obtain⟨y,rfl⟩:=WD _ _ _ aue
   exact⟨y,by rw [aA] at cK;exact cK⟩
  have my:∀k,k<=len->∃l:List T,l.length= k/\∀i y,l[i]? =some y->w.cells? base (a.add (i * sz)) sz= some (f y):=by
   intro k
   induction k with
   | zero=>intro _;exact⟨[],rfl,by simp⟩
   | succ k eR=>
    intro ax
    obtain⟨l,CM,Nx⟩:=eR KK
    obtain⟨y,hy⟩:=hex k KK
    refine⟨l ++ [y],by simp [CM],λi z cF=>?_⟩
    rw [List.getElem?_append] at cF
    split at cF
    .exact Nx i z cF
    .have h0:i= k:=by have:=(Xg.1 cF).1;simp at this;omega
     subst h0
     rw [CM] at cF;simp at cF;subst cF;exact hy
  obtain⟨l,CM,hcell⟩:=my len (XZ _)
  refine⟨some a,cap,l,by rw [CM],by omega,λbq=>?_,λh=>by cases h⟩
  have ack:∀i y,l[i]? =some y->∀j u,(f y)[j]? =some u->w.cell? ((a.add (i * sz)).add j)= some u:=λi y hy j u hu=>by
   obtain⟨_,lf,hat⟩:=World.cells?_some (hcell i y hy)
   have cc:j < sz:=by rw [<- lf];exact (Xg.1 hu).1
   rw [hat j cc];exact hu
  obtain⟨kz,JI⟩ :∃y,l[0]? =some y:=⟨_,Xj bq⟩
  obtain⟨_,aDP,_⟩:=World.cells?_some (hcell 0 kz JI)
  have auf:(f kz)[0]? =some ((f kz)[0]' KK):=Xj _;have c0:=ack 0 kz JI 0 _ auf
  rw [Xy,show (a.add 0).add 0= a from by simp [Addr.add]] at c0
  have aP:=aBl c0
  obtain⟨b,off,spot⟩:=a
  simp only at aP;subst aP
  refine⟨b,off,rfl,World.block_lt_of_cell? w _ c0,λi x av j u hu=>?_⟩
  have:=ack i x av j u hu
  rw [add_add] at this
  rw [<- this]
  congr 1
  unfold Addr.add
  split <;> simp_all [Nat.add_assoc]
theorem aGb {T:Type} (f:T->List Value) (sz:Nat) (gd:0 < sz) (cJ:P.underlying t= some (.slice e)) (aA:P.cellsOf e= sz)
 (WD:∀fuel cs x,DataW.trod enc P w base sp cr fuel e cs= some x->∃y:T,cs= f y) {x:DataW H×List MemPlace} (h:DataW.trod enc P w base sp cr fuel t cs= some x):
  ∃(A:QR) (c:Nat) (xs:List T),cs= [A xs c]/\xs.length<=maxLen/\aX sz f w A xs:=by
 obtain⟨A,c,xs,h1,h2,h3,_⟩:=ayz f sz gd cJ aA WD h
 exact⟨A,c,xs,h1,h2,h3⟩
end
def Fl (s:ByteArray) (c:UInt8):Bool:=s.data.toList.any (· == c)
theorem indexByte_ge (c:UInt8):∀l:List UInt8,-1<=Lib.indexByte l c/\(decide (0<=Lib.indexByte l c))= l.any (· == c)
 | []=>by simp [Lib.indexByte]
 | b ::l=>by
  have eR:=indexByte_ge c l
  unfold Lib.indexByte
  by_cases h:b == c
  .simp [h]
  .by_cases h2:Lib.indexByte l c= -1
   .have:=eR.2;rw [h2] at this;simp [h,h2] at this ⊢;exact this
   .have h3:0<=Lib.indexByte l c:=KK
    have:=eR.2
    simp [h,h2,h3] at this ⊢
    refine⟨by omega,?_⟩
    simp [show (0:Int)<=Lib.indexByte l c + 1 from by omega]
    exact this
def qY (c:UInt8):Bool:=decide (32<=c.toNat) && (decide (c.toNat<=126) && !(c == 35))
def lk (s:ByteArray):Bool:=s.data.toList.all qY
theorem ahH (s:VU) (k:Nat) (h:k < s.size):(s.data.toList.take (k+1)).all qY= ((s.data.toList.take k).all qY && qY s[k]):=by
 rw [Yu ZQ,List.all_append];simp;rfl
theorem Sq (s:VU) (k:Nat) (h:k < s.size) (h1:qY s[k]= false):lk s= false:=by
 have:lk s= ((s.data.toList.take (k+1)).all qY && (s.data.toList.drop (k+1)).all qY):=by
  unfold lk;rw [<- List.all_append,List.take_append_drop]
 rw [this,ahH s k h,h1];simp
def mF (c r:ByteArray):Bool:=fB c.size 1 160 && (decide (r.size<=200) && (lk c && (lk r && !Fl c 64)))
theorem aiD (s:VU) (c:UInt8) (w:World):Rd 246 #[s,.string ⟨#[c]⟩] w λe ah=>e= .returned (.int .i64 (Lib.indexByte s.data.toList c))/\ah= w:=by
 have aDX:∀W,(callFunc 317 #[s,.int .u8 (((⟨#[c]⟩ :VU)[0]'(Nat.zero_lt_one)).toNat:Int)]).run Tryz.prog W= .ok (.value (.int .i64 (Lib.indexByte s.data.toList c))) W:=λW=>by
  rw [run_callFunc_indexByte Tryz.func317 PV PV PV PV,Lib.run_indexByteString]
  simp [Result.andThen];rfl
 by_cases h:([c] == s.toList)= true
 .have fl:=I (Xx.1 h)
  go_in
  go_wp2
  go_ret
  have e:s.data.toList= [c]:=(ByteArray.toList_eq s).symm.trans fl.o.symm
  exact⟨by rw [e];simp [Lib.indexByte],rfl⟩
 .have ez:([c] == s.toList)= false:=by simpa using h
  clear h
  go_in
  go_wp2
  go_ret
  exact⟨rfl,rfl⟩
theorem acG (s:VU) (c:UInt8) (v:Bool) (az:Fl s c= v) (w:World):Rd 98 #[s,.string ⟨#[c]⟩] w λe ah=>e= .returned v/\ah= w:=by
 subst az
 have cy:=(indexByte_ge c s.data.toList).2;replace cy:=I cy
 go_in
 go_wp2_with (first | (go_at_call 246;refine (aiD s c _).mono ?_;rintro e ah ⟨rfl,rfl⟩) | go_in)
 go_ret
 exact⟨fe cy.o,rfl⟩
theorem amj (h:u:=by
 go_wp2
 go_ret
 exact⟨fe (Sq s k bC (by simp [qY];omega)).symm,rfl⟩):u:=h
theorem akS (h:u:=by
 go_round
 case rel=>exact⟨k + 1,by omega,by go_num,by rw [ahH s k bC,aT.o];simp [qY,<- UInt8.toNat_inj];omega⟩
 case measure=>simp [intOf];omega):u:=h
theorem alm (h:u:=by
 obtain rfl:k= s.size:=KK
 go_wp2
 go_ret
 have:=aT.o
 rw [YO Wn] at this
 exact⟨fe this.symm,rfl⟩):u:=h
theorem NT (s:VU) (aP:s.size<=maxLen) (v:Bool) (az:lk s= v) (w:World):Rd 97 #[s] w λe ah=>e= .returned v/\ah= w:=by
 subst az
 unfold maxLen at aP
 go_in
 go_wp2
 go_loop [3] (λi=>∃k:Nat,k<=s.size/\i= .int .i64 k/\(s.data.toList.take k).all qY= true) (λi=>s.size - (intOf i).toNat)
 case atStart=>exact⟨0,Xd _,rfl,rfl⟩
 case round=>
  obtain⟨k,ax,rfl,aT⟩:=hrel
  replace aT:=I aT
  by_cases bC:k < s.size
  .by_cases h1:s[k].toNat < 32
   .exact amj
   .by_cases h2:126 < s[k].toNat
    .exact amj
    .by_cases h3:s[k].toNat= 35
     .have wN:(((s[k].toNat:Nat):Int) == 35)= true:=by rw [h3];rfl
      replace h3:=I h3
      go_wp2
      go_ret
      exact⟨fe (Sq s k bC (by have:=h3.o;simp [qY,<- UInt8.toNat_inj,this])).symm,rfl⟩
     .have wN:(((s[k].toNat:Nat):Int) == 35)= false:=Xb.2 KK
      go_wp2
      exact akS
  .exact alm
theorem RI (s:VU) (m:Int) (aP:s.size<=maxLen) (v:Bool) (az:(lk s && decide (s.size<=m))= v) (w:World):Rd 108 #[s,m] w λe ah=>e= .returned v/\ah= w:=by
 subst az
 unfold maxLen at aP
 go_in
 go_wp2
 go_loop [5] (λi=>∃k:Nat,k<=s.size/\i= .int .i64 k/\(s.data.toList.take k).all qY= true) (λi=>s.size - (intOf i).toNat)
 case atStart=>exact⟨0,Xd _,rfl,rfl⟩
 case round=>
  obtain⟨k,ax,rfl,aT⟩:=hrel
  replace aT:=I aT
  by_cases bC:k < s.size
  .have h256:s[k].toNat < 256:=UInt8.toNat_lt _
   cases h1:fB (s[k].toNat:Int) 32 126
   .go_wp2_with (go_at_call 186;refine (lO _ h1 _).mono ?_;rintro e ah ⟨rfl,rfl⟩)
    go_ret
    exact⟨fe (by rw [Sq s k bC (by simp [qY,fB] at h1 ⊢;omega)];rfl),rfl⟩
   .have sD:=qT.1 h1
    by_cases h3:s[k].toNat= 35
    .have wN:(((s[k].toNat:Nat):Int) == 35)= true:=by rw [h3];rfl
     replace h3:=I h3
     go_wp2_with (go_at_call 186;refine (lO _ h1 _).mono ?_;rintro e ah ⟨rfl,rfl⟩)
     go_ret
     exact⟨fe (by rw [Sq s k bC (by have:=h3.o;simp [qY,<- UInt8.toNat_inj,this])];rfl),rfl⟩
    .have wN:(((s[k].toNat:Nat):Int) == 35)= false:=Xb.2 KK
     go_wp2_with (go_at_call 186;refine (lO _ h1 _).mono ?_;rintro e ah ⟨rfl,rfl⟩)
     exact akS
  .obtain rfl:k= s.size:=KK
   go_wp2
   go_ret
   have:=aT.o
   rw [YO Wn] at this
   exact⟨fe (by rw [show lk s= true from this];simp),rfl⟩
theorem agn (s:VU) (c:UInt8) (aP:s.size<=maxLen) (v:Bool) (az:Fl s c= v) (w:World):Rd 109 #[s,.int .u8 (c.toNat:Int)] w λe ah=>e= .returned v/\ah= w:=by
 subst az
 unfold maxLen at aP
 go_in
 go_wp2
 go_loop [5] (λi=>∃k:Nat,k<=s.size/\i= .int .i64 k/\(s.data.toList.take k).any (· == c)= false) (λi=>s.size - (intOf i).toNat)
 case atStart=>exact⟨0,Xd _,rfl,rfl⟩
 case round=>
  obtain⟨k,ax,rfl,aT⟩:=hrel
  replace aT:=I aT
  by_cases bC:k < s.size
  .by_cases h3:s[k]= c
   .have wN:((s[k].toNat:Int) == (c.toNat:Int))= true:=by rw [h3];simp
    have lB:=I h3;clear h3
    go_wp2
    go_ret
    exact⟨fe (Eq.symm (List.any_eq_true.2 ⟨s[k],by exact ZK (l:=s.data.toList) (by simpa using bC),by simp [lB.o]⟩)),rfl⟩
   .have wN:((s[k].toNat:Int) == (c.toNat:Int))= false:=Xb.2 (λh=>h3 (UInt8.toNat_inj.1 KK))
    go_wp2
    go_round
    case rel=>exact⟨k + 1,by omega,by go_num,by rw [Yu (by simpa using bC),List.any_append,aT.o];simp;exact h3⟩
    case measure=>simp [intOf];omega
  .exact alm
theorem amg (h:u:=by
 rintro e ah ⟨rfl,rfl⟩
 go_wp2
 go_ret
 exact⟨fe (by simp [mF,h4]),bP _ _⟩):u:=h
theorem Db {c r:VU} (aN:c.size<=1048576) (bu:r.size<=1048576) (v:Bool) (az:mF c r= v) (w:World):Rd 55 #[.agg #[c,r]] w λe ah=>e= .returned v/\Below w w ah:=by
 subst az
 have vx:c.size<=maxLen:=by unfold maxLen;omega
 have sQ:r.size<=maxLen:=by unfold maxLen;omega
 cases h1:fB (c.size:Int) 1 160
 .go_in
  go_wp2_with (go_at_call 79;refine (ku _ h1 _).mono ?_;rintro e ah ⟨rfl,rfl⟩)
  go_ret
  exact⟨fe (by simp [mF,h1]),bP _ _⟩
 by_cases h2:r.size<=200
 .cases h3:lk c
  .go_in
   go_wp2_with (first | (go_at_call 79;refine (ku _ h1 _).mono ?_;rintro e ah ⟨rfl,rfl⟩) | (go_at_call 97;refine (NT c vx _ h3 _).mono ?_;rintro e ah ⟨rfl,rfl⟩))
   go_ret
   exact⟨fe (by simp [mF,h3]),bP _ _⟩
  cases h4:lk r
  .go_in
   go_wp2_with fail
   refine (ku _ h1 _).mono ?_
   rintro e ah ⟨rfl,rfl⟩
   go_wp2_with fail
   refine (NT c vx _ h3 _).mono ?_
   rintro e ah ⟨rfl,rfl⟩
   go_wp2_with fail
   refine (NT r sQ _ h4 _).mono ?_
   exact amg
  .go_in
   go_wp2_with fail
   refine (ku _ h1 _).mono ?_
   rintro e ah ⟨rfl,rfl⟩
   go_wp2_with fail
   refine (NT c vx _ h3 _).mono ?_
   rintro e ah ⟨rfl,rfl⟩
   go_wp2_with fail
   refine (NT r sQ _ h4 _).mono ?_
   rintro e ah ⟨rfl,rfl⟩
   go_wp2_with fail
   refine (acG c 64 _ rfl _).mono ?_
   rintro e ah ⟨rfl,rfl⟩
   go_wp2
   go_ret
   exact⟨fe (by simp [mF,h1,h2,h3,h4]),bP _ _⟩
 .go_in
  go_wp2_with (go_at_call 79;refine (ku _ h1 _).mono ?_;rintro e ah ⟨rfl,rfl⟩)
  go_ret
  exact⟨fe (by simp [mF,h2]),bP _ _⟩
theorem Hr (c r:VU) (aN:c.size<=1048576) (bu:r.size<=1048576) (v:Bool) (az:mF c r= v) (w:World):Rd 60 #[.agg #[c,r]] w λe ah=>e= .returned v/\Below w w ah:=by
 subst az
 have vx:c.size<=maxLen:=by unfold maxLen;omega
 have sQ:r.size<=maxLen:=by unfold maxLen;omega
 by_cases h0:c.size= 0
 .have VC:c.toList.isEmpty= true:=by rw [ByteArray.toList_eq];exact List.isEmpty_iff.2 (YD.1 (by rw [YV];exact h0))
  have aDv:c.toList= []:=by simpa using VC
  have anX:=I h0;clear h0
  go_in
  go_wp2
  go_ret
  exact⟨fe (by simp [mF,fB,anX.o]),bP _ _⟩
 .have VC:c.toList.isEmpty= false:=by rw [ByteArray.toList_eq];cases h:c.data.toList with
   | nil=>exfalso;apply h0;have:=Xc List.length h;rw [YV] at this;exact this
   | cons _ _=>rfl
  cases h3:lk c && decide ((c.size:Int)<=160)
  .go_in
   go_wp2_with (go_at_call 108;refine (RI c 160 vx _ h3 _).mono ?_;rintro e ah ⟨rfl,rfl⟩)
   go_ret
   exact⟨fe (by simp only [Bool.and_eq_false_iff,decide_eq_false_iff_not] at h3;rcases h3 with h3 | h3 <;> simp [mF,fB,h3] <;> omega),bP _ _⟩
  cases h4:Fl c 64
  .go_in
   go_wp2_with fail
   refine (RI c 160 vx _ h3 _).mono ?_
   rintro e ah ⟨rfl,rfl⟩
   go_wp2_with fail
   refine (agn c 64 vx _ h4 _).mono ?_
   rintro e ah ⟨rfl,rfl⟩
   go_wp2_with fail
   refine (RI r 200 sQ _ rfl _).mono ?_
   rintro e ah ⟨rfl,rfl⟩
   go_wp2
   go_ret
   simp only [Xa,Xf] at h3
   have e1:fB (c.size:Int) 1 160= true:=qT.2 KK
   exact⟨fe (by cases aS:lk r <;> simp [mF,e1,h3.1,h4,aS] <;> omega),bP _ _⟩
  .go_in
   go_wp2_with fail
   refine (RI c 160 vx _ h3 _).mono ?_
   rintro e ah ⟨rfl,rfl⟩
   go_wp2_with fail
   refine (agn c 64 vx _ h4 _).mono ?_
   exact amg
abbrev cN:=List UInt8
def bs (l:cN):ByteArray:=⟨l.toArray⟩
theorem wB (l:cN):(bs l).data.toList= l:=by simp [bs]
theorem IW (s:VU):bs s.data.toList= s:=Ee (wB _)
theorem fY (l:cN):(bs l).size= l.length:=by show l.toArray.size= _;simp
theorem qi (a b:cN):bs a ++ bs b= bs (a ++ b):=Ee (by simp [bs])
theorem acs {a b:cN} (h:bs a= bs b):a= b:=by have:=Xc (λs:ByteArray=>s.data.toList) h;simpa [wB] using this
def ep (c:UInt8) (l:cN):cN:=l.takeWhile (λx=>!(x == c))
def iG (c:UInt8) (l:cN):cN:=(l.dropWhile (λx=>!(x == c))).drop 1
theorem Mj {c:UInt8} {a b:cN} (h:c ∉ a):ep c (a ++ c ::b)= a:=by
 unfold ep
 rw [List.takeWhile_append_of_pos (λx av=>by simp;rintro rfl;exact h av)]
 simp
theorem aca {c:UInt8} {a b:cN} (h:c ∉ a):iG c (a ++ c ::b)= b:=by
 unfold iG
 rw [List.dropWhile_append_of_pos (λx av=>by simp;rintro rfl;exact h av)]
 simp
theorem Qj {c:UInt8}:∀{a:cN},c ∉ a->ep c a= a
 | [],_=>rfl
 | x ::a,h=>by
  simp only [Xl,not_or] at h
  have eR:=Qj h.2
  unfold ep at eR ⊢
  have av:(!(x == c))= true:=by simp;exact λe=>h.1 e.symm
  simp [av,eR]
theorem acd {c:UInt8}:∀{a:cN},c ∉ a->iG c a= []
 | [],_=>rfl
 | x ::a,h=>by
  simp only [Xl,not_or] at h
  have eR:=acd h.2
  unfold iG at eR ⊢
  have av:(!(x == c))= true:=by simp;exact λe=>h.1 e.symm
  simp [av]
  simpa using eR
theorem acn {c:UInt8}:∀(a:cN),c ∉ ep c a
 | []=>by simp [ep]
 | x ::a=>by
  have eR:=acn (c:=c) a
  unfold ep at eR ⊢
  by_cases av:x= c
  .simp [av]
  .simp [av,eR,Ne.symm av]
theorem aIL {c:UInt8}:∀{l:cN},c ∈ l->l= ep c l ++ c ::iG c l
 | [],h=>by simp at h
 | x ::l,h=>by
  by_cases av:x= c
  .subst av;simp [ep,iG]
  .have aT:c ∈ l:=by simpa [Ne.symm av] using h
   have eR:=aIL aT
   have e1:ep c (x ::l)= x ::ep c l:=by simp [ep,av]
   have e2:iG c (x ::l)= iG c l:=by simp [iG,av]
   rw [e1,e2,YL,<- eR]
theorem IQ (c:UInt8) (l:cN):(ep c l).length<=l.length:=by
 unfold ep;exact (List.takeWhile_sublist _).length_le
theorem acb (c:UInt8) (l:cN):(iG c l).length<=l.length:=by
 unfold iG;exact (List.Sublist.trans (List.drop_sublist _ _) (List.dropWhile_sublist _)).length_le
def kT (c:UInt8) (l:cN):Bool:=l.contains c
theorem Jr {c:UInt8} {l:cN}:kT c l= true↔c ∈ l:=List.contains_iff_mem
theorem Nf {c:UInt8} {l:cN}:kT c l= false↔c ∉ l:=by rw [<- Bool.not_eq_true,Jr]
def rH (l:cN):Nat:=l.foldl (λh c=>(41 * h + c.toNat + 1) % 999979) 7
def uQ (n:Int):cN:=Lib.itoa n
def Bv (l:cN):cN:=l ++ 35 ::uQ (rH l)
def pR (k:Int) (c r:cN):cN:=uQ k ++ 32 ::(c ++ 64 ::r)
def gq (k:Int) (c r:cN):cN:=Bv (pR k c r)
theorem SZ (l:cN):rH l < 999979:=by
 unfold rH
 have:∀(l:cN) (h:Nat),h < 999979->l.foldl (λh c=>(41 * h + c.toNat + 1) % 999979) h < 999979:=by
  intro l
  induction l with
  | nil=>intro h gl;exact gl
  | cons c l eR=>intro h _;exact eR _ (Nat.mod_lt _ KK)
 exact this l 7 KK
theorem acQ (u:Nat):∀x ∈ Lib.decDigits u,48<=x.toNat/\x.toNat<=57:=by
 induction u using Nat.strongRecOn with
 | _ u eR=>
  intro x av
  rw [Lib.decDigits] at av
  split at av
  .simp at av;subst av
   rename_i h
   simp;omega
  .rw [YC] at av
   rcases av with av | av
   .exact eR (u / 10) KK x av
   .simp at av;subst av
    simp;omega
theorem Si (h:0<=n):uQ n= Lib.decDigits n.toNat:=by unfold uQ Lib.itoa;rw [XU KK]
theorem Sj (h:0<=n) {c:UInt8} (aN:c.toNat < 48):c ∉ uQ n:=by
 rw [Si h]
 intro hm
 have:=acQ _ _ hm
 omega
theorem axD (h:0<=n) (h2:n < 1000000):(uQ n).length<=6:=by
 rw [Si h];exact Dj 5 _ KK
theorem aht (h:0<=n) (h2:n < 100):(uQ n).length<=2:=by
 rw [Si h];exact Dj 1 _ KK
def mc (c r:cN):Bool:=mF (bs c) (bs r)
theorem HD {c r:cN} (h:mc c r= true):1<=c.length/\c.length<=160/\r.length<=200/\(35:UInt8) ∉ c/\(35:UInt8) ∉ r/\(64:UInt8) ∉ c/\(10:UInt8) ∉ c/\(10:UInt8) ∉ r:=by
 simp only [mc,mF,fB,lk,Fl,wB,fY,Xa,Xf,YJ,YN,List.any_eq_false] at h
 obtain⟨⟨h1,h2⟩,h3,h4,h5,h6⟩:=h
 have aS:∀x,qY x= true->x≠35/\x≠10:=by
  intro x av
  constructor
  .rintro rfl;simp [qY] at av
  .rintro rfl;revert av;decide
 refine⟨by omega,by omega,by omega,λhm=>(aS _ (h4 _ hm)).1 rfl,λhm=>(aS _ (h5 _ hm)).1 rfl,λhm=>by have:=h6 _ hm;simp at this,λhm=>(aS _ (h4 _ hm)).2 rfl,λhm=>(aS _ (h5 _ hm)).2 rfl⟩
theorem Qk {k:Int} (ax:0<=k) {c r:cN} (h:mc c r= true):(35:UInt8) ∉ pR k c r/\(10:UInt8) ∉ gq k c r/\ep 35 (gq k c r)= pR k c r/\iG 32 (pR k c r)= c ++ 64 ::r/\ep 64 (c ++ 64 ::r)= c/\iG 64 (c ++ 64 ::r)= r:=by
 obtain⟨_,_,_,h1,h2,h3,h4,h5⟩:=HD h
 have n35:=Sj ax (c:=35) WG;have n32:=Sj ax (c:=32) WG;have n10:=Sj ax (c:=10) WG
 have aB:(35:UInt8) ∉ pR k c r:=by
  unfold pR;simp [n35,h1,h2]
 have azu:=Sj (n:=(rH (pR k c r):Nat)) KK (c:=10) WG
 refine⟨aB,?_,?_,?_,Mj h3,aca h3⟩
 .unfold gq Bv
  simp only [YC,Xl,not_or]
  refine⟨?_,by decide,azu⟩
  unfold pR;simp [n10,h4,h5]
 .unfold gq Bv;exact Mj aB
 .unfold pR;exact aca n32
theorem Hw {k:Int} (ax:0<=k) (nw:k < 100) {c r:cN} (h:mc c r= true):(gq k c r).length<=371:=by
 obtain⟨h1,h2,h3,_⟩:=HD h
 have a:=aht ax nw;have b:=axD (n:=(rH (pR k c r):Nat)) KK (by have:=SZ (pR k c r);omega)
 unfold gq Bv
 simp only [Xu,YK]
 unfold pR
 simp only [Xu,YK]
 unfold pR at b
 omega
def xk (line:cN) (k:Nat):Option (cN×cN):=
 let rest:=iG 32 (ep 35 line)
 if mc (ep 64 rest) (iG 64 rest) && decide (gq k (ep 64 rest) (iG 64 rest)= line) then some (ep 64 rest,iG 64 rest) else none
def zU (line:cN) (k:Nat):Option (cN×cN):=
 let text:=ep 35 line;let ahead:=uQ k ++ [32]
 if text.take ahead.length= ahead then
  let rest:=text.drop ahead.length;let ask:=ep 64 rest
  if ask.length= rest.length then none
  else if mc ask (rest.drop (ask.length + 1)) && decide (gq k ask (rest.drop (ask.length + 1))= line) then some (ask,rest.drop (ask.length + 1)) else none
 else none
theorem akG (h:u:=by
 split at h
 .rename_i aN
  simp only [Xa,Xf] at aN
  simp only [Yg,Prod.mk.injEq] at h
  obtain⟨rfl,rfl⟩:=h
  exact⟨aN.1,aN.2.symm⟩
 .cases h):u:=h
theorem ahY {line:cN} {c r:cN} (h:xk line k= some (c,r)):mc c r= true/\line= gq k c r:=by
 unfold xk at h
 simp only at h
 exact akG
theorem ayu {line:cN} {c r:cN} (h:zU line k= some (c,r)):mc c r= true/\line= gq k c r:=by
 unfold zU at h
 simp only at h
 split at h
 .split at h
  .cases h
  .exact akG
 .cases h
theorem ahX {c r:cN} (h:mc c r= true):xk (gq k c r) k= some (c,r):=by
 obtain⟨_,_,h1,h2,h3,h4⟩:=Qk (k:=(k:Int)) KK h
 unfold xk
 simp only [h1,h2,h3,h4,h,decide_true,Bool.and_self,if_true]
theorem ayt {c r:cN} (h:mc c r= true):zU (gq k c r) k= some (c,r):=by
 obtain⟨_,_,h1,_,h3,_⟩:=Qk (k:=(k:Int)) KK h
 have e1:pR k c r= (uQ k ++ [32]) ++ (c ++ 64 ::r):=by simp [pR]
 unfold zU
 simp only [h1]
 rw [e1,List.take_left' rfl,XX rfl,List.drop_left' rfl,h3,XU Wn]
 have e2:(c ++ 64 ::r).drop (c.length + 1)= r:=by rw [List.drop_append];simp
 rw [e2,h]
 simp
theorem aib (line:cN) (k:Nat):zU line k= xk line k:=by
 cases h:xk line k with
 | some x=>
  obtain⟨c,r⟩:=x
  obtain⟨h1,rfl⟩:=ahY h
  exact ayt h1
 | none=>
  cases h2:zU line k with
  | none=>rfl
  | some x=>
   obtain⟨c,r⟩:=x
   obtain⟨h3,rfl⟩:=ayu h2
   rw [ahX h3] at h;cases h
def jZ (l:cN) (k:Nat):Option (cN×cN×Nat):=
 if kT 10 l && decide (k < 60) then (xk (ep 10 l) k).map λx=>(x.1,x.2,(ep 10 l).length + 1) else none
theorem Fc {l:cN} {c r:cN} {n:Nat} (h:jZ l k= some (c,r,n)):k < 60/\mc c r= true/\n= (gq k c r).length + 1/\l= gq k c r ++ 10 ::iG 10 l:=by
 unfold jZ at h
 split at h
 .rename_i aN
  simp only [Xa,Xf,Jr] at aN
  cases av:xk (ep 10 l) k with
  | none=>rw [av] at h;cases h
  | some x=>
   obtain⟨dq,hr⟩:=x
   rw [av] at h
   simp only [Zi,Yg,Prod.mk.injEq] at h
   obtain⟨rfl,rfl,rfl⟩:=h
   obtain⟨h1,h2⟩:=ahY av
   refine⟨aN.2,h1,by rw [h2],?_⟩
   have:=aIL aN.1
   rw [h2] at this
   exact this
 .cases h
theorem ahQ (ax:k < 60) {c r t:cN} (h:mc c r= true):jZ (gq k c r ++ 10 ::t) k= some (c,r,(gq k c r).length + 1):=by
 have bq:=(Qk (k:=(k:Int)) KK h).2.1
 unfold jZ
 rw [Mj bq,ahX h,XX (by simp [ax,Jr])]
 rfl
theorem Fb {l:cN} {c r:cN} {n:Nat} (h:jZ l k= some (c,r,n)):n<=l.length/\1<=n/\n<=372:=by
 obtain⟨h0,h1,rfl,h2⟩:=Fc h
 have:=Hw (k:=(k:Int)) KK KK h1
 refine⟨?_,by omega,by omega⟩
 have e:=Xc List.length h2
 simp at e;omega
def iU:Nat->Nat->cN->Nat->List (cN×cN×Nat)
 | 0,_,_,_=>[]
 | f + 1,k,l,a=>match jZ l k with
  | none=>[]
  | some (c,r,n)=>(c,r,a + n) ::iU f (k + 1) (l.drop n) (a + n)
def ir (l:cN):List (cN×cN×Nat):=iU 61 0 l 0
theorem afU (c:UInt8) (l:cN):-1<=Lib.indexByte l c:=(Go.Proofs.YtlaaemmmbodaaaaGreatDoor.indexByte_ge c l).1
theorem afW {c:UInt8}:∀(l:cN),0<=Lib.indexByte l c->∃i:Nat,Lib.indexByte l c= i/\i < l.length/\ep c l= l.take i/\iG c l= l.drop (i + 1)
 | [],h=>by simp [Lib.indexByte] at h
 | b ::l,h=>by
  unfold Lib.indexByte at h ⊢
  by_cases aB:b == c
  .refine⟨0,by simp [aB],by simp,?_,?_⟩
   .simp [ep,aB]
   .simp [iG,aB]
  .by_cases h2:Lib.indexByte l c= -1
   .simp [aB,h2] at h
   .have h3:-1<=Lib.indexByte l c:=afU c l
    obtain⟨i,e,bo,e1,e2⟩:=afW (c:=c) l KK
    refine⟨i + 1,by simp [aB,h2];omega,by simp;omega,?_,?_⟩
    .have:ep c (b ::l)= b ::ep c l:=by simp [ep,aB]
     rw [this,e1];simp
    .have:iG c (b ::l)= iG c l:=by simp [iG,aB]
     rw [this,e2];simp
theorem afV {c:UInt8}:∀(l:cN),Lib.indexByte l c < 0->c ∉ l
 | [],_=>by simp
 | b ::l,h=>by
  unfold Lib.indexByte at h
  by_cases aB:b == c
  .simp [aB] at h
  .have h3:=afU c l
   by_cases h2:Lib.indexByte l c= -1
   .have:=afV (c:=c) l KK
    simp at aB
    simp [this,Ne.symm aB]
   .simp [aB,h2] at h;omega
theorem wA (l:cN) (a b:Nat):(bs l).extract a b= bs ((l.drop a).take (b - a)):=Ee (by
 rw [wB]
 show ((⟨l.toArray⟩ :VU).extract a b).data.toList= _
 simp [ByteArray.extract,ByteArray.copySlice,List.take_drop])
theorem aiE (l:cN) (c:UInt8) (w:World):Rd 246 #[.string (bs l),.string ⟨#[c]⟩] w λe ah=>e= .returned (.int .i64 (Lib.indexByte l c))/\ah= w:=by
 have:=aiD (bs l) c w
 rwa [wB] at this
theorem azE (l:cN) (c:UInt8) (aT:l.length<=1073741824) (w:World):Rd 273 #[.string (bs l),.string ⟨#[c]⟩] w λe ah=>e= .returned (.tuple #[.string (bs (ep c l)),.string (bs (iG c l)),.bool (kT c l)])/\Below w w ah:=by
 by_cases aN:0<=Lib.indexByte l c
 .obtain⟨i,e,bC,e1,e2⟩:=afW (c:=c) l aN
  have hm:kT c l= true:=by
   rw [Jr]
   refine Classical.byContradiction λbq=>?_
   have:=Qj bq
   rw [e1] at this
   have:=Xc List.length this
   simp at this;omega
  have x1:(bs l).extract 0 i= bs (ep c l):=by rw [wA,e1];simp
  have cB:(bs l).extract (i + 1) (bs l).size= bs (iG c l):=by rw [wA,e2,fY,YO Wn]
  have gi:=I hm;have X1:=I x1;have UM:=I cB;clear hm e1 e2 x1 cB
  have bo:∀W,Rd 246 #[.string (bs l),.string ⟨#[c]⟩] W λe ah=>e= .returned i/\ah= W:=λW=>by
   have:=aiE l c W
   rwa [e] at this
  replace bo:=I bo;clear e aN;have aP:=fY l
  have qQ:i<=(bs l).size:=KK
  have pY:i + 1<=(bs l).size:=KK
  clear aP;have hw:IntKind.i64.wrap ((i:Int) + 1)= (i:Int) + 1:=IntWalk.i64_in _ KK
  go_in
  go_wp2_with fail
  refine (bo.o _).mono ?_
  rintro e _ ⟨rfl,rfl⟩
  go_wp2
  refine eQ PV PV ?_
  repeat (go_big_quiet_step ((fail)))
  refine VF ?_
  intro K
  go_wp2
  go_ret3
  exact⟨by rw [gi.o,<- X1.o,<- UM.o];rfl,K.ad⟩
 .have bq:=afV (c:=c) l KK
  have hm:kT c l= false:=Nf.2 bq;have x1:=Qj bq;have cB:=acd bq;have gi:=I hm;have X1:=I x1;have UM:=I cB;clear hm x1 cB bq
  have aFI:Lib.indexByte l c < 0:=KK
  clear aN
  go_in
  go_wp2_with fail
  refine (aiE l c _).mono ?_
  rintro e _ ⟨rfl,rfl⟩
  go_wp2
  go_ret3
  exact⟨by rw [gi.o,X1.o,UM.o];rfl,Wt _ _⟩
theorem xI (l:cN) (c:UInt8) (aT:l.length<=1073741824) (w:World):Rd 205 #[.string (bs l),.string ⟨#[c]⟩] w λe ah=>e= .returned (.tuple #[.string (bs (ep c l)),.string (bs (iG c l)),.bool (kT c l)])/\Below w w ah:=by
 go_in
 go_wp2_with fail
 refine (azE l c aT _).mono ?_
 rintro e bm ⟨rfl,bD⟩
 have ar:=be w bD;have U:Below w w bm:=ar
 go_wp2
 go_ret3
 exact⟨rfl,(ai U ao)⟩
theorem aBq (l:cN) (k:Nat) (h:k < l.length):rH (l.take (k + 1))= (41 * rH (l.take k) + (l[k]).toNat + 1) % 999979:=by
 unfold rH
 rw [Yu h,List.foldl_append]
 rfl
theorem Ml (l:cN) (k:Nat) (h:k < (bs l).size):(bs l)[k]= l[k]'(by rw [fY] at h;exact h):=by
 show (bs l).data[k]'(h)= _
 simp [bs]
theorem alT (h:u:=by
 have aP:=fY l
 have qQ:(bs l).size<=1073741824:=KK
 replace aP:=I aP
 go_in
 go_wp2
 go_loop [3,4] (λh i=>∃(k:Nat) (q:Int),k<=(bs l).size/\i= .int .i64 k/\h= .int .i64 q/\q= (rH (l.take k):Nat)) (λ_ i=>(bs l).size - (intOf i).toNat)
 case atStart=>exact⟨0,7,Xd _,rfl,rfl,rfl⟩
 case round=>
  obtain⟨k,q,ax,rfl,rfl,bt⟩:=hrel
  have aj:=SZ (l.take k)
  have aY:0<=q:=KK
  have cj:q < 999979:=KK
  replace bt:=I bt;clear aj
  by_cases bC:k < (bs l).size
  .have aB:(bs l)[k].toNat < 256:=(bs l)[k].toNat_lt
   have aN:((bs l)[k].toNat:Int) < 256:=KK
   have jI:((41 * q + ((bs l)[k].toNat:Int) + 1) % 999979:Int)= (rH (l.take (k + 1)):Nat):=by
    rw [aBq l k (by rw [<- aP.o];exact bC),bt.o,Ml]
    omega
   replace jI:=I jI
   go_wp2
   go_round
   case rel=>exact⟨k + 1,_,by omega,by go_num,rfl,jI.o⟩
   case measure=>simp [intOf];omega
  .obtain rfl:k= (bs l).size:=KK
   go_wp2
   go_ret
   have:=bt.o
   rw [aP.o,Yh] at this
   exact⟨Km this,rfl⟩):u:=h
theorem apJ (l:cN) (aT:l.length<=1073741824) (w:World):Rd 263 #[.string (bs l)] w λe ah=>e= .returned (.int .i64 (rH l:Nat))/\ah= w:=by
 exact alT
theorem ahv (n:Int):eW n= bs (uQ n):=rfl
theorem acr {k:Int} (ax:0<=k) (nw:k < 100) {c r:cN} (h:mc c r= true):(pR k c r).length<=364:=by
 obtain⟨h1,h2,h3,_⟩:=HD h
 have a:=aht ax nw
 unfold pR
 simp only [Xu,YK]
 omega
theorem amf (h:u:=by
 rw [ahv,show (⟨#[35]⟩ :VU)= bs [35] from rfl,qi,qi];simp [Bv]):u:=h
theorem apq (l:cN) (aT:l.length<=3000) (bq:(35:UInt8) ∉ l) (w:World) (dN:jV w):Rd 182 #[.string (bs l)] w λe ah=>e= .returned (.tuple #[.string (bs (Bv l)),true])/\Below w w ah:=by
 have jI:Fl (bs l) 35= false:=by
  unfold Fl;rw [wB,List.any_eq_false];intro x av;simp;rintro rfl;exact bq av
 have qQ:(bs l).size<=3000:=by rw [fY];exact aT
 have bt:=SZ l;have hm:=mQ (rH l:Nat) KK
 have vy:(bs l ++⟨#[35]⟩) ++ eW (rH l:Nat)= bs (Bv l):=by
  exact amf
 replace vy:=I vy;clear bq
 go_in
 go_wp2_with fail
 refine (acG (bs l) 35 _ jI _).mono ?_
 rintro e _ ⟨rfl,rfl⟩
 go_wp2_with fail
 refine (apJ l KK _).mono ?_
 rintro e _ ⟨rfl,rfl⟩
 go_wp2_with fail
 refine (Bl (rH l:Nat) KK KK _ dN).mono ?_
 rintro e bm ⟨rfl,bD⟩
 go_wp2
 go_ret2
 exact⟨by rw [<- vy.o];rfl,bD⟩
theorem alc (h:u:=by
 rw [ahv,show (⟨#[32]⟩ :VU)= bs [32] from rfl,show (⟨#[64]⟩ :VU)= bs [64] from rfl,qi,qi,qi,qi];simp [pR]):u:=h
theorem alU (h:u:=by
 refine VF ?_
 intro K
 go_wp2
 go_ret
 exact⟨by rw [<- vy.o];rfl,ai (bP _ _) K.ad⟩):u:=h
theorem adg (k:Int) (ax:0<=k) (nw:k < 100) (c r:cN) (h:mc c r= true) (w:World) (dN:jV w):Rd 105 #[k,.agg #[.string (bs c),.string (bs r)]] w λe ah=>e= .returned (.string (bs (gq k c r ++ [10])))/\Below w w ah:=by
 obtain⟨aw,c2,c3,_⟩:=HD h
 have eN:=acr ax nw h;have bq:=(Qk ax h).1
 have e1:eW k ++⟨#[32]⟩ ++ bs c ++⟨#[64]⟩ ++ bs r= bs (pR k c r):=by
  exact alc
 have bl:∀W,jV W->Rd 182 #[.string (eW k ++⟨#[32]⟩ ++ bs c ++⟨#[64]⟩ ++ bs r)] W λe ah=>e= .returned (.tuple #[.string (bs (gq k c r)),true])/\Below W W ah:=λW cv=>by
  rw [e1];exact apq _ KK bq W cv
 have aT:=Hw ax nw h
 have s1:(bs c).size<=160:=by rw [fY];exact c2
 have s2:(bs r).size<=200:=by rw [fY];exact c3
 have gT:(bs (gq k c r)).size<=371:=by rw [fY];exact aT
 have Kr:=mQ k KK;have vy:bs (gq k c r) ++⟨#[10]⟩ =bs (gq k c r ++ [10]):=qi _ _;replace bl:=I bl;replace vy:=I vy;clear e1 bq eN h;have bX:=I (dN.ad (bP w (.cells #[.string (bs c),.string (bs r)] 56)));have dD:=boxed w #[.string (bs c),.string (bs r)] 56 0 (.string (bs c)) rfl;have dc:=boxed w #[.string (bs c),.string (bs r)] 56 1 (.string (bs r)) rfl
 go_in
 go_wp2
 refine eQ PV PV ?_
 repeat (go_big_quiet_step ((first
  | (go_at_call 70;exact aD.call _ Xm (Bl _ KK KK _ (bX.o.ad (aD.ad _))))
  | (go_at_call 182;exact aD.call _ Xm (bl.o _ (bX.o.ad (aD.ad _)))))))
 exact alU
def zT (l:cN) (k:Nat):Value:=match jZ l k with
 | some (c,r,n)=> .tuple #[.agg #[.string (bs c),.string (bs r)],.int .i64 n,.bool true]
 | none=> .tuple #[.agg #[.string (bs []),.string (bs [])],.int .i64 0,.bool false]
theorem ays (l:cN) (k:Nat) (gl:kT 10 l= true) (ax:k < 60) (line cmd rep:cN) (h1:ep 10 l= line) (h2:ep 64 (iG 32 (ep 35 line))= cmd) (h3:iG 64 (iG 32 (ep 35 line))= rep):
  zT l k= if mc cmd rep && decide (gq k cmd rep= line) then .tuple #[.agg #[.string (bs cmd),.string (bs rep)],.int .i64 (line.length + 1:Nat),true] else .tuple #[.agg #[.string (bs []),.string (bs [])],(0:Int),false]:=by
 subst h1 h2 h3
 unfold zT jZ
 rw [gl,XX (by simp [ax])]
 unfold xk
 simp only
 generalize (mc (ep 64 (iG 32 (ep 35 (ep 10 l)))) (iG 64 (iG 32 (ep 35 (ep 10 l)))) && decide (gq k (ep 64 (iG 32 (ep 35 (ep 10 l)))) (iG 64 (iG 32 (ep 35 (ep 10 l))))= ep 10 l))= b
 cases b <;> rfl
theorem ang (h:u:=by
 go_in
 go_wp2_with fail
 refine (xI l 10 KK _).mono ?_
 rintro e bm ⟨rfl,bD⟩
 have ar:=be w bD;have U:Below w w bm:=ar;have J:ay bm w 56 #[.string ⟨#[]⟩,.string ⟨#[]⟩]:=ay.eV bD;have z0:=J.fD
 go_wp2_with fail
 refine (xI (ep 10 l) 35 KK _).mono ?_
 rintro e aI ⟨rfl,aQ⟩
 have aj:=be bm aQ;replace U:=ai U aj;replace J:=J.to aj;replace z0:=J.fD
 go_wp2_with fail
 refine (xI (ep 35 (ep 10 l)) 32 KK _).mono ?_
 rintro e bw ⟨rfl,bG⟩
 have aY:=be aI bG;replace U:=ai U aY;replace J:=J.to aY;replace z0:=J.fD
 go_wp2_with fail
 refine (xI (iG 32 (ep 35 (ep 10 l))) 64 KK _).mono ?_
 rintro e bH ⟨rfl,db⟩
 have cj:=be bw db;replace U:=ai U cj;replace J:=J.to cj;replace z0:=J.fD;have kO:=J.yU;have eE:=J.lt;have ag:=((J.ey 0 (.string ⟨#[]⟩)).ey 1 (.string ⟨#[]⟩)).alloc (.cells #[.string (bs (ep 64 (iG 32 (ep 35 (ep 10 l))))),.string (bs (iG 64 (iG 32 (ep 35 (ep 10 l)))))] 56)
 have hr:=ag.fD
 go_wp2
 refine XY (v:= .tuple #[.agg #[.string ⟨#[]⟩,.string ⟨#[]⟩],(0:Int),false]) aGE rfl ?_
 exact⟨by rw [iJ.o];rfl,Ys⟩):u:=h
theorem amL (h:u:=by
 have ag:=((J.ey 0 (.string ⟨#[]⟩)).ey 1 (.string ⟨#[]⟩));have hr:=ag.fD
 go_wp2
 refine XY (v:= .tuple #[.agg #[.string ⟨#[]⟩,.string ⟨#[]⟩],(0:Int),false]) aGE rfl ?_
 exact⟨by rw [iJ.o];rfl,Ys⟩):u:=h
theorem ayF (l:cN) (aT:l) (k:Nat) (ax:k<=60) (v:Value) (az:zT l k= v) (w:World) (dN:jV w):Rd 125 #[.string (bs l),k] w λe ah=>e= .returned v/\Below w w ah:=by
 subst az
 have g1:=IQ 10 l;have g2:=IQ 35 (ep 10 l);have g3:=acb 32 (ep 35 (ep 10 l))
 cases gl:kT 10 l
 .have dn:zT l k= .tuple #[.agg #[.string (bs []),.string (bs [])],(0:Int),false]:=by simp [zT,jZ,gl]
  have iJ:=I dn;clear dn
  exact ang
 by_cases nw:k < 60
 case neg=>
  have dn:zT l k= .tuple #[.agg #[.string (bs []),.string (bs [])],(0:Int),false]:=by simp [zT,jZ,nw]
  have iJ:=I dn;clear dn
  have atr:60<=k:=KK
  clear nw
  exact ang
 have g4:=IQ 64 (iG 32 (ep 35 (ep 10 l)));have g5:=acb 64 (iG 32 (ep 35 (ep 10 l)));have zq:=ays l k gl nw _ _ _ rfl rfl rfl
 generalize Ra:ep 64 (iG 32 (ep 35 (ep 10 l)))= cmd at *
 generalize EM:iG 64 (iG 32 (ep 35 (ep 10 l)))= rep at *
 generalize Ro:ep 10 l= line at *
 have hcut:∀W,Rd 205 #[.string (bs (iG 32 (ep 35 line))),.string ⟨#[64]⟩] W λe ah=>e= .returned (.tuple #[.string (bs cmd),.string (bs rep),.bool (kT 64 (iG 32 (ep 35 line)))])/\Below W W ah:=λW=>by
  have:=xI (iG 32 (ep 35 line)) 64 KK W
  rwa [Ra,EM] at this
 have Ju:∀W,Rd 205 #[.string (bs l),.string ⟨#[10]⟩] W λe ah=>e= .returned (.tuple #[.string (bs line),.string (bs (iG 10 l)),true])/\Below W W ah:=λW=>by
  have:=xI l 10 KK W
  rwa [Ro,gl] at this
 refine Ho ?_ hcut Ju Ro Ra EM gl;clear hcut Ju Ro Ra EM gl;intro hcut Ju Ro Ra EM gl
 have s1:(bs cmd).size<=1048576:=by rw [fY];omega
 have s2:(bs rep).size<=1048576:=by rw [fY];omega
 cases fo:mc cmd rep
 .rw [fo] at zq
  have dn:zT l k= .tuple #[.agg #[.string (bs []),.string (bs [])],(0:Int),false]:=by rw [zq];rfl
  have iJ:=I dn;have lE:=I fo;clear dn zq fo
  go_in
  go_wp2_with fail
  refine (Ju.o _).mono ?_
  rintro e bm ⟨rfl,bD⟩
  have ar:=be w bD;have U:Below w w bm:=ar;have J:ay bm w 56 #[.string ⟨#[]⟩,.string ⟨#[]⟩]:=ay.eV bD;obtain⟨z0,bF⟩:=J.fD
  go_wp2_with fail
  refine (xI line 35 KK _).mono ?_
  rintro e aI ⟨rfl,aQ⟩
  have aj:=be bm aQ;replace U:=ai U aj;replace J:=J.to aj;clear z0 bF;obtain⟨z0,bF⟩:=J.fD
  go_wp2_with fail
  refine (xI (ep 35 line) 32 KK _).mono ?_
  rintro e bw ⟨rfl,bG⟩
  have aY:=be aI bG;replace U:=ai U aY;replace J:=J.to aY;clear z0 bF;obtain⟨z0,bF⟩:=J.fD
  go_wp2_with fail
  refine (hcut.o _).mono ?_
  rintro e bH ⟨rfl,db⟩
  have cj:=be bw db;replace U:=ai U cj;replace J:=J.to cj;clear z0 bF;obtain⟨z0,bF⟩:=J.fD
  go_wp2_with fail
  refine (Db s1 s2 _ lE.o _).mono ?_
  rintro e cO ⟨rfl,eM⟩
  have dK:=be bH eM;replace U:=ai U dK;replace J:=J.to dK;clear z0 bF;obtain⟨z0,bF⟩:=J.fD;have kO:=J.yU
  exact amL
 .rw [fo] at zq
  have gT:(bs line).size<=1048576:=by rw [fY];omega
  have DK:=I (fY line)
  have Rh:∀W,jV W->Rd 105 #[k,.agg #[.string (bs cmd),.string (bs rep)]] W λe ah=>e= .returned (.string (bs (gq k cmd rep ++ [10])))/\Below W W ah:=λW cv=>adg k KK KK cmd rep fo W cv
  replace Rh:=I Rh
  by_cases heq:gq k cmd rep= line
  .have dn:zT l k= .tuple #[.agg #[.string (bs cmd),.string (bs rep)],.int .i64 (line.length + 1:Nat),true]:=by rw [zq,heq];simp
   have zo:∀W,jV W->Rd 105 #[k,.agg #[.string (bs cmd),.string (bs rep)]] W λe ah=>e= .returned (.string (bs line ++⟨#[10]⟩))/\Below W W ah:=λW cv=>by
    have:=Rh.o W cv
    rwa [heq,<- qi] at this
   replace zo:=I zo;have iJ:=I dn;have lE:=I fo;clear dn zq fo heq
   go_in
   go_wp2_with fail
   refine (Ju.o _).mono ?_
   rintro e bm ⟨rfl,bD⟩
   have ar:=be w bD;have U:Below w w bm:=ar;have J:ay bm w 56 #[.string ⟨#[]⟩,.string ⟨#[]⟩]:=ay.eV bD;obtain⟨z0,bF⟩:=J.fD
   go_wp2_with fail
   refine (xI line 35 KK _).mono ?_
   rintro e aI ⟨rfl,aQ⟩
   have aj:=be bm aQ;replace U:=ai U aj;replace J:=J.to aj;clear z0 bF;obtain⟨z0,bF⟩:=J.fD
   go_wp2_with fail
   refine (xI (ep 35 line) 32 KK _).mono ?_
   rintro e bw ⟨rfl,bG⟩
   have aY:=be aI bG;replace U:=ai U aY;replace J:=J.to aY;clear z0 bF;obtain⟨z0,bF⟩:=J.fD
   go_wp2_with fail
   refine (hcut.o _).mono ?_
   rintro e bH ⟨rfl,db⟩
   have cj:=be bw db;replace U:=ai U cj;replace J:=J.to cj;clear z0 bF;obtain⟨z0,bF⟩:=J.fD
   go_wp2_with fail
   refine (Db s1 s2 _ lE.o _).mono ?_
   rintro e cO ⟨rfl,eM⟩
   have dK:=be bH eM;replace U:=ai U dK;replace J:=J.to dK;clear z0 bF;obtain⟨z0,bF⟩:=J.fD;have ec:ay cO bH 56 #[.string (bs cmd),.string (bs rep)]:=ay.eV eM
   have gx:=ec.fD
   go_wp2_with fail
   refine (zo.o _ (dN.ad U)).mono ?_
   rintro e dk ⟨rfl,iH⟩
   have gm:=be cO iH;replace U:=ai U gm;replace J:=J.to gm;clear z0 bF;obtain⟨z0,bF⟩:=J.fD;replace ec:=ec.to gm;replace gx:=ec.fD;have kO:=J.yU;have ag:=((J.ey 0 (.string (bs cmd))).ey 1 (.string (bs rep)))
   have hr:=ag.fD
   go_wp2
   refine XY (v:= .tuple #[.agg #[.string (bs cmd),.string (bs rep)],.int .i64 ((bs line).size + 1),true]) aGE rfl ?_
   exact⟨by rw [iJ.o,DK.o];rfl,Ys⟩
  .have dn:zT l k= .tuple #[.agg #[.string (bs []),.string (bs [])],(0:Int),false]:=by rw [zq];simp [heq]
   have ew:¬(bs (gq k cmd rep ++ [10])).toList= (bs line ++⟨#[10]⟩).toList:=by
    intro h
    rw [ByteArray.toList_eq,ByteArray.toList_eq,show (⟨#[10]⟩ :VU)= bs [10] from rfl,qi,wB,wB] at h
    exact heq (List.append_cancel_right h)
   have aEk:((bs (gq k cmd rep ++ [10])).toList == (bs line ++⟨#[10]⟩).toList)= false:=Xb.2 ew;clear ew
   have iJ:=I dn;have lE:=I fo;clear dn zq fo heq
   go_in
   go_wp2_with fail
   refine (Ju.o _).mono ?_
   rintro e bm ⟨rfl,bD⟩
   have ar:=be w bD;have U:Below w w bm:=ar;have J:ay bm w 56 #[.string ⟨#[]⟩,.string ⟨#[]⟩]:=ay.eV bD;obtain⟨z0,bF⟩:=J.fD
   go_wp2_with fail
   refine (xI line 35 KK _).mono ?_
   rintro e aI ⟨rfl,aQ⟩
   have aj:=be bm aQ;replace U:=ai U aj;replace J:=J.to aj;clear z0 bF;obtain⟨z0,bF⟩:=J.fD
   go_wp2_with fail
   refine (xI (ep 35 line) 32 KK _).mono ?_
   rintro e bw ⟨rfl,bG⟩
   have aY:=be aI bG;replace U:=ai U aY;replace J:=J.to aY;clear z0 bF;obtain⟨z0,bF⟩:=J.fD
   go_wp2_with fail
   refine (hcut.o _).mono ?_
   rintro e bH ⟨rfl,db⟩
   have cj:=be bw db;replace U:=ai U cj;replace J:=J.to cj;clear z0 bF;obtain⟨z0,bF⟩:=J.fD
   go_wp2_with fail
   refine (Db s1 s2 _ lE.o _).mono ?_
   rintro e cO ⟨rfl,eM⟩
   have dK:=be bH eM;replace U:=ai U dK;replace J:=J.to dK;clear z0 bF;obtain⟨z0,bF⟩:=J.fD;have ec:ay cO bH 56 #[.string (bs cmd),.string (bs rep)]:=ay.eV eM
   have gx:=ec.fD
   go_wp2_with fail
   refine (Rh.o _ (dN.ad U)).mono ?_
   rintro e dk ⟨rfl,iH⟩
   have gm:=be cO iH;replace U:=ai U gm;replace J:=J.to gm;clear z0 bF;obtain⟨z0,bF⟩:=J.fD;clear gx;have kO:=J.yU
   exact amL
structure fi where
 cmd:ByteArray
 rep:ByteArray
def fi.cells (x:fi):List Value:=[.string x.cmd,.string x.rep]
theorem fi.wD (y:fi):y.cells.length= 2:=rfl
theorem fi.cells_one (y:fi) (u:Value) (h:u ∈ y.cells):u.oneCell'= true:=by simp [fi.cells] at h;rcases h with rfl | rfl <;> rfl
def uh (x:cN×cN×Nat):fi:=⟨bs x.1,bs x.2.1⟩
def Cm (x:cN×cN×Nat):Int:=(x.2.2:Nat)
def hc (l:cN):List fi:=(ir l).map uh
def nd (l:cN):List Int:=0 ::(ir l).map Cm
theorem aeJ (w:World) (a b:Obj):((w.alloc a).alloc b).heap.size= w.heap.size + 2:=Wn
theorem ahU:∀(f k:Nat) (l:cN) (a:Nat),k<=60->(iU f k l a).length + k<=60
 | 0,k,_,_,h=>by simpa [iU] using h
 | f + 1,k,l,a,h=>by
  unfold iU
  cases av:jZ l k with
  | none=>simpa using h
  | some x=>
   obtain⟨c,r,n⟩:=x
   have ax:=(Fc av).1;have:=ahU f (k + 1) (l.drop n) (a + n) KK
   simp;omega
theorem OD (l:cN):(ir l).length<=60:=ahU 61 0 l 0 KK
theorem afY:(Tryz.prog.info? 56).map (λi=>(i.zero,i.size,i.bytes))= some (some (.agg #[.string ⟨#[]⟩,.string ⟨#[]⟩]),2,32):=PV
theorem alW (h:u:=by
 rw [av];exact ayF (l.drop a) Xq xs.length Bi _ (by rw [zT,bu]) wr asp):u:=h
theorem aGf (l:cN) (aT:l) (w:World) (dN:jV w):Rd 65 #[.string (bs l)] w λe ah=>∃A c mg dq,e= .returned (.tuple #[.slice A (hc l).length c,.slice mg (nd l).length dq])/\
  bn w 56 2 fi.cells ah (.slice A (hc l).length c) (hc l)/\bn w 3 1 cE ah (.slice mg (nd l).length dq) (nd l)/\Below w w ah:=by
 obtain⟨i0,bo,dP,dZ,dV⟩:=Xo afY
 obtain⟨i1,Ns,JI,NN,rD⟩:=Xo vK
 have gd:=fY l
 replace gd:=I gd;have pj:=bn.built (B:=w) (f:=fi.cells) w ([]:List fi) 56 (XZ _) Wn fi.wD;have QJ:=bn.built (B:=w) (f:=cE) (w.alloc (.cells #[] 56)) ([0]:List Int) 3 Wn Yk fR
 simp only [Yd,ZL,cE,Yq] at QJ
 have gu:=I (pj.alloc (.cells #[(0:Int)] 3));replace QJ:=I QJ;clear pj
 go_in
 go_wp2
 go_loopw [4,5,6] (λv4 v5 v6 wr=>∃(xs:List (cN×cN×Nat)) (a:Nat),ir l= xs ++ iU (61 - xs.length) xs.length (l.drop a) a/\xs.length<=60/\a<=(bs l).size/\v6= .int .i64 a/\
   bn w 56 2 fi.cells wr v4 (xs.map uh)/\bn w 3 1 cE wr v5 (0 ::xs.map Cm)/\qA v4 v5/\Below w w wr) (λ_ _ v6 _=>1048577 - (intOf v6).toNat)
 case atStart=>
  refine⟨[],0,?_,by simp,Xd _,rfl,by simpa using gu.o,by simpa using QJ.o,?_,IU _ _ _⟩
  .rfl
  .intro k h1 h2
   simp [Value.ownBlock] at h1 h2
   omega
 case round=>
  obtain⟨xs,a,my,Bi,de,rfl,aV,ec,ew,aB⟩:=hrel
  obtain⟨aF,c4,rfl,nU,_,_⟩:=aV.form fi.wD
  obtain⟨sq,c5,rfl,wQ,_,_⟩:=ec.form fR
  simp only [YZ,YK] at aV ec ew nU wQ ⊢
  have Rm:a<=l.length:=by rw [<- gd.o];exact de
  have av:(bs l).extract a (bs l).size= bs (l.drop a):=by rw [wA,fY,YO Wn]
  have hf:∃f,61 - xs.length= f + 1/\f= 61 - (xs.length + 1):=⟨60 - xs.length,by omega,by omega⟩
  obtain⟨f,CI,ED⟩:=hf
  have asp:=dN.ad aB;have z0:=aB.size;have Bn:=I aV.lt;have agw:=I ec.lt
  cases bu:jZ (l.drop a) xs.length with
  | none=>
   have bt:Rd 125 #[.string ((bs l).extract a (bs l).size),xs.length] wr λe ah=>e= .returned (.tuple #[.agg #[.string (bs []),.string (bs [])],(0:Int),false])/\Below wr wr ah:=by
    exact alW
   have uF:ir l= xs:=by rw [my,CI,iU,bu];simp
   replace uF:=I uF;replace aV:=I aV;replace ec:=I ec;have eS:=I bt;clear bt my av bu CI ED
   go_wp2_with fail
   refine eS.o.mono ?_
   rintro e bm ⟨rfl,bD⟩
   go_wp2
   go_ret2
   have e1:hc l= xs.map uh:=by rw [hc,uF.o]
   have e2:nd l= 0 ::xs.map Cm:=by rw [nd,uF.o]
   rw [e1,e2]
   simp only [YZ,YK]
   exact⟨aF,c4,sq,c5,rfl,(aV.o.aK bD).alloc _,(ec.o.aK bD).alloc _,(ai aB bD).alloc (by have:=bD.size;omega) _⟩
  | some x=>
   obtain⟨c,r,n⟩:=x
   have bq:=Fb bu
   simp only [YQ] at bq
   have bt:Rd 125 #[.string ((bs l).extract a (bs l).size),xs.length] wr λe ah=>e= .returned (.tuple #[.agg #[.string (bs c),.string (bs r)],n,true])/\Below wr wr ah:=by
    exact alW
   have ax:=(Fc bu).1
   have GV:ir l= (xs ++ [(c,r,a + n)]) ++ iU (61 - (xs ++ [(c,r,a + n)]).length) (xs ++ [(c,r,a + n)]).length (l.drop (a + n)) (a + n):=by
    rw [my,CI,iU,bu]
    simp [ED,Zg]
   replace GV:=I GV;replace aV:=I aV;replace ec:=I ec;have eS:=I bt;clear bt my av bu CI ED
   go_wp2_with fail
   refine eS.o.mono ?_
   rintro e bm ⟨rfl,bD⟩
   have bF:=bD.size;have iR:=I (((aV.o.aK bD).alloc (.cells #[.string (bs c),.string (bs r)] 56)).alloc (.cells #[.string (bs c),.string (bs r)] 56));have arP:=I (((ec.o.aK bD).alloc (.cells #[.string (bs c),.string (bs r)] 56)).alloc (.cells #[.string (bs c),.string (bs r)] 56))
   have lL:aX 2 fi.cells ((bm.alloc (.cells #[.string (bs c),.string (bs r)] 56)).alloc (.cells #[.string (bs c),.string (bs r)] 56)) (some ⟨bm.heap.size + 1,0,none⟩) [uh (c,r,a + n)]:=by
    have h:=aX.one (sz:=2) (f:=fi.cells) (w:=bm.alloc (.cells #[.string (bs c),.string (bs r)] 56)) (uh (c,r,a + n)) 56
    rw [show (bm.alloc (.cells #[.string (bs c),.string (bs r)] 56)).heap.size= bm.heap.size + 1 from by simp] at h
    exact h
   replace lL:=I lL
   go_upto_region 7 with (at_builtin;refine ke rfl _ _ 52 rfl w 56 i0 _ 2 32 Tryz.underlying52 bo dP dZ dV rfl WG fi.cells fi.wD fi.cells_one (aF xs c4) (xs.map uh) rfl iR.o ⟨bm.heap.size + 1,0,none⟩ 1 (uh (c,r,a + n)) rfl lL.o Zz Xq Xq ?_;intro mW bH fb ed mx)
   have z4:=ed.size
   simp only [aeJ] at z4
   have Cw:=arP.o.ne ed ew;have Rs:qA mW (sq (xs.length + 1) c5):=ew.step (λk ax=>by have:=(agw.o k ax).2;simp;omega) mx;have awK:=I fb.lt;have fm:Below w w bH:=(((ai aB bD).alloc KK _).alloc Xq _).grown ed Xq (λk ax=>(Bn.o k ax).1);have kX:=I fb;have Pu:=I (Cw.alloc (.cells #[.int .i64 ((a:Int) + n)] 3))
   replace Rs:=I Rs;clear fb Cw ed mx
   go_wp2_with (at_builtin;refine ke rfl _ _ 38 rfl w 3 i1 _ 1 8 Tryz.underlying38 Ns JI NN rD rfl WG cE fR qU (sq (xs.length + 1) c5) (0 ::xs.map Cm) rfl Pu.o ⟨bH,0,none⟩ 1 ((a:Int) + n) rfl (aX.one _ _) Zz Xq Xq ?_;intro v5 cO vt fw asv)
   have asn:=(kX.o.alloc (.cells #[.int .i64 ((a:Int) + n)] 3)).ne fw Rs.o.symm;have atE:qA mW v5:=(Rs.o.symm.step (λk ax=>by have:=(awK.o k ax).2;simp;omega) asv).symm;have om:Below w w cO:=(fm.alloc KK _).grown fw Xq (λk ax=>(agw.o k ax).1)
   go_roundw
   case rel=>
    refine⟨xs ++ [(c,r,a + n)],a + n,GV.o,by simp;omega,by rw [gd.o];omega,by go_num,?_,?_,atE,om⟩
    .rw [List.map_append];exact asn
    .rw [List.map_append]
     have e:((a:Int) + n)= Cm (c,r,a + n):=by simp [Cm]
     rw [e] at vt
     exact vt
   case measure=>simp [intOf];omega
theorem awu (l:cN) (aT:l.length<=1073741824) (w:World):Rd 244 #[.string (bs l)] w λe ah=>e= .returned (.int .i64 (rH l:Nat))/\ah= w:=by
 exact alT
theorem aws (l:cN) (aT:l.length<=1073741824) (w:World):Rd 161 #[.string (bs l)] w λe ah=>e= .returned (.string (bs (Bv l)))/\Below w w ah:=by
 have qQ:(bs l).size<=1073741824:=by rw [fY];exact aT
 have bt:=SZ l;have hm:=mQ (rH l:Nat) KK
 have vy:(bs l ++⟨#[35]⟩) ++ eW (rH l:Nat)= bs (Bv l):=by
  exact amf
 replace vy:=I vy
 go_in
 go_wp2_with fail
 refine (awu l aT _).mono ?_
 rintro e ah ⟨rfl,vG⟩
 have NK:=vG.symm
 subst NK
 go_wp2_with fail
 refine (py (rH l:Nat) KK KK _).mono ?_
 rintro e bm ⟨rfl,bD⟩
 have ar:=be w bD;have U:Below w w bm:=ar
 go_wp2
 go_ret
 exact⟨by rw [<- vy.o];rfl,(ai U ao)⟩
theorem agp (k:Int) (ax:0<=k) (nw:k < 100) (c r:cN) (h:mc c r= true) (w:World):Rd 91 #[k,.agg #[.string (bs c),.string (bs r)]] w λe ah=>e= .returned (.string (bs (gq k c r ++ [10])))/\Below w w ah:=by
 obtain⟨aw,c2,c3,_⟩:=HD h
 have eN:=acr ax nw h
 have e1:eW k ++⟨#[32]⟩ ++ bs c ++⟨#[64]⟩ ++ bs r= bs (pR k c r):=by
  exact alc
 have bl:∀W,Rd 161 #[.string (eW k ++⟨#[32]⟩ ++ bs c ++⟨#[64]⟩ ++ bs r)] W λe ah=>e= .returned (.string (bs (gq k c r)))/\Below W W ah:=λW=>by
  rw [e1];exact aws _ KK W
 have aT:=Hw ax nw h
 have s1:(bs c).size<=160:=by rw [fY];exact c2
 have s2:(bs r).size<=200:=by rw [fY];exact c3
 have gT:(bs (gq k c r)).size<=371:=by rw [fY];exact aT
 have Kr:=mQ k KK;have vy:bs (gq k c r) ++⟨#[10]⟩ =bs (gq k c r ++ [10]):=qi _ _;replace bl:=I bl;replace vy:=I vy;clear e1 eN h;have dD:=boxed w #[.string (bs c),.string (bs r)] 56 0 (.string (bs c)) rfl;have dc:=boxed w #[.string (bs c),.string (bs r)] 56 1 (.string (bs r)) rfl
 go_in
 go_wp2
 refine eQ PV PV ?_
 repeat (go_big_quiet_step ((first
  | (go_at_call 73;exact aD.call _ Xm (py _ KK KK _))
  | (go_at_call 161;exact aD.call _ Xm (bl.o _)))))
 exact alU
structure Splits (c:UInt8) (l:cN) (ys:List ByteArray):Prop where
 ne:ys.length≠0
 first:ys[0]? =some (bs (ep c l))
 two:(2<=ys.length)↔kT c l= true
 len:ys.length<=l.length + 1
def yi (s:ByteArray):List Value:=[.string s]
theorem Kz (y:VU):(yi y).length= 1:=rfl
theorem ajB (y:VU) (u:Value) (h:u ∈ yi y):u.oneCell'= true:=by simp [yi] at h;subst h;rfl
theorem avT:(Tryz.prog.info? 9).map (λi=>(i.zero,i.size,i.bytes))= some (some (.string ⟨#[]⟩),1,16):=PV
theorem apC {c:UInt8} {l:cN} (h:kT c (l.take k)= false) (ax:k < l.length) (aN:l[k]= c):ep c l= l.take k/\kT c l= true:=by
 have bq:=Nf.1 h
 have e:l= l.take k ++ c ::l.drop (k + 1):=by
  rw [<- aN];simp
 refine⟨?_,?_⟩
 .conv=>lhs;rw [e]
  exact Mj bq
 .rw [Jr];rw [<- aN];exact ZK ax
theorem asB {c:UInt8} {l:cN} (ax:k < l.length) (h:kT c (l.take k)= false) (aN:l[k]≠c):kT c (l.take (k + 1))= false:=by
 rw [Nf] at *
 rw [Yu ax]
 simp only [YC,List.mem_singleton,not_or]
 exact⟨h,λe=>aN e.symm⟩
theorem awt (l:cN) (c:UInt8) (aT:l) (w:World):Rd 67 #[.string (bs l),.int .u8 (c.toNat:Int)] w λe ah=>∃A n ys,e= .returned (.slice A ys.length n)/\bn w 9 1 yi ah (.slice A ys.length n) ys/\Splits c l ys/\Below w w ah:=by
 obtain⟨i0,bo,dP,dZ,dV⟩:=Xo avT
 have gd:=fY l
 have qQ:(bs l).size<=1048576:=KK
 replace gd:=I gd;have pj:=bn.built (B:=w) (f:=yi) w ([]:List ByteArray) 9 (XZ _) Wn Kz
 simp only [ZL] at pj
 replace pj:=I pj
 go_in
 go_wp2
 go_loopw [5,6,7] (λv5 v6 hJ wr=>∃(xs:List ByteArray) (a k:Nat),k<=(bs l).size/\a<=k/\v6= .int .i64 a/\hJ= .int .i64 k/\xs.length<=k/\(xs.length= 0->a= 0/\kT c (l.take k)= false)/\(xs.length≠0->xs[0]? =some (bs (ep c l))/\kT c l= true)/\
   bn w 9 1 yi wr v5 xs/\Below w w wr) (λ_ _ hJ _=>1048577 - (intOf hJ).toNat)
 case atStart=>
  exact⟨[],0,0,Xd _,XZ _,rfl,rfl,XZ _,λ_=>⟨rfl,by simp [kT]⟩,λh=>absurd rfl h,pj.o,bP _ _⟩
 case round=>
  obtain⟨xs,a,k,ax,de,rfl,rfl,sS,lN,vI,aV,aB⟩:=hrel
  obtain⟨sq,c5,rfl,wQ,_,_⟩:=aV.form Kz
  have z0:=aB.size;have Bn:=I aV.lt;replace lN:=I lN;replace vI:=I vI;replace aV:=I aV
  by_cases bC:k < (bs l).size
  .by_cases aN:(bs l)[k]= c
   .have kI:(((bs l)[k].toNat:Int) == (c.toNat:Int))= true:=by rw [aN];exact Xx.2 rfl
    have hex:(bs l).extract a k= bs ((l.drop a).take (k - a)):=wA l a k
    have sO:(xs ++ [(bs l).extract a k])[0]? =some (bs (ep c l))/\kT c l= true:=by
     rcases Nat.eq_zero_or_pos xs.length with h | h
     .obtain⟨rfl,h2⟩:=lN.o h
      obtain rfl:xs= []:=List.eq_nil_of_length_eq_zero h
      have aQ:=apC h2 (by rw [<- gd.o];exact bC) (by rw [<- Ml l k bC];exact aN)
      refine⟨?_,aQ.2⟩
      rw [hex,aQ.1];simp
     .have:=vI.o KK
      refine⟨?_,this.2⟩
      rw [Yt h];exact this.1
    have gj:=I sO;clear sO hex aN;have lL:aX 1 yi (wr.alloc (.cells #[.string ((bs l).extract a k)] 9)) (some ⟨wr,0,none⟩) [(bs l).extract a k]:=aX.one (sz:=1) (f:=yi) _ _;have FW:=I lL;clear lL;have nI:=I (aV.o.alloc (.cells #[.string ((bs l).extract a k)] 9))
    go_wp2_with (at_builtin;refine ke rfl _ _ 57 rfl w 9 i0 _ 1 16 Tryz.underlying57 bo dP dZ dV rfl WG yi Kz ajB (sq xs.length c5) xs rfl nI.o ⟨wr,0,none⟩ 1 ((bs l).extract a k) rfl FW.o Xz KK Xq ?_;intro v4 bH fb ed mx)
    have fm:Below w w bH:=(aB.alloc KK _).grown ed Xq (λq bt=>(Bn.o q bt).1)
    go_roundw
    case rel=>
     refine⟨xs ++ [(bs l).extract a k],k + 1,k + 1,by omega,XZ _,by go_num,by go_num,by simp;omega,λh=>?_,λ_=>gj.o,fb,fm⟩
     simp at h
    case measure=>simp [intOf];omega
   .have kI:(((bs l)[k].toNat:Int) == (c.toNat:Int))= false:=by
     rw [Xb]
     intro e
     exact aN (UInt8.toNat_inj.1 KK)
    have sO:xs.length= 0->a= 0/\kT c (l.take (k + 1))= false:=λh=>
     ⟨(lN.o h).1,asB (by rw [<- gd.o];exact bC) (lN.o h).2 (by rw [<- Ml l k bC];exact aN)⟩
    have gj:=I sO;clear sO aN
    go_wp2
    go_roundw
    case rel=>exact⟨xs,a,k + 1,by omega,by omega,rfl,by go_num,by omega,gj.o,vI.o,aV.o,aB⟩
    case measure=>simp [intOf];omega
  .obtain rfl:k= (bs l).size:=KK
   have hex:(bs l).extract a (bs l).size= bs (l.drop a):=by rw [wA,fY,YO Wn]
   have ov:Splits c l (xs ++ [(bs l).extract a (bs l).size]):=by
    rw [hex]
    rcases Nat.eq_zero_or_pos xs.length with h | h
    .obtain⟨rfl,h2⟩:=lN.o h
     obtain rfl:xs= []:=List.eq_nil_of_length_eq_zero h
     rw [gd.o,Yh] at h2
     refine⟨by simp,?_,by simp [h2],by simp⟩
     rw [Qj (Nf.1 h2)];simp
    .have:=vI.o KK
     refine⟨by simp,?_,?_,?_⟩
     .rw [Yt h];exact this.1
     .rw [this.2];simp;omega
     .have:=gd.o;simp;omega
   replace ov:=I ov;clear hex;have lL:aX 1 yi (wr.alloc (.cells #[.string ((bs l).extract a (bs l).size)] 9)) (some ⟨wr,0,none⟩) [(bs l).extract a (bs l).size]:=aX.one (sz:=1) (f:=yi) _ _;have FW:=I lL;clear lL;have nI:=I (aV.o.alloc (.cells #[.string ((bs l).extract a (bs l).size)] 9))
   go_wp2_with (at_builtin;refine ke rfl _ _ 57 rfl w 9 i0 _ 1 16 Tryz.underlying57 bo dP dZ dV rfl WG yi Kz ajB (sq xs.length c5) xs rfl nI.o ⟨wr,0,none⟩ 1 ((bs l).extract a (bs l).size) rfl FW.o Xz KK Xq ?_;intro v4 bH fb ed mx)
   have fm:Below w w bH:=(aB.alloc KK _).grown ed Xq (λq bt=>(Bn.o q bt).1)
   obtain⟨Tu,AK,rfl,_,_,_⟩:=fb.form Kz
   go_ret
   exact⟨Tu,AK,xs ++ [(bs l).extract a (bs l).size],rfl,fb,ov.o,fm⟩
end Go.Proofs.YtlaaemmmbodaaaaGreatDoor
