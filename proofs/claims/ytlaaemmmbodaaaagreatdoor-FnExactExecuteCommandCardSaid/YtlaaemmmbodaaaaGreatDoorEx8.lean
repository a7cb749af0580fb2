/- Parts. -/
import Derived.Test.YtlaaemmmbodaaaaGreatDoorEx7
import Derived.Carry
import Derived.Deep.Slices
import Derived.ProofKit
import Derived.Lib.Bytealg
import Derived.IntWalk
set_option maxHeartbeats 16000000
set_option maxRecDepth 100000
set_option linter.unnecessarySimpa false
set_option linter.unusedSimpArgs false
set_option linter.unusedVariables false
namespace Go.Proofs.YtlaaemmmbodaaaaGreatDoor
open Go.RowKit Go.G9
theorem QQ {p:Prop} (h:p:=by
 rintro e bB ⟨oY,pn,rfl,fz,bG⟩
 have aK:=be ky bG;replace I:=ah I aK;replace ai:=ai.to aK;clear aD;have aD:=ai.aG;clear a';replace ad:=ad.to aK;clear al;have al:=ad.aG;have vt:=I.size
 go_wp2_with fail
 refine (Xb an ar aj ak aA c0 c1 c2 c3 c4 rs qs af ae sp ws U os bf.out oY ps.length pn _ (bJ.out.below (ah I av))).mono ?_
 rintro e ca ⟨cq,d0,ct,d4,rfl,ch,cv,cU⟩
 have bS:=be bB cU;replace I:=ah I bS;replace fz:=fz.later bS;clear aD;replace ad:=ad.to bS;clear al;have al:=ad.aG;have fC:=ch.cA ad;have sK:=fz.cA ad;have fI:=cv.cA ad;have ep:=ad.jh
 go_wp2
 clear al
 refine iK 0 fun cS aC=>?_
 replace I:=aC.aE I;replace ad:=aC.jg ad;replace fz:=fz.bW aC sK;replace ch:=ch.bW aC fC;replace cv:=cv.bW aC fI;have al:=ad.aG
 refine bodyPost_ret (v:= .tuple #[.agg #[.slice cq rs d0,.slice oY ps pn,af,ae,(0:Int),.slice none 0 0,.slice none 0 0,.slice ct os d4],true]) (by simp [results,Tryz.results154,go_sem,al]) rfl ?_
 exact⟨cq,d0,oY,pn,none,0,none,0,ct,d4,rfl,⟨ch.base (by omega),fz.base (by omega),aV.nil,aV.nil,cv.base (by omega)⟩,I⟩):p:=h
theorem apL (an ar aj ak aA:Option Addr) (c0 c1 c2 c3 c4:Nat) (rs:List aJ) (qs:List aL) (af ae sp:Int) (ws:List Int) (U:List aI) (os:List Out) (Z:eC an ar aj ak aA c0 c1 c2 c3 c4 rs qs ws U os) (mem val yes no bx:Int) (ps:List aL) (aw:jO rs qs val mem= some ps) (aX:(sp == 0)= true) (w:World) (R:ea w an ar aj ak aA rs qs ws U os):
 Calls Tryz.prog 154 #[.agg #[.slice an rs c0,.slice ar qs c1,af,ae,sp,.slice aj ws c2,.slice ak U c3,.slice aA os c4],.agg #[(1:Int),mem,val,yes,no,bx]] w (ht (some ⟨rs,ps,af,ae,0,[],[],os⟩) w):=by
 have bJ:=J R;have bf:=J Z;clear R Z;have bC:=J aw;clear aw
 go_in
 go_upto_region 1 with fail
 refine fr fun aF au ai aR ad=>?_
 have I:=au;have aD:=ai.aG;have a':=aR.da;have al:=ad.aG;have gy:=ad.lt
 go_upto_region 2 with fail
 refine cR fun ky ao eO=>?_
 replace I:=ah I ao;clear aD;replace ai:=ai.to ao;have aD:=ai.aG;clear a';replace aR:=aR.to ao;have a':=aR.da;clear al;replace ad:=ad.to ao;have al:=ad.aG;have Gm:=eO.lt
 go_wp2_with fail
 refine (Ze an c0 rs bf.out.h0 ar c1 qs bf.out.h1 bf.out.n1 val mem ps bC.out _ (bJ.out.fF.below (ah I av)) (bJ.out.dJ.below (ah I av))).mono ?_
 exact QQ
theorem Rd {p:Prop} (h:p:=by
 rintro e bB ⟨oY,pn,rfl,bG⟩
 have aK:=be ky bG;replace I:=ah I aK;clear aD;clear a';replace ad:=ad.to aK;clear al;have al:=ad.aG;have ep:=ad.jh
 go_wp2
 clear al
 refine iK 0 fun cS aC=>?_
 replace I:=aC.aE I;replace ad:=aC.jg ad;have al:=ad.aG
 refine bodyPost_ret (v:= .tuple #[.agg #[.slice none 0 0,.slice none 0 0,(0:Int),(0:Int),(0:Int),.slice none 0 0,.slice none 0 0,.slice none 0 0],false]) (by simp [results,Tryz.results154,go_sem,al]) rfl ?_
 exact⟨rfl,I⟩):p:=h
theorem Zb (an ar aj ak aA:Option Addr) (c0 c1 c2 c3 c4:Nat) (rs:List aJ) (qs:List aL) (af ae sp:Int) (ws:List Int) (U:List aI) (os:List Out) (Z:eC an ar aj ak aA c0 c1 c2 c3 c4 rs qs ws U os) (mem val yes no bx:Int) (aw:jO rs qs val mem= none) (w:World) (R:ea w an ar aj ak aA rs qs ws U os):
 Calls Tryz.prog 154 #[.agg #[.slice an rs c0,.slice ar qs c1,af,ae,sp,.slice aj ws c2,.slice ak U c3,.slice aA os c4],.agg #[(1:Int),mem,val,yes,no,bx]] w (ht none w):=by
 have bJ:=J R;have bf:=J Z;clear R Z;have bC:=J aw;clear aw
 go_in
 go_upto_region 1 with fail
 refine fr fun aF au ai aR ad=>?_
 have I:=au;have aD:=ai.aG;have a':=aR.da;have al:=ad.aG
 go_upto_region 2 with fail
 refine cR fun ky ao eO=>?_
 replace I:=ah I ao;clear aD;replace ai:=ai.to ao;have aD:=ai.aG;clear a';replace aR:=aR.to ao;have a':=aR.da;clear al;replace ad:=ad.to ao;have al:=ad.aG
 go_wp2_with fail
 refine (apU an c0 rs bf.out.h0 ar c1 qs bf.out.h1 bf.out.n1 val mem bC.out _ (bJ.out.fF.below (ah I av)) (bJ.out.dJ.below (ah I av))).mono ?_
 exact Rd
theorem acG {p:Prop} (h:p:=by
 rintro e bB ⟨oY,pn,rfl,fz,bG⟩
 have aK:=be ky bG;replace I:=ah I aK;clear aD;clear a';replace ad:=ad.to aK;clear al;have al:=ad.aG;clear fz;have ep:=ad.jh
 go_wp2
 clear al
 refine iK 0 fun cS aC=>?_
 replace I:=aC.aE I;replace ad:=aC.jg ad;have al:=ad.aG
 refine bodyPost_ret (v:= .tuple #[.agg #[.slice none 0 0,.slice none 0 0,(0:Int),(0:Int),(0:Int),.slice none 0 0,.slice none 0 0,.slice none 0 0],false]) (by simp [results,Tryz.results154,go_sem,al]) rfl ?_
 exact⟨rfl,I⟩):p:=h
theorem apK (an ar aj ak aA:Option Addr) (c0 c1 c2 c3 c4:Nat) (rs:List aJ) (qs:List aL) (af ae sp:Int) (ws:List Int) (U:List aI) (os:List Out) (Z:eC an ar aj ak aA c0 c1 c2 c3 c4 rs qs ws U os) (mem val yes no bx:Int) (ps:List aL) (aw:jO rs qs val mem= some ps) (aX:(sp == 0)= false) (w:World) (R:ea w an ar aj ak aA rs qs ws U os):
 Calls Tryz.prog 154 #[.agg #[.slice an rs c0,.slice ar qs c1,af,ae,sp,.slice aj ws c2,.slice ak U c3,.slice aA os c4],.agg #[(1:Int),mem,val,yes,no,bx]] w (ht none w):=by
 have bJ:=J R;have bf:=J Z;clear R Z;have bC:=J aw;clear aw
 go_in
 go_upto_region 1 with fail
 refine fr fun aF au ai aR ad=>?_
 have I:=au;have aD:=ai.aG;have a':=aR.da;have al:=ad.aG
 go_upto_region 2 with fail
 refine cR fun ky ao eO=>?_
 replace I:=ah I ao;clear aD;replace ai:=ai.to ao;have aD:=ai.aG;clear a';replace aR:=aR.to ao;have a':=aR.da;clear al;replace ad:=ad.to ao;have al:=ad.aG
 go_wp2_with fail
 refine (Ze an c0 rs bf.out.h0 ar c1 qs bf.out.h1 bf.out.n1 val mem ps bC.out _ (bJ.out.fF.below (ah I av)) (bJ.out.dJ.below (ah I av))).mono ?_
 exact acG
theorem apQ (an ar aj ak aA:Option Addr) (c0 c1 c2 c3 c4:Nat) (rs:List aJ) (qs:List aL) (af ae sp:Int) (ws:List Int) (U:List aI) (os:List Out) (Z:eC an ar aj ak aA c0 c1 c2 c3 c4 rs qs ws U os) (mem val yes no bx:Int) (ps:List aL) (aw:kz rs qs mem= some ps) (aX:(sp == 0)= true) (w:World) (R:ea w an ar aj ak aA rs qs ws U os):
 Calls Tryz.prog 154 #[.agg #[.slice an rs c0,.slice ar qs c1,af,ae,sp,.slice aj ws c2,.slice ak U c3,.slice aA os c4],.agg #[(8:Int),mem,val,yes,no,bx]] w (ht (some ⟨rs,ps,af,ae,0,[],[],os⟩) w):=by
 have bJ:=J R;have bf:=J Z;clear R Z;have bC:=J aw;clear aw
 go_in
 go_upto_region 1 with fail
 refine fr fun aF au ai aR ad=>?_
 have I:=au;have aD:=ai.aG;have a':=aR.da;have al:=ad.aG;have gy:=ad.lt
 go_upto_region 2 with fail
 refine cR fun ky ao eO=>?_
 replace I:=ah I ao;clear aD;replace ai:=ai.to ao;have aD:=ai.aG;clear a';replace aR:=aR.to ao;have a':=aR.da;clear al;replace ad:=ad.to ao;have al:=ad.aG;have Gm:=eO.lt
 go_wp2_with fail
 refine (Zh an c0 rs bf.out.h0 ar c1 qs bf.out.h1 bf.out.eB mem ps bC.out _ (bJ.out.fF.below (ah I av)) (bJ.out.dJ.below (ah I av))).mono ?_
 exact QQ
theorem Zd (an ar aj ak aA:Option Addr) (c0 c1 c2 c3 c4:Nat) (rs:List aJ) (qs:List aL) (af ae sp:Int) (ws:List Int) (U:List aI) (os:List Out) (Z:eC an ar aj ak aA c0 c1 c2 c3 c4 rs qs ws U os) (mem val yes no bx:Int) (aw:kz rs qs mem= none) (w:World) (R:ea w an ar aj ak aA rs qs ws U os):
 Calls Tryz.prog 154 #[.agg #[.slice an rs c0,.slice ar qs c1,af,ae,sp,.slice aj ws c2,.slice ak U c3,.slice aA os c4],.agg #[(8:Int),mem,val,yes,no,bx]] w (ht none w):=by
 have bJ:=J R;have bf:=J Z;clear R Z;have bC:=J aw;clear aw
 go_in
 go_upto_region 1 with fail
 refine fr fun aF au ai aR ad=>?_
 have I:=au;have aD:=ai.aG;have a':=aR.da;have al:=ad.aG
 go_upto_region 2 with fail
 refine cR fun ky ao eO=>?_
 replace I:=ah I ao;clear aD;replace ai:=ai.to ao;have aD:=ai.aG;clear a';replace aR:=aR.to ao;have a':=aR.da;clear al;replace ad:=ad.to ao;have al:=ad.aG
 go_wp2_with fail
 refine (aqi an c0 rs bf.out.h0 ar c1 qs bf.out.h1 bf.out.eB mem bC.out _ (bJ.out.fF.below (ah I av)) (bJ.out.dJ.below (ah I av))).mono ?_
 exact Rd
theorem apP (an ar aj ak aA:Option Addr) (c0 c1 c2 c3 c4:Nat) (rs:List aJ) (qs:List aL) (af ae sp:Int) (ws:List Int) (U:List aI) (os:List Out) (Z:eC an ar aj ak aA c0 c1 c2 c3 c4 rs qs ws U os) (mem val yes no bx:Int) (ps:List aL) (aw:kz rs qs mem= some ps) (aX:(sp == 0)= false) (w:World) (R:ea w an ar aj ak aA rs qs ws U os):
 Calls Tryz.prog 154 #[.agg #[.slice an rs c0,.slice ar qs c1,af,ae,sp,.slice aj ws c2,.slice ak U c3,.slice aA os c4],.agg #[(8:Int),mem,val,yes,no,bx]] w (ht none w):=by
 have bJ:=J R;have bf:=J Z;clear R Z;have bC:=J aw;clear aw
 go_in
 go_upto_region 1 with fail
 refine fr fun aF au ai aR ad=>?_
 have I:=au;have aD:=ai.aG;have a':=aR.da;have al:=ad.aG
 go_upto_region 2 with fail
 refine cR fun ky ao eO=>?_
 replace I:=ah I ao;clear aD;replace ai:=ai.to ao;have aD:=ai.aG;clear a';replace aR:=aR.to ao;have a':=aR.da;clear al;replace ad:=ad.to ao;have al:=ad.aG
 go_wp2_with fail
 refine (Zh an c0 rs bf.out.h0 ar c1 qs bf.out.h1 bf.out.eB mem ps bC.out _ (bJ.out.fF.below (ah I av)) (bJ.out.dJ.below (ah I av))).mono ?_
 exact acG
theorem apS (an ar aj ak aA:Option Addr) (c0 c1 c2 c3 c4:Nat) (rs:List aJ) (qs:List aL) (af ae sp:Int) (ws:List Int) (U:List aI) (os:List Out) (Z:eC an ar aj ak aA c0 c1 c2 c3 c4 rs qs ws U os) (mem val yes no bx:Int) (ps:List aL) (aw:lI rs qs= some ps) (aS:ps.length < qs.length) (w:World) (R:ea w an ar aj ak aA rs qs ws U os):
 Calls Tryz.prog 154 #[.agg #[.slice an rs c0,.slice ar qs c1,af,ae,sp,.slice aj ws c2,.slice ak U c3,.slice aA os c4],.agg #[(9:Int),mem,val,yes,no,bx]] w (ht (some ⟨rs,ps,af,ae,0,[],[],os⟩) w):=by
 have bJ:=J R;have bf:=J Z;clear R Z;have bC:=J aw;clear aw
 go_in
 go_upto_region 1 with fail
 refine fr fun aF au ai aR ad=>?_
 have I:=au;have aD:=ai.aG;have a':=aR.da;have al:=ad.aG;have gy:=ad.lt
 go_upto_region 2 with fail
 refine cR fun ky ao eO=>?_
 replace I:=ah I ao;clear aD;replace ai:=ai.to ao;have aD:=ai.aG;clear a';replace aR:=aR.to ao;have a':=aR.da;clear al;replace ad:=ad.to ao;have al:=ad.aG;have Gm:=eO.lt
 go_wp2_with fail
 refine (YX an c0 rs bf.out.h0 ar c1 qs bf.out.h1 bf.out.n1 bf.out.eB ps bC.out _ (bJ.out.fF.below (ah I av)) (bJ.out.dJ.below (ah I av))).mono ?_
 exact QQ
theorem apR (an ar aj ak aA:Option Addr) (c0 c1 c2 c3 c4:Nat) (rs:List aJ) (qs:List aL) (af ae sp:Int) (ws:List Int) (U:List aI) (os:List Out) (Z:eC an ar aj ak aA c0 c1 c2 c3 c4 rs qs ws U os) (mem val yes no bx:Int) (ps:List aL) (aw:lI rs qs= some ps) (aS:¬ps.length < qs.length) (w:World) (R:ea w an ar aj ak aA rs qs ws U os):
 Calls Tryz.prog 154 #[.agg #[.slice an rs c0,.slice ar qs c1,af,ae,sp,.slice aj ws c2,.slice ak U c3,.slice aA os c4],.agg #[(9:Int),mem,val,yes,no,bx]] w (ht none w):=by
 have bJ:=J R;have bf:=J Z;clear R Z;have bC:=J aw;clear aw
 go_in
 go_upto_region 1 with fail
 refine fr fun aF au ai aR ad=>?_
 have I:=au;have aD:=ai.aG;have a':=aR.da;have al:=ad.aG
 go_upto_region 2 with fail
 refine cR fun ky ao eO=>?_
 replace I:=ah I ao;clear aD;replace ai:=ai.to ao;have aD:=ai.aG;clear a';replace aR:=aR.to ao;have a':=aR.da;clear al;replace ad:=ad.to ao;have al:=ad.aG
 go_wp2_with fail
 refine (YX an c0 rs bf.out.h0 ar c1 qs bf.out.h1 bf.out.n1 bf.out.eB ps bC.out _ (bJ.out.fF.below (ah I av)) (bJ.out.dJ.below (ah I av))).mono ?_
 rintro e bB ⟨oY,pn,rfl,fz,bG⟩
 have aK:=be ky bG;replace I:=ah I aK;replace ai:=ai.to aK;clear aD;have aD:=ai.aG;clear a';replace ad:=ad.to aK;clear al;have al:=ad.aG;clear fz;have ep:=ad.jh
 go_wp2
 clear aD al
 refine iK 0 fun cS aC=>?_
 replace I:=aC.aE I;replace ad:=aC.jg ad;have al:=ad.aG
 refine bodyPost_ret (v:= .tuple #[.agg #[.slice none 0 0,.slice none 0 0,(0:Int),(0:Int),(0:Int),.slice none 0 0,.slice none 0 0,.slice none 0 0],false]) (by simp [results,Tryz.results154,go_sem,al]) rfl ?_
 exact⟨rfl,I⟩
theorem abX {p:Prop} (h:p:=by
 rintro e bB ⟨cq,d0,cK,d1,bg,d2,bn,d3,ct,d4,rfl,ds,bG⟩
 have aK:=be ky bG;replace I:=ah I aK;clear aD;clear a';replace ad:=ad.to aK;clear al;have al:=ad.aG;have ch:=ds.kJ;have cm:=ds.hU;have bA:=ds.fk;have bq:=ds.fJ;have cv:=ds.mc;clear ds;have fC:=ch.cA ad;have ih:=cm.cA ad;have ej:=bA.cA ad;have dK:=bq.cA ad;have fI:=cv.cA ad;have ep:=ad.jh
 go_wp2
 clear al
 refine iK 0 fun cS aC=>?_
 replace I:=aC.aE I;replace ad:=aC.jg ad;replace ch:=ch.bW aC fC;replace cm:=cm.bW aC ih;replace bA:=bA.bW aC ej;replace bq:=bq.bW aC dK;replace cv:=cv.bW aC fI;have al:=ad.aG
 refine bodyPost_ret (v:= .tuple #[.agg #[.slice cq n.br d0,.slice cK n.bD d1,n.cZ,n.cQ,n.dH,.slice bg n.bE d2,.slice bn n.bK d3,.slice ct n.bt d4],true]) (by simp [results,Tryz.results154,go_sem,al]) rfl ?_
 exact⟨cq,d0,cK,d1,bg,d2,bn,d3,ct,d4,rfl,⟨ch.base (by omega),cm.base (by omega),bA.base (by omega),bq.base (by omega),cv.base (by omega)⟩,I⟩):p:=h
theorem apO (an ar aj ak aA:Option Addr) (c0 c1 c2 c3 c4:Nat) (rs:List aJ) (qs:List aL) (af ae sp:Int) (ws:List Int) (U:List aI) (os:List Out) (Z:eC an ar aj ak aA c0 c1 c2 c3 c4 rs qs ws U os) (mem val yes no bx:Int) (aX:(sp != 0)= false) (n:cz) (aw:pw ⟨rs,qs,af,ae,sp,ws,U,os⟩ ⟨7,mem,val,yes,no,bx⟩ =some n) (aO:dD rs qs= true) (cY:os.length≤12) (w:World) (R:ea w an ar aj ak aA rs qs ws U os):
 Calls Tryz.prog 154 #[.agg #[.slice an rs c0,.slice ar qs c1,af,ae,sp,.slice aj ws c2,.slice ak U c3,.slice aA os c4],.agg #[(7:Int),mem,val,yes,no,bx]] w (ht (some n) w):=by
 have bJ:=J R;have bf:=J Z;clear R Z;have bC:=J aw;clear aw
 go_in
 go_upto_region 1 with fail
 refine fr fun aF au ai aR ad=>?_
 have I:=au;have aD:=ai.aG;have a':=aR.da;have al:=ad.aG;have gy:=ad.lt
 go_upto_region 2 with fail
 refine cR fun ky ao eO=>?_
 replace I:=ah I ao;clear aD;replace ai:=ai.to ao;have aD:=ai.aG;clear a';replace aR:=aR.to ao;have a':=aR.da;clear al;replace ad:=ad.to ao;have al:=ad.aG;have Gm:=eO.lt
 go_wp2_with fail
 refine (aqh an ar aj ak aA c0 c1 c2 c3 c4 rs qs af ae sp ws U os bf.out mem val yes no bx aX n bC.out aO cY _ (bJ.out.below (ah I av))).mono ?_
 exact abX
theorem acK {p:Prop} (h:p:=by
 rintro e bB ⟨rfl,bG⟩
 have aK:=be ky bG;replace I:=ah I aK;clear aD;clear a';replace ad:=ad.to aK;clear al;have al:=ad.aG;have ep:=ad.jh
 go_wp2
 clear al
 refine iK 0 fun cS aC=>?_
 replace I:=aC.aE I;replace ad:=aC.jg ad;have al:=ad.aG
 refine bodyPost_ret (v:= .tuple #[.agg #[.slice none 0 0,.slice none 0 0,(0:Int),(0:Int),(0:Int),.slice none 0 0,.slice none 0 0,.slice none 0 0],false]) (by simp [results,Tryz.results154,go_sem,al]) rfl ?_
 exact⟨rfl,I⟩):p:=h
theorem Zc (an ar aj ak aA:Option Addr) (c0 c1 c2 c3 c4:Nat) (rs:List aJ) (qs:List aL) (af ae sp:Int) (ws:List Int) (U:List aI) (os:List Out) (Z:eC an ar aj ak aA c0 c1 c2 c3 c4 rs qs ws U os) (mem val yes no bx:Int) (aw:sp≠0∨pw ⟨rs,qs,af,ae,sp,ws,U,os⟩ ⟨7,mem,val,yes,no,bx⟩ =none) (w:World) (R:ea w an ar aj ak aA rs qs ws U os):
 Calls Tryz.prog 154 #[.agg #[.slice an rs c0,.slice ar qs c1,af,ae,sp,.slice aj ws c2,.slice ak U c3,.slice aA os c4],.agg #[(7:Int),mem,val,yes,no,bx]] w (ht none w):=by
 have bJ:=J R;have bf:=J Z;clear R Z;have bC:=J aw;clear aw
 go_in
 go_upto_region 1 with fail
 refine fr fun aF au ai aR ad=>?_
 have I:=au;have aD:=ai.aG;have a':=aR.da;have al:=ad.aG
 go_upto_region 2 with fail
 refine cR fun ky ao eO=>?_
 replace I:=ah I ao;clear aD;replace ai:=ai.to ao;have aD:=ai.aG;clear a';replace aR:=aR.to ao;have a':=aR.da;clear al;replace ad:=ad.to ao;have al:=ad.aG
 go_wp2_with fail
 refine (aqf an ar aj ak aA c0 c1 c2 c3 c4 rs qs af ae sp ws U os bf.out mem val yes no bx bC.out _ (bJ.out.below (ah I av))).mono ?_
 exact acK
theorem HE (an ar aj ak aA:Option Addr) (c0 c1 c2 c3 c4:Nat) (rs:List aJ) (qs:List aL) (af ae sp:Int) (ws:List Int) (U:List aI) (os:List Out) (Z:eC an ar aj ak aA c0 c1 c2 c3 c4 rs qs ws U os) (kind mem val yes no bx:Int) (g1:(kind == 1)= false) (g2:(kind == 2)= false) (g7:(kind == 7)= false) (g8:(kind == 8)= false) (g9:(kind == 9)= false) (o:Option cz) (w:World) (R:ea w an ar aj ak aA rs qs ws U os) (H:∀W,Below w w W→Calls Tryz.prog 235 #[.agg #[.slice an rs c0,.slice ar qs c1,af,ae,sp,.slice aj ws c2,.slice ak U c3,.slice aA os c4],.agg #[kind,mem,val,yes,no,bx]] W (ht o W)):
 Calls Tryz.prog 154 #[.agg #[.slice an rs c0,.slice ar qs c1,af,ae,sp,.slice aj ws c2,.slice ak U c3,.slice aA os c4],.agg #[kind,mem,val,yes,no,bx]] w (ht o w):=by
 have mF:=J H;clear H R Z
 cases o with
 | none=>
  go_in
  go_upto_region 1 with fail
  refine fr fun aF au ai aR ad=>?_
  have I:=au;have aD:=ai.aG;have a':=aR.da;have al:=ad.aG
  go_upto_region 2 with fail
  refine cR fun ky ao eO=>?_
  replace I:=ah I ao;clear aD;replace ai:=ai.to ao;have aD:=ai.aG;clear a';replace aR:=aR.to ao;have a':=aR.da;clear al;replace ad:=ad.to ao;have al:=ad.aG
  go_wp2_with fail
  refine (mF.out _ (ah I av)).mono ?_
  exact acK
 | some n=>
  go_in
  go_upto_region 1 with fail
  refine fr fun aF au ai aR ad=>?_
  have I:=au;have aD:=ai.aG;have a':=aR.da;have al:=ad.aG;have gy:=ad.lt
  go_upto_region 2 with fail
  refine cR fun ky ao eO=>?_
  replace I:=ah I ao;clear aD;replace ai:=ai.to ao;have aD:=ai.aG;clear a';replace aR:=aR.to ao;have a':=aR.da;clear al;replace ad:=ad.to ao;have al:=ad.aG;have Gm:=eO.lt
  go_wp2_with fail
  refine (mF.out _ (ah I av)).mono ?_
  exact abX
theorem apN (an ar aj ak aA:Option Addr) (c0 c1 c2 c3 c4:Nat) (rs:List aJ) (qs:List aL) (af ae sp:Int) (ws:List Int) (U:List aI) (os:List Out) (Z:eC an ar aj ak aA c0 c1 c2 c3 c4 rs qs ws U os) (mem val yes no bx:Int) (ps:List aL) (aw:jX rs qs mem= some ps) (w:World) (R:ea w an ar aj ak aA rs qs ws U os):
 Calls Tryz.prog 154 #[.agg #[.slice an rs c0,.slice ar qs c1,af,ae,sp,.slice aj ws c2,.slice ak U c3,.slice aA os c4],.agg #[(2:Int),mem,val,yes,no,bx]] w (ht (some ⟨rs,ps,af,ae,sp,ws,U,os⟩) w):=by
 have bJ:=J R;have bf:=J Z;clear R Z;have bC:=J aw;clear aw
 go_in
 go_upto_region 1 with fail
 refine fr fun aF au ai aR ad=>?_
 have I:=au;have aD:=ai.aG;have a':=aR.da;have al:=ad.aG;have gy:=ad.lt
 go_upto_region 2 with fail
 refine cR fun ky ao eO=>?_
 replace I:=ah I ao;clear aD;replace ai:=ai.to ao;have aD:=ai.aG;clear a';replace aR:=aR.to ao;have a':=aR.da;clear al;replace ad:=ad.to ao;have al:=ad.aG;have Gm:=eO.lt
 go_wp2_with fail
 refine (aqa an c0 rs bf.out.h0 ar c1 qs bf.out.h1 bf.out.n1 mem ps bC.out _ (bJ.out.fF.below (ah I av)) (bJ.out.dJ.below (ah I av))).mono ?_
 rintro e bB ⟨oY,pn,rfl,fz,bG⟩
 have aK:=be ky bG;replace I:=ah I aK;replace ai:=ai.to aK;clear aD;have aD:=ai.aG;clear a';replace ad:=ad.to aK;clear al;have al:=ad.aG;have aqH:=aK.size;have vt:=I.size
 go_wp2_with fail
 refine (Ha an ar aj ak aA c0 c1 c2 c3 c4 rs qs af ae sp ws U os bf.out _ (bJ.out.below (ah I av))).mono ?_
 rintro e ca ⟨cI,e0,cF,e1,de,e2,df,e3,cJ,e4,rfl,ds,cU⟩
 have bS:=be bB cU;replace I:=ah I bS;replace fz:=fz.later bS;clear aD;replace ad:=ad.to bS;clear al;have al:=ad.aG;have ZP:=bS.size;have KF:=I.size
 go_upto_region 13 with fail
 have lD:=ds.later (bZ ca (.cells #[.slice cI rs e0,.slice cF qs e1,af,ae,sp,.slice de ws e2,.slice df U e3,.slice cJ os e4] 44));clear ds;have cx:Below ca ca (World.alloc ca (.cells #[.slice cI rs e0,.slice cF qs e1,af,ae,sp,.slice de ws e2,.slice df U e3,.slice cJ os e4] 44)):=bZ ca _
 have aQ:aq (World.alloc ca (.cells #[.slice cI rs e0,.slice cF qs e1,af,ae,sp,.slice de ws e2,.slice df U e3,.slice cJ os e4] 44)) (ca.heap.size) 44 #[.slice cI rs e0,.slice cF qs e1,af,ae,sp,.slice de ws e2,.slice df U e3,.slice cJ os e4]:=by repeat (first | exact aq.new _ _ _ | exact aq.fu _ _ _ _ | exact aq.fx _ _ _ _ _ | exact aq.gb _ _ _ _ _ _ | refine aq.alloc ?_ _)
 replace fz:=fz.later cx
 generalize World.alloc ca (.cells #[.slice cI rs e0,.slice cF qs e1,af,ae,sp,.slice de ws e2,.slice df U e3,.slice cJ os e4] 44)= tS at *
 replace I:=ah I cx;have bF:=aQ.aG;clear al;replace ad:=ad.to cx;have al:=ad.aG;have ch:=lD.kJ;have bA:=lD.fk;have bq:=lD.fJ;have cv:=lD.mc;clear lD;have Aq:=aQ.frozen 1;have fC:=ch.cA aQ;have sK:=fz.cA aQ;have ej:=bA.cA aQ;have dK:=bq.cA aQ;have fI:=cv.cA aQ
 go_upto_region 14 with fail
 clear al bF
 refine kN 1 fun mo eN=>?_
 replace I:=eN.aE I;replace ad:=eN.dM ad;replace aQ:=eN.Hs aQ;replace fz:=fz.bW eN sK;replace ch:=ch.bW eN fC;replace bA:=bA.bW eN ej;replace bq:=bq.bW eN dK;replace cv:=cv.bW eN fI
 have al:=ad.aG;have bF:=aQ.aG;clear fC sK ej dK fI Aq;have fC:=ch.cA ad;have sK:=fz.cA ad;have ej:=bA.cA ad;have dK:=bq.cA ad;have fI:=cv.cA ad;have ep:=ad.jh
 go_wp2
 clear al bF
 refine iK 0 fun cS aC=>?_
 replace I:=aC.aE I;replace ad:=aC.jg ad;replace fz:=fz.bW aC sK;replace ch:=ch.bW aC fC;replace bA:=bA.bW aC ej;replace bq:=bq.bW aC dK;replace cv:=cv.bW aC fI;have al:=ad.aG
 refine bodyPost_ret (v:= .tuple #[.agg #[.slice cI rs e0,.slice oY ps pn,af,ae,sp,.slice de ws e2,.slice df U e3,.slice cJ os e4],true]) (by simp [results,Tryz.results154,go_sem,al]) rfl ?_
 exact aba
theorem apM (an ar aj ak aA:Option Addr) (c0 c1 c2 c3 c4:Nat) (rs:List aJ) (qs:List aL) (af ae sp:Int) (ws:List Int) (U:List aI) (os:List Out) (Z:eC an ar aj ak aA c0 c1 c2 c3 c4 rs qs ws U os) (mem val yes no bx:Int) (aw:jX rs qs mem= none) (w:World) (R:ea w an ar aj ak aA rs qs ws U os):
 Calls Tryz.prog 154 #[.agg #[.slice an rs c0,.slice ar qs c1,af,ae,sp,.slice aj ws c2,.slice ak U c3,.slice aA os c4],.agg #[(2:Int),mem,val,yes,no,bx]] w (ht none w):=by
 have bJ:=J R;have bf:=J Z;clear R Z;have bC:=J aw;clear aw
 go_in
 go_upto_region 1 with fail
 refine fr fun aF au ai aR ad=>?_
 have I:=au;have aD:=ai.aG;have a':=aR.da;have al:=ad.aG
 go_upto_region 2 with fail
 refine cR fun ky ao eO=>?_
 replace I:=ah I ao;clear aD;replace ai:=ai.to ao;have aD:=ai.aG;clear a';replace aR:=aR.to ao;have a':=aR.da;clear al;replace ad:=ad.to ao;have al:=ad.aG
 go_wp2_with fail
 refine (apZ an c0 rs bf.out.h0 ar c1 qs bf.out.h1 bf.out.n1 mem bC.out _ (bJ.out.fF.below (ah I av)) (bJ.out.dJ.below (ah I av))).mono ?_
 exact Rd
open Go.RowKit Go.G9
theorem yo {sp:Int} (h:(sp != 0)= false):(sp == 0)= true:=by rw [bne] at h;simpa using h
theorem xZ {sp:Int} (h:(sp != 0)= true):(sp == 0)= false:=by rw [bne] at h;simpa using h
theorem IV {rs:List aJ} {qs:List aL} (h:dD rs qs= true):lI rs qs= some (vX rs qs):=by rw [lI,if_pos h]
theorem TH {rs:List aJ} {qs:List aL} (h:jN rs qs= true):(vX rs qs).length < qs.length:=by
 obtain⟨j,q,bH,_⟩:=He h
 rw [vX,if_pos h,List.length_take];omega
theorem TG {rs:List aJ} {qs:List aL} (h:jN rs qs= false):¬(vX rs qs).length < qs.length:=by
 rw [vX,h];simp
theorem ZC (af ae sp:Int) (ws:List Int) (U:List aI) (val:Int):∃dv bV bY,jG ⟨af,ae,sp,ws,U⟩ val=⟨af,ae,dv,bV,bY⟩:=by
 unfold jG;split <;> exact⟨_,_,_,rfl⟩
theorem abA {p:Prop} (h:p:=by
 unfold gF tq;simp only [if_neg eB,if_neg cp,if_neg ed,if_neg hp,if_neg Dl,if_neg Dm,if_neg Dn,if_neg Dp,if_neg Dq]):p:=h
theorem akZ (an ar aj ak aA:Option Addr) (c0 c1 c2 c3 c4:Nat) (rs:List aJ) (qs:List aL) (af ae sp:Int) (ws:List Int) (U:List aI) (os:List Out) (Z:eC an ar aj ak aA c0 c1 c2 c3 c4 rs qs ws U os) (kind mem val yes no bx:Int) (h:gM ⟨rs,qs,af,ae,sp,ws,U,os⟩) (w:World) (R:ea w an ar aj ak aA rs qs ws U os):
 Calls Tryz.prog 103 #[.agg #[.slice an rs c0,.slice ar qs c1,af,ae,sp,.slice aj ws c2,.slice ak U c3,.slice aA os c4],.agg #[kind,mem,val,yes,no,bx]] w (ht (gF ⟨rs,qs,af,ae,sp,ws,U,os⟩ ⟨kind,mem,val,yes,no,bx⟩) w):=by
 have aO:dD rs qs= true:=h.hq
 by_cases eB:kind= 1
 ·subst eB
  refine alb an ar aj ak aA c0 c1 c2 c3 c4 rs qs af ae sp ws U os Z mem val yes no bx _ w R fun W aB=>?_
  have fq:=R.below aB
  unfold gF;rw [if_pos rfl];dsimp only
  cases aX:(sp != 0)
  ·rw [if_pos (yo aX)]
   cases aw:jO rs qs val mem with
   | none=>exact akx an ar aj ak aA c0 c1 c2 c3 c4 rs qs af ae sp ws U os Z mem val yes no bx aw aX W fq
   | some ps=>exact aky an ar aj ak aA c0 c1 c2 c3 c4 rs qs af ae sp ws U os Z mem val yes no bx ps aw aX W fq
  ·rw [if_neg (by rw [xZ aX];decide)]
   exact JI an ar aj ak aA c0 c1 c2 c3 c4 rs qs af ae sp ws U os Z 1 mem val yes no bx aX W fq
 by_cases cp:kind= 2
 ·subst cp
  have fq:=R
  generalize bI:w= W at *
  unfold gF;rw [if_neg (by decide:¬(2:Int)= 1)];rw [if_pos rfl];dsimp only
  cases aw:jX rs qs mem with
  | none=>exact alc an ar aj ak aA c0 c1 c2 c3 c4 rs qs af ae sp ws U os Z mem val yes no bx aw W fq
  | some ps=>exact ald an ar aj ak aA c0 c1 c2 c3 c4 rs qs af ae sp ws U os Z mem val yes no bx ps aw W fq
 by_cases Dn:kind= 7
 ·subst Dn
  refine ali an ar aj ak aA c0 c1 c2 c3 c4 rs qs af ae sp ws U os Z mem val yes no bx _ w R fun W aB=>?_
  have fq:=R.below aB
  unfold gF;rw [if_neg (by decide:¬(7:Int)= 1)];rw [if_neg (by decide:¬(7:Int)= 2)];rw [if_pos rfl];dsimp only
  cases aX:(sp != 0)
  ·rw [if_pos (yo aX)]
   cases aw:pw ⟨rs,qs,af,ae,sp,ws,U,os⟩ ⟨7,mem,val,yes,no,bx⟩ with
   | none=>exact akz an ar aj ak aA c0 c1 c2 c3 c4 rs qs af ae sp ws U os Z mem val yes no bx aX aw W fq
   | some n=>exact akA an ar aj ak aA c0 c1 c2 c3 c4 rs qs af ae sp ws U os Z mem val yes no bx aX n aw aO h.ol W fq
  ·rw [if_neg (by rw [xZ aX];decide)]
   exact JI an ar aj ak aA c0 c1 c2 c3 c4 rs qs af ae sp ws U os Z 7 mem val yes no bx aX W fq
 by_cases Dp:kind= 8
 ·subst Dp
  refine alj an ar aj ak aA c0 c1 c2 c3 c4 rs qs af ae sp ws U os Z mem val yes no bx _ w R fun W aB=>?_
  have fq:=R.below aB
  unfold gF;rw [if_neg (by decide:¬(8:Int)= 1)];rw [if_neg (by decide:¬(8:Int)= 2)];rw [if_neg (by decide:¬(8:Int)= 7)];rw [if_pos rfl];dsimp only
  cases aX:(sp != 0)
  ·rw [if_pos (yo aX)]
   cases aw:kz rs qs mem with
   | none=>exact akB an ar aj ak aA c0 c1 c2 c3 c4 rs qs af ae sp ws U os Z mem val yes no bx aw aX W fq
   | some ps=>exact akC an ar aj ak aA c0 c1 c2 c3 c4 rs qs af ae sp ws U os Z mem val yes no bx ps aw aX W fq
  ·rw [if_neg (by rw [xZ aX];decide)]
   exact JI an ar aj ak aA c0 c1 c2 c3 c4 rs qs af ae sp ws U os Z 8 mem val yes no bx aX W fq
 by_cases Dq:kind= 9
 ·subst Dq
  refine alk an ar aj ak aA c0 c1 c2 c3 c4 rs qs af ae sp ws U os Z mem val yes no bx _ w R fun W aB=>?_
  have fq:=R.below aB
  unfold gF;rw [if_neg (by decide:¬(9:Int)= 1)];rw [if_neg (by decide:¬(9:Int)= 2)];rw [if_neg (by decide:¬(9:Int)= 7)];rw [if_neg (by decide:¬(9:Int)= 8)];rw [if_pos rfl];dsimp only
  cases aX:(sp != 0)
  ·cases aS:jN rs qs
   ·rw [if_neg (by simp)]
    exact akD an ar aj ak aA c0 c1 c2 c3 c4 rs qs af ae sp ws U os Z mem val yes no bx _ (IV aO) aX (TG aS) W fq
   ·rw [if_pos (by rw [yo aX,aO];rfl)]
    exact akE an ar aj ak aA c0 c1 c2 c3 c4 rs qs af ae sp ws U os Z mem val yes no bx _ (IV aO) aX (TH aS) W fq
  ·rw [if_neg (by rw [xZ aX];simp)]
   exact JI an ar aj ak aA c0 c1 c2 c3 c4 rs qs af ae sp ws U os Z 9 mem val yes no bx aX W fq
 by_cases ed:kind= 3
 ·subst ed
  refine ale an ar aj ak aA c0 c1 c2 c3 c4 rs qs af ae sp ws U os Z mem val yes no bx _ w R fun W aB=>?_
  have fq:=R.below aB
  unfold gF;rw [if_neg (by decide:¬(3:Int)= 1)];rw [if_neg (by decide:¬(3:Int)= 2)];rw [if_neg (by decide:¬(3:Int)= 7)];rw [if_neg (by decide:¬(3:Int)= 8)];rw [if_neg (by decide:¬(3:Int)= 9)];unfold tq;rw [if_pos rfl];dsimp only
  cases aw:ob ⟨af,ae,sp,ws,U⟩ mem
  ·rw [if_neg (by simp only [cz.gD,aw,Bool.false_and];decide)]
   exact akJ an ar aj ak aA c0 c1 c2 c3 c4 rs qs af ae sp ws U os Z mem val yes no bx aw aO W fq
  ·cases bO:ho rs qs
   ·rw [if_neg (by simp only [bO,Bool.and_false];decide)]
    exact akI an ar aj ak aA c0 c1 c2 c3 c4 rs qs af ae sp ws U os Z mem val yes no bx aw bO aO W fq
   ·rw [if_pos (by simp only [cz.gD,aw,bO,Bool.and_self])]
    exact akK an ar aj ak aA c0 c1 c2 c3 c4 rs qs af ae sp ws U os Z mem val yes no bx _ _ _ aw rfl aO bO W fq
 by_cases hp:kind= 4
 ·subst hp
  refine alf an ar aj ak aA c0 c1 c2 c3 c4 rs qs af ae sp ws U os Z mem val yes no bx _ w R fun W aB=>?_
  have fq:=R.below aB
  unfold gF;rw [if_neg (by decide:¬(4:Int)= 1)];rw [if_neg (by decide:¬(4:Int)= 2)];rw [if_neg (by decide:¬(4:Int)= 7)];rw [if_neg (by decide:¬(4:Int)= 8)];rw [if_neg (by decide:¬(4:Int)= 9)];unfold tq;rw [if_neg (by decide:¬(4:Int)= 3)];rw [if_pos rfl];dsimp only
  cases aw:mT ⟨af,ae,sp,ws,U⟩
  ·rw [if_neg (by simp only [cz.gD,aw,Bool.false_and];decide)]
   exact akM an ar aj ak aA c0 c1 c2 c3 c4 rs qs af ae sp ws U os Z mem val yes no bx aw aO W fq
  ·cases bO:ho rs qs
   ·rw [if_neg (by simp only [bO,Bool.and_false];decide)]
    exact akL an ar aj ak aA c0 c1 c2 c3 c4 rs qs af ae sp ws U os Z mem val yes no bx aw bO aO W fq
   ·rw [if_pos (by simp only [cz.gD,aw,bO,Bool.and_self])]
    cases aZ:sM ⟨af,ae,sp,ws,U⟩ with
    | none=>exact absurd (Pv (f:=⟨af,ae,sp,ws,U⟩) (by simp only [mT,Bool.and_eq_true,decide_eq_true_eq] at aw;exact aw.2.2)) (by rw [aZ];simp)
    | some q=>
     simp only [cz.gD,aZ,Option.map_some]
     exact akN an ar aj ak aA c0 c1 c2 c3 c4 rs qs af ae sp ws U os Z mem val yes no bx q aZ _ _ _ aw rfl aO bO W fq
 by_cases Dl:kind= 5
 ·subst Dl
  refine alg an ar aj ak aA c0 c1 c2 c3 c4 rs qs af ae sp ws U os Z mem val yes no bx _ w R fun W aB=>?_
  have fq:=R.below aB
  unfold gF;rw [if_neg (by decide:¬(5:Int)= 1)];rw [if_neg (by decide:¬(5:Int)= 2)];rw [if_neg (by decide:¬(5:Int)= 7)];rw [if_neg (by decide:¬(5:Int)= 8)];rw [if_neg (by decide:¬(5:Int)= 9)];unfold tq;rw [if_neg (by decide:¬(5:Int)= 3)];rw [if_neg (by decide:¬(5:Int)= 4)];rw [if_pos rfl];dsimp only
  cases aw:oB ⟨af,ae,sp,ws,U⟩ val
  ·rw [if_neg (by simp only [cz.gD,aw,Bool.false_and];decide)]
   exact akP an ar aj ak aA c0 c1 c2 c3 c4 rs qs af ae sp ws U os Z mem val yes no bx aw aO W fq
  ·cases bO:ho rs qs
   ·rw [if_neg (by simp only [bO,Bool.and_false];decide)]
    exact akO an ar aj ak aA c0 c1 c2 c3 c4 rs qs af ae sp ws U os Z mem val yes no bx aw bO aO W fq
   ·rw [if_pos (by simp only [cz.gD,aw,bO,Bool.and_self])]
    obtain⟨dv,bV,bY,he⟩:=ZC af ae sp ws U val
    simp only [cz.gD,he]
    exact akQ an ar aj ak aA c0 c1 c2 c3 c4 rs qs af ae sp ws U os Z mem val yes no bx dv bV bY aw he aO bO W fq
 by_cases Dm:kind= 6
 ·subst Dm
  refine alh an ar aj ak aA c0 c1 c2 c3 c4 rs qs af ae sp ws U os Z mem val yes no bx _ w R fun W aB=>?_
  have fq:=R.below aB
  unfold gF;rw [if_neg (by decide:¬(6:Int)= 1)];rw [if_neg (by decide:¬(6:Int)= 2)];rw [if_neg (by decide:¬(6:Int)= 7)];rw [if_neg (by decide:¬(6:Int)= 8)];rw [if_neg (by decide:¬(6:Int)= 9)];unfold tq;rw [if_neg (by decide:¬(6:Int)= 3)];rw [if_neg (by decide:¬(6:Int)= 4)];rw [if_neg (by decide:¬(6:Int)= 5)];rw [if_pos rfl];dsimp only
  cases aw:mB ⟨af,ae,sp,ws,U⟩
  ·rw [if_neg (by simp only [cz.gD,aw,Bool.false_and];decide)]
   exact akS an ar aj ak aA c0 c1 c2 c3 c4 rs qs af ae sp ws U os Z mem val yes no bx aw aO W fq
  ·cases bO:ho rs qs
   ·rw [if_neg (by simp only [bO,Bool.and_false];decide)]
    exact akR an ar aj ak aA c0 c1 c2 c3 c4 rs qs af ae sp ws U os Z mem val yes no bx aw bO aO W fq
   ·rw [if_pos (by simp only [cz.gD,aw,bO,Bool.and_self])]
    exact akT an ar aj ak aA c0 c1 c2 c3 c4 rs qs af ae sp ws U os Z mem val yes no bx _ _ _ aw rfl aO bO W fq
 have e:gF ⟨rs,qs,af,ae,sp,ws,U,os⟩ ⟨kind,mem,val,yes,no,bx⟩ =none:=by
  exact abA
 rw [e]
 exact aln an ar aj ak aA c0 c1 c2 c3 c4 rs qs af ae sp ws U os Z kind mem val yes no bx (beq_eq_false_iff_ne.2 eB) (beq_eq_false_iff_ne.2 cp) (beq_eq_false_iff_ne.2 ed) (beq_eq_false_iff_ne.2 hp) (beq_eq_false_iff_ne.2 Dl) (beq_eq_false_iff_ne.2 Dm) (beq_eq_false_iff_ne.2 Dn) (beq_eq_false_iff_ne.2 Dp) (beq_eq_false_iff_ne.2 Dq) w R
theorem abR {p:Prop} (h:p:=by
 exact apu an ar aj ak aA c0 c1 c2 c3 c4 rs qs af ae sp ws U os Z mem val yes no bx bO aO W fq):p:=h
theorem apH (an ar aj ak aA:Option Addr) (c0 c1 c2 c3 c4:Nat) (rs:List aJ) (qs:List aL) (af ae sp:Int) (ws:List Int) (U:List aI) (os:List Out) (Z:eC an ar aj ak aA c0 c1 c2 c3 c4 rs qs ws U os) (kind mem val yes no bx:Int) (h:gM ⟨rs,qs,af,ae,sp,ws,U,os⟩) (w:World) (R:ea w an ar aj ak aA rs qs ws U os):
 Calls Tryz.prog 154 #[.agg #[.slice an rs c0,.slice ar qs c1,af,ae,sp,.slice aj ws c2,.slice ak U c3,.slice aA os c4],.agg #[kind,mem,val,yes,no,bx]] w (ht (gF ⟨rs,qs,af,ae,sp,ws,U,os⟩ ⟨kind,mem,val,yes,no,bx⟩) w):=by
 have aO:dD rs qs= true:=h.hq
 by_cases eB:kind= 1
 ·subst eB
  have fq:=R
  generalize bI:w= W at *
  unfold gF;rw [if_pos rfl];dsimp only
  cases aX:(sp != 0)
  ·rw [if_pos (yo aX)]
   cases aw:jO rs qs val mem with
   | none=>exact Zb an ar aj ak aA c0 c1 c2 c3 c4 rs qs af ae sp ws U os Z mem val yes no bx aw W fq
   | some ps=>exact apL an ar aj ak aA c0 c1 c2 c3 c4 rs qs af ae sp ws U os Z mem val yes no bx ps aw (yo aX) W fq
  ·rw [if_neg (by rw [xZ aX];decide)]
   cases aw:jO rs qs val mem with
   | none=>exact Zb an ar aj ak aA c0 c1 c2 c3 c4 rs qs af ae sp ws U os Z mem val yes no bx aw W fq
   | some ps=>exact apK an ar aj ak aA c0 c1 c2 c3 c4 rs qs af ae sp ws U os Z mem val yes no bx ps aw (xZ aX) W fq
 by_cases cp:kind= 2
 ·subst cp
  have fq:=R
  generalize bI:w= W at *
  unfold gF;rw [if_neg (by decide:¬(2:Int)= 1)];rw [if_pos rfl];dsimp only
  cases aw:jX rs qs mem with
  | none=>exact apM an ar aj ak aA c0 c1 c2 c3 c4 rs qs af ae sp ws U os Z mem val yes no bx aw W fq
  | some ps=>exact apN an ar aj ak aA c0 c1 c2 c3 c4 rs qs af ae sp ws U os Z mem val yes no bx ps aw W fq
 by_cases Dn:kind= 7
 ·subst Dn
  have fq:=R
  generalize bI:w= W at *
  unfold gF;rw [if_neg (by decide:¬(7:Int)= 1)];rw [if_neg (by decide:¬(7:Int)= 2)];rw [if_pos rfl];dsimp only
  cases aX:(sp != 0)
  ·rw [if_pos (yo aX)]
   cases aw:pw ⟨rs,qs,af,ae,sp,ws,U,os⟩ ⟨7,mem,val,yes,no,bx⟩ with
   | none=>exact Zc an ar aj ak aA c0 c1 c2 c3 c4 rs qs af ae sp ws U os Z mem val yes no bx (Or.inr aw) W fq
   | some n=>exact apO an ar aj ak aA c0 c1 c2 c3 c4 rs qs af ae sp ws U os Z mem val yes no bx aX n aw aO h.ol W fq
  ·rw [if_neg (by rw [xZ aX];decide)]
   exact Zc an ar aj ak aA c0 c1 c2 c3 c4 rs qs af ae sp ws U os Z mem val yes no bx (Or.inl (by simpa using aX)) W fq
 by_cases Dp:kind= 8
 ·subst Dp
  have fq:=R
  generalize bI:w= W at *
  unfold gF;rw [if_neg (by decide:¬(8:Int)= 1)];rw [if_neg (by decide:¬(8:Int)= 2)];rw [if_neg (by decide:¬(8:Int)= 7)];rw [if_pos rfl];dsimp only
  cases aX:(sp != 0)
  ·rw [if_pos (yo aX)]
   cases aw:kz rs qs mem with
   | none=>exact Zd an ar aj ak aA c0 c1 c2 c3 c4 rs qs af ae sp ws U os Z mem val yes no bx aw W fq
   | some ps=>exact apQ an ar aj ak aA c0 c1 c2 c3 c4 rs qs af ae sp ws U os Z mem val yes no bx ps aw (yo aX) W fq
  ·rw [if_neg (by rw [xZ aX];decide)]
   cases aw:kz rs qs mem with
   | none=>exact Zd an ar aj ak aA c0 c1 c2 c3 c4 rs qs af ae sp ws U os Z mem val yes no bx aw W fq
   | some ps=>exact apP an ar aj ak aA c0 c1 c2 c3 c4 rs qs af ae sp ws U os Z mem val yes no bx ps aw (xZ aX) W fq
 by_cases Dq:kind= 9
 ·subst Dq
  have fq:=R
  generalize bI:w= W at *
  unfold gF;rw [if_neg (by decide:¬(9:Int)= 1)];rw [if_neg (by decide:¬(9:Int)= 2)];rw [if_neg (by decide:¬(9:Int)= 7)];rw [if_neg (by decide:¬(9:Int)= 8)];rw [if_pos rfl];dsimp only
  cases aS:jN rs qs
  ·rw [if_neg (by simp)]
   exact apR an ar aj ak aA c0 c1 c2 c3 c4 rs qs af ae sp ws U os Z mem val yes no bx _ (IV aO) (TG aS) W fq
  ·have h0:sp= 0:=aqy h aS
   rw [if_pos (by rw [h0,aO];rfl)]
   exact apS an ar aj ak aA c0 c1 c2 c3 c4 rs qs af ae sp ws U os Z mem val yes no bx _ (IV aO) (TH aS) W fq
 by_cases ed:kind= 3
 ·subst ed
  refine HE an ar aj ak aA c0 c1 c2 c3 c4 rs qs af ae sp ws U os Z 3 mem val yes no bx (by decide) (by decide) (by decide) (by decide) (by decide) _ w R fun W aB=>?_
  have fq:=R.below aB
  unfold gF;rw [if_neg (by decide:¬(3:Int)= 1)];rw [if_neg (by decide:¬(3:Int)= 2)];rw [if_neg (by decide:¬(3:Int)= 7)];rw [if_neg (by decide:¬(3:Int)= 8)];rw [if_neg (by decide:¬(3:Int)= 9)];unfold tq;rw [if_pos rfl];dsimp only
  cases aw:ob ⟨af,ae,sp,ws,U⟩ mem
  ·rw [if_neg (by simp only [cz.gD,aw,Bool.false_and];decide)]
   cases bO:ho rs qs
   ·exact abR
   ·exact apv an ar aj ak aA c0 c1 c2 c3 c4 rs qs af ae sp ws U os Z mem val yes no bx aw bO aO W fq
  ·cases bO:ho rs qs
   ·rw [if_neg (by simp only [bO,Bool.and_false];decide)]
    exact abR
   ·rw [if_pos (by simp only [cz.gD,aw,bO,Bool.and_self])]
    exact apw an ar aj ak aA c0 c1 c2 c3 c4 rs qs af ae sp ws U os Z mem val yes no bx _ _ _ aw rfl aO bO W fq
 by_cases hp:kind= 4
 ·subst hp
  refine HE an ar aj ak aA c0 c1 c2 c3 c4 rs qs af ae sp ws U os Z 4 mem val yes no bx (by decide) (by decide) (by decide) (by decide) (by decide) _ w R fun W aB=>?_
  have fq:=R.below aB
  unfold gF;rw [if_neg (by decide:¬(4:Int)= 1)];rw [if_neg (by decide:¬(4:Int)= 2)];rw [if_neg (by decide:¬(4:Int)= 7)];rw [if_neg (by decide:¬(4:Int)= 8)];rw [if_neg (by decide:¬(4:Int)= 9)];unfold tq;rw [if_neg (by decide:¬(4:Int)= 3)];rw [if_pos rfl];dsimp only
  cases aw:mT ⟨af,ae,sp,ws,U⟩
  ·rw [if_neg (by simp only [cz.gD,aw,Bool.false_and];decide)]
   exact apx an ar aj ak aA c0 c1 c2 c3 c4 rs qs af ae sp ws U os Z mem val yes no bx aw aO W fq
  ·cases bO:ho rs qs
   ·rw [if_neg (by simp only [bO,Bool.and_false];decide)]
    exact absurd (agf h (by simp only [mT,Bool.and_eq_true,decide_eq_true_eq] at aw;exact aw.2.2)) (by show¬ho rs qs= true;rw [bO];decide)
   ·rw [if_pos (by simp only [cz.gD,aw,bO,Bool.and_self])]
    cases aZ:sM ⟨af,ae,sp,ws,U⟩ with
    | none=>exact absurd (Pv (f:=⟨af,ae,sp,ws,U⟩) (by simp only [mT,Bool.and_eq_true,decide_eq_true_eq] at aw;exact aw.2.2)) (by rw [aZ];simp)
    | some q=>
     simp only [cz.gD,aZ,Option.map_some]
     exact apy an ar aj ak aA c0 c1 c2 c3 c4 rs qs af ae sp ws U os Z mem val yes no bx q aZ _ _ _ aw rfl aO bO W fq
 by_cases Dl:kind= 5
 ·subst Dl
  refine HE an ar aj ak aA c0 c1 c2 c3 c4 rs qs af ae sp ws U os Z 5 mem val yes no bx (by decide) (by decide) (by decide) (by decide) (by decide) _ w R fun W aB=>?_
  have fq:=R.below aB
  unfold gF;rw [if_neg (by decide:¬(5:Int)= 1)];rw [if_neg (by decide:¬(5:Int)= 2)];rw [if_neg (by decide:¬(5:Int)= 7)];rw [if_neg (by decide:¬(5:Int)= 8)];rw [if_neg (by decide:¬(5:Int)= 9)];unfold tq;rw [if_neg (by decide:¬(5:Int)= 3)];rw [if_neg (by decide:¬(5:Int)= 4)];rw [if_pos rfl];dsimp only
  cases aw:oB ⟨af,ae,sp,ws,U⟩ val
  ·rw [if_neg (by simp only [cz.gD,aw,Bool.false_and];decide)]
   exact apz an ar aj ak aA c0 c1 c2 c3 c4 rs qs af ae sp ws U os Z mem val yes no bx aw aO W fq
  ·cases bO:ho rs qs
   ·rw [if_neg (by simp only [bO,Bool.and_false];decide)]
    exact absurd (TF h (HH aw).2.1) (by show¬ho rs qs= true;rw [bO];decide)
   ·rw [if_pos (by simp only [cz.gD,aw,bO,Bool.and_self])]
    obtain⟨dv,bV,bY,he⟩:=ZC af ae sp ws U val
    simp only [cz.gD,he]
    exact apA an ar aj ak aA c0 c1 c2 c3 c4 rs qs af ae sp ws U os Z mem val yes no bx dv bV bY aw he aO bO W fq
 by_cases Dm:kind= 6
 ·subst Dm
  refine HE an ar aj ak aA c0 c1 c2 c3 c4 rs qs af ae sp ws U os Z 6 mem val yes no bx (by decide) (by decide) (by decide) (by decide) (by decide) _ w R fun W aB=>?_
  have fq:=R.below aB
  unfold gF;rw [if_neg (by decide:¬(6:Int)= 1)];rw [if_neg (by decide:¬(6:Int)= 2)];rw [if_neg (by decide:¬(6:Int)= 7)];rw [if_neg (by decide:¬(6:Int)= 8)];rw [if_neg (by decide:¬(6:Int)= 9)];unfold tq;rw [if_neg (by decide:¬(6:Int)= 3)];rw [if_neg (by decide:¬(6:Int)= 4)];rw [if_neg (by decide:¬(6:Int)= 5)];rw [if_pos rfl];dsimp only
  cases aw:mB ⟨af,ae,sp,ws,U⟩
  ·rw [if_neg (by simp only [cz.gD,aw,Bool.false_and];decide)]
   exact apB an ar aj ak aA c0 c1 c2 c3 c4 rs qs af ae sp ws U os Z mem val yes no bx aw aO W fq
  ·cases bO:ho rs qs
   ·rw [if_neg (by simp only [bO,Bool.and_false];decide)]
    exact absurd (TF h (by simp only [mB,Bool.and_eq_true,Bool.not_eq_true',beq_eq_false_iff_ne] at aw;exact aw.2)) (by show¬ho rs qs= true;rw [bO];decide)
   ·rw [if_pos (by simp only [cz.gD,aw,bO,Bool.and_self])]
    exact apC an ar aj ak aA c0 c1 c2 c3 c4 rs qs af ae sp ws U os Z mem val yes no bx _ _ _ aw rfl aO bO W fq
 have e:gF ⟨rs,qs,af,ae,sp,ws,U,os⟩ ⟨kind,mem,val,yes,no,bx⟩ =none:=by
  exact abA
 rw [e]
 refine HE an ar aj ak aA c0 c1 c2 c3 c4 rs qs af ae sp ws U os Z kind mem val yes no bx (beq_eq_false_iff_ne.2 eB) (beq_eq_false_iff_ne.2 cp) (beq_eq_false_iff_ne.2 Dn) (beq_eq_false_iff_ne.2 Dp) (beq_eq_false_iff_ne.2 Dq) none w R fun W aB=>?_
 exact apD an ar aj ak aA c0 c1 c2 c3 c4 rs qs af ae sp ws U os Z kind mem val yes no bx (beq_eq_false_iff_ne.2 ed) (beq_eq_false_iff_ne.2 hp) (beq_eq_false_iff_ne.2 Dl) (beq_eq_false_iff_ne.2 Dm) aO W (R.below aB)
open Go.RowKit Go.G9
structure fv where
 br:List aJ
 bD:List aL
 cZ:Int
 cQ:Int
 dH:Int
 bE:List Int
 bK:List aI
 bt:List Out
 eJ:ByteArray
 eR:ByteArray
 ec:Int
def fv.kI (c:fv):cz:=⟨c.br,c.bD,c.cZ,c.cQ,c.dH,c.bE,c.bK,c.bt⟩
def cz.Tf (m:cz) (d p:ByteArray) (n:Int):fv:=⟨m.br,m.bD,m.cZ,m.cQ,m.dH,m.bE,m.bK,m.bt,d,p,n⟩
theorem agC (d p:ByteArray) (n:Int) (w:World):Calls Tryz.prog 83 #[.agg #[d,p,n],.agg #[d,p,n]] w fun e ag=>e= .returned true∧Below w w ag:=by
 go_in
 go_wp2
 go_ret
 exact⟨rfl,xf _ _ _⟩
theorem IZ (x:fv) (an ar aj ak aA cq cK bg bn ct:Option Addr) (c0 c1 c2 c3 c4 d0 d1 d2 d3 d4:Nat) (h0:x.br.length≤1048576) (h1:x.bD.length≤1048576) (h2:x.bE.length≤1048576) (h3:x.bK.length≤1048576) (h4:x.bt.length≤1048576) (w:World) (aU:aH 7 aJ.cells w an x.br) (aT:aH 3 aL.cells w ar x.bD) (bj:aH 1 bR w aj x.bE) (bh:aH 3 aI.cells w ak x.bK) (bU:aH 3 Out.cells w aA x.bt) (nw:aH 7 aJ.cells w cq x.br) (lR:aH 3 aL.cells w cK x.bD) (jS:aH 1 bR w bg x.bE) (jT:aH 3 aI.cells w bn x.bK) (lk:aH 3 Out.cells w ct x.bt):
 Calls Tryz.prog 38 #[.agg #[.slice an x.br c0,.slice ar x.bD c1,x.cZ,x.cQ,x.dH,.slice aj x.bE c2,.slice ak x.bK c3,.slice aA x.bt c4,x.eJ,x.eR,x.ec],.agg #[.slice cq x.br d0,.slice cK x.bD d1,x.cZ,x.cQ,x.dH,.slice bg x.bE d2,.slice bn x.bK d3,.slice ct x.bt d4,x.eJ,x.eR,x.ec]] w fun e ag=>e= .returned true∧Below w w ag:=by
 go_in
 go_upto_region 1 with fail
 refine fm fun aF au aR bm=>?_
 replace aU:=aU.below au;replace aT:=aT.below au;replace bj:=bj.below au;replace bh:=bh.below au;replace bU:=bU.below au;replace nw:=nw.below au;replace lR:=lR.below au;replace jS:=jS.below au;replace jT:=jT.below au;replace lk:=lk.below au;have I:=au;have a':=aR.bM;have cL:=bm.bM;have DT:=aR.lt;have aas:=bm.lt
 go_wp2_with fail
 refine (agE x.kI an ar aj ak aA cq cK bg bn ct c0 c1 c2 c3 c4 d0 d1 d2 d3 d4 h0 h1 h2 h3 h4 _ (aU.below av) (aT.below av) (bj.below av) (bh.below av) (bU.below av) (nw.below av) (lR.below av) (jS.below av) (jT.below av) (lk.below av)).mono ?_
 rintro e aM ⟨rfl,aN⟩
 have ao:=be aF aN;replace I:=ah I ao;replace aU:=aU.below ao;replace aT:=aT.below ao;replace bj:=bj.below ao;replace bh:=bh.below ao;replace bU:=bU.below ao;replace nw:=nw.below ao;replace lR:=lR.below ao;replace jS:=jS.below ao;replace jT:=jT.below ao;replace lk:=lk.below ao;replace aR:=aR.to ao;clear a';have a':=aR.bM;replace bm:=bm.to ao
 clear cL;have cL:=bm.bM;have DT:=aR.lt;have aas:=bm.lt
 go_wp2_with fail
 refine (agC x.eJ x.eR x.ec _).mono ?_
 rintro e bB ⟨rfl,bG⟩
 have aK:=be aM bG;replace I:=ah I aK;replace aU:=aU.below aK;replace aT:=aT.below aK;replace bj:=bj.below aK;replace bh:=bh.below aK;replace bU:=bU.below aK;replace nw:=nw.below aK;replace lR:=lR.below aK;replace jS:=jS.below aK;replace jT:=jT.below aK;replace lk:=lk.below aK;replace aR:=aR.to aK;clear a';have a':=aR.bM;replace bm:=bm.to aK
 clear cL;have cL:=bm.bM;have DT:=aR.lt;have aas:=bm.lt
 go_wp2
 go_ret
 exact⟨rfl,(ah I av)⟩
theorem aqP (d p:ByteArray) (n:Int) (bO:d.size≤maxLen) (aO:p.size≤maxLen) (l:Int) (h0:0≤l) (h1:l≤1048576) (w:World):
 Calls Tryz.prog 10 #[.agg #[d,p,n],l] w fun e ag=>∃q:Int,e= .returned q∧-1≤q∧q≤l∧(q < 0∨d.size + p.size≤l)∧Below w w ag:=by
 unfold maxLen at bO aO
 go_in
 go_wp2
 all_goals go_ret
 all_goals exact⟨_,rfl,by omega,by omega,by omega,bZ _ _⟩
theorem aqM (x:fv) (an ar aj ak aA:Option Addr) (c0 c1 c2 c3 c4:Nat) (h0:x.br.length≤maxLen) (h1:x.bD.length≤maxLen) (h2:x.bE.length≤maxLen) (h3:x.bK.length≤maxLen) (h4:x.bt.length≤maxLen) (iU:x.eJ.size≤maxLen) (s1:x.eR.size≤maxLen) (l:Int) (js:0≤l) (jo:l≤1048576) (w:World) (aU:aH 7 aJ.cells w an x.br):
 Calls Tryz.prog 35 #[.agg #[.slice an x.br c0,.slice ar x.bD c1,x.cZ,x.cQ,x.dH,.slice aj x.bE c2,.slice ak x.bK c3,.slice aA x.bt c4,x.eJ,x.eR,x.ec],l] w fun e ag=>∃r:Int,e= .returned r∧-1≤r∧r≤l∧(r < 0∨x.br.length≤1048576∧x.bD.length≤1048576∧x.bE.length≤1048576∧x.bK.length≤1048576∧x.bt.length≤1048576∧x.eJ.size + x.eR.size≤1048576)∧Below w w ag:=by
 go_in
 go_upto_region 1 with fail
 refine cR fun aF au aR=>?_
 replace aU:=aU.below au;have I:=au;have a':=aR.bM;have DT:=aR.lt
 go_wp2_with fail
 refine (aqR x.kI an ar aj ak aA c0 c1 c2 c3 c4 h0 h1 h2 h3 h4 l js jo _ (aU.below av)).mono ?_
 rintro e aM ⟨dJ,rfl,dd,kQ,z0,aN⟩
 have ao:=be aF aN;replace I:=ah I ao;replace aU:=aU.below ao;replace aR:=aR.to ao;clear a';have a':=aR.bM;have arY:=J z0;clear z0;have DT:=aR.lt
 by_cases n0:dJ < 0
 ·go_wp2
  go_ret
  exact⟨_,rfl,by omega,by omega,.inl (by omega),(ah I av)⟩
 go_wp2_with fail
 refine (aqP x.eJ x.eR x.ec iU s1 dJ (by omega) (by omega) _).mono ?_
 rintro e bB ⟨r2,rfl,dV,ym,bw,bG⟩
 have aK:=be aM bG;replace I:=ah I aK;replace aU:=aU.below aK;replace aR:=aR.to aK;clear a';have a':=aR.bM;have arX:=J bw;clear bw;have DT:=aR.lt
 by_cases n1:r2 < 0
 ·go_wp2
  go_ret
  exact⟨_,rfl,by omega,by omega,.inl (by omega),(ah I av)⟩
 go_wp2
 go_ret
 have z0:=arY.out;have bw:=arX.out
 rcases z0 with z0 | ⟨eb,dx,dz,eu,fo⟩
 ·omega
 ·exact⟨_,rfl,by omega,by omega,.inr ⟨eb,dx,dz,eu,fo,by omega⟩,(ah I av)⟩
theorem are (d p:ByteArray) (n:Int) (w:World):Calls Tryz.prog 13 #[.agg #[d,p,n]] w fun e ag=>e= .returned (.agg #[d,p,n])∧Below w w ag:=by
 go_in
 go_wp2
 exact bodyPost_ret (v:= .agg #[d,p,n]) (by simp [results,Tryz.results13,go_sem]) rfl ⟨rfl,Ms _ _ _ _⟩
theorem arh (x:fv) (an ar aj ak aA:Option Addr) (c0 c1 c2 c3 c4:Nat) (h0:x.br.length≤1048576) (h1:x.bD.length≤1048576) (h2:x.bE.length≤1048576) (h3:x.bK.length≤1048576) (h4:x.bt.length≤1048576) (w:World) (aU:aH 7 aJ.cells w an x.br) (aT:aH 3 aL.cells w ar x.bD) (bj:aH 1 bR w aj x.bE) (bh:aH 3 aI.cells w ak x.bK) (bU:aH 3 Out.cells w aA x.bt):
 Calls Tryz.prog 81 #[.agg #[.slice an x.br c0,.slice ar x.bD c1,x.cZ,x.cQ,x.dH,.slice aj x.bE c2,.slice ak x.bK c3,.slice aA x.bt c4]] w fun e ag=>∃ny ee fi fA gv,e= .returned (.agg #[.slice ny x.br x.br,.slice ee x.bD x.bD,x.cZ,x.cQ,x.dH,.slice fi x.bE x.bE,.slice fA x.bK x.bK,.slice gv x.bt x.bt])∧aV w 89 7 aJ.cells ag (.slice ny x.br x.br) x.br∧aV w 115 3 aL.cells ag (.slice ee x.bD x.bD) x.bD∧aV w 3 1 bR ag (.slice fi x.bE x.bE) x.bE∧aV w 214 3 aI.cells ag (.slice fA x.bK x.bK) x.bK∧aV w 163 3 Out.cells ag (.slice gv x.bt x.bt) x.bt∧qy [.slice ny x.br x.br,.slice ee x.bD x.bD,.slice fi x.bE x.bE,.slice fA x.bK x.bK,.slice gv x.bt x.bt]∧Below w w ag:=
 ari x.kI an ar aj ak aA c0 c1 c2 c3 c4 h0 h1 h2 h3 h4 w aU aT bj bh bU
theorem XH {yv yw Ea Eb Ec:Nat} (x:fv) (an ar aj ak aA:Option Addr) (c0 c1 c2 c3 c4:Nat) (h0:x.br.length≤1048576) (h1:x.bD.length≤1048576) (h2:x.bE.length≤1048576) (h3:x.bK.length≤1048576) (h4:x.bt.length≤1048576) (m:Int) (g0:0 < m) (g1:m≤9000000) (w:World) (ch:aV yv 89 7 aJ.cells w (.slice an x.br c0) x.br) (cm:aV yw 115 3 aL.cells w (.slice ar x.bD c1) x.bD) (bA:aV Ea 3 1 bR w (.slice aj x.bE c2) x.bE) (bq:aV Eb 214 3 aI.cells w (.slice ak x.bK c3) x.bK) (cv:aV Ec 163 3 Out.cells w (.slice aA x.bt c4) x.bt) (ap:qy [.slice an x.br c0,.slice ar x.bD c1,.slice aj x.bE c2,.slice ak x.bK c3,.slice aA x.bt c4]):
 Calls Tryz.prog 39 #[.agg #[.slice an x.br c0,.slice ar x.bD c1,x.cZ,x.cQ,x.dH,.slice aj x.bE c2,.slice ak x.bK c3,.slice aA x.bt c4,x.eJ,x.eR,x.ec],m] w fun e ag=>e= .returned (.int .i64 (m + 7 * (x.br.length:Int) + 3 * (x.bD.length:Int) + (x.bE.length:Int) + 3 * (x.bK.length:Int) + 3 * (x.bt.length:Int)))∧aV yv 89 7 wA ag (.slice an x.br c0) (fE (m) 7 x.br.length)∧aV yw 115 3 wz ag (.slice ar x.bD c1) (fE (m + 7 * (x.br.length:Int)) 3 x.bD.length)∧aV Ea 3 1 tJ ag (.slice aj x.bE c2) (fE (m + 7 * (x.br.length:Int) + 3 * (x.bD.length:Int)) 1 x.bE.length)∧aV Eb 214 3 tK ag (.slice ak x.bK c3) (fE (m + 7 * (x.br.length:Int) + 3 * (x.bD.length:Int) + (x.bE.length:Int)) 3 x.bK.length)∧aV Ec 163 3 wy ag (.slice aA x.bt c4) (fE (m + 7 * (x.br.length:Int) + 3 * (x.bD.length:Int) + (x.bE.length:Int) + 3 * (x.bK.length:Int)) 3 x.bt.length)∧oV w ag [.slice an x.br c0,.slice ar x.bD c1,.slice aj x.bE c2,.slice ak x.bK c3,.slice aA x.bt c4]:=by
 go_in
 replace ch:=ch.alloc (.cells #[.slice an x.br c0,.slice ar x.bD c1,x.cZ,x.cQ,x.dH,.slice aj x.bE c2,.slice ak x.bK c3,.slice aA x.bt c4,x.eJ,x.eR,x.ec] 46);replace cm:=cm.alloc (.cells #[.slice an x.br c0,.slice ar x.bD c1,x.cZ,x.cQ,x.dH,.slice aj x.bE c2,.slice ak x.bK c3,.slice aA x.bt c4,x.eJ,x.eR,x.ec] 46)
 replace bA:=bA.alloc (.cells #[.slice an x.br c0,.slice ar x.bD c1,x.cZ,x.cQ,x.dH,.slice aj x.bE c2,.slice ak x.bK c3,.slice aA x.bt c4,x.eJ,x.eR,x.ec] 46);replace bq:=bq.alloc (.cells #[.slice an x.br c0,.slice ar x.bD c1,x.cZ,x.cQ,x.dH,.slice aj x.bE c2,.slice ak x.bK c3,.slice aA x.bt c4,x.eJ,x.eR,x.ec] 46)
 replace cv:=cv.alloc (.cells #[.slice an x.br c0,.slice ar x.bD c1,x.cZ,x.cQ,x.dH,.slice aj x.bE c2,.slice ak x.bK c3,.slice aA x.bt c4,x.eJ,x.eR,x.ec] 46)
 go_wp2_with fail
 refine (anf x.kI an ar aj ak aA c0 c1 c2 c3 c4 h0 h1 h2 h3 h4 m g0 g1 _ ch cm bA bq cv ap).mono ?_
 rintro e bd ⟨rfl,si,xa,M2,EH,LY,hO⟩
 go_wp2
 go_ret
 exact⟨rfl,si,xa,M2,EH,LY,(oV.Px (vs:=[]) (bZ w _)).trans hO⟩
theorem Vl (x:fv) (an ar aj ak aA:Option Addr) (c0 c1 c2 c3 c4:Nat) (h0:x.br.length≤1048576) (h1:x.bD.length≤1048576) (h2:x.bE.length≤1048576) (h3:x.bK.length≤1048576) (h4:x.bt.length≤1048576) (m:Int) (g0:0 < m) (g1:m≤9000000) (w:World) (aU:aH 7 wA w an (fE (m) 7 x.br.length)) (aT:aH 3 wz w ar (fE (m + 7 * (x.br.length:Int)) 3 x.bD.length)) (bj:aH 1 tJ w aj (fE (m + 7 * (x.br.length:Int) + 3 * (x.bD.length:Int)) 1 x.bE.length)) (bh:aH 3 tK w ak (fE (m + 7 * (x.br.length:Int) + 3 * (x.bD.length:Int) + (x.bE.length:Int)) 3 x.bK.length)) (bU:aH 3 wy w aA (fE (m + 7 * (x.br.length:Int) + 3 * (x.bD.length:Int) + (x.bE.length:Int) + 3 * (x.bK.length:Int)) 3 x.bt.length)):
 Calls Tryz.prog 42 #[.agg #[.slice an x.br c0,.slice ar x.bD c1,x.cZ,x.cQ,x.dH,.slice aj x.bE c2,.slice ak x.bK c3,.slice aA x.bt c4,x.eJ,x.eR,x.ec],m] w fun e ag=>e= .returned (.int .i64 (m + 7 * (x.br.length:Int) + 3 * (x.bD.length:Int) + (x.bE.length:Int) + 3 * (x.bK.length:Int) + 3 * (x.bt.length:Int)))∧Below w w ag:=by
 go_in
 go_wp2_with fail
 refine (aiS x.kI an ar aj ak aA c0 c1 c2 c3 c4 h0 h1 h2 h3 h4 m g0 g1 _ (aU.below av) (aT.below av) (bj.below av) (bh.below av) (bU.below av)).mono ?_
 rintro e bd ⟨rfl,bz⟩
 have au:=be w bz;have I:Below w w bd:=au;replace aU:=aU.below au;replace aT:=aT.below au;replace bj:=bj.below au;replace bh:=bh.below au;replace bU:=bU.below au
 go_wp2
 go_ret
 exact⟨rfl,(ah I av)⟩
end Go.Proofs.YtlaaemmmbodaaaaGreatDoor
namespace Go.G9
open Go.ChangeShapes Go.WideShapes Go.ChangeAt Go.RowKit Go.Deep
section
variable {H:Type} {enc:TypeId×Value→H} {P:Program}
theorem ZV (aS:laidOutB P= true) {W eE:World} (aB:Below W W eE):∀{gS:List TypeId} {vs:List Value} {qM:List (DataW H)} {ps:List MemPlace},
  (∀t ∈ gS,P.readableRec t= true∧t < P.types.size)→(∀x ∈ ps,x.block < W.heap.size)→DataW.TrodAll enc P W 0 (fun _=>true) true gS vs qM ps→
  DataW.TrodAll enc P eE 0 (fun b=>decide (b < W.heap.size)) true gS vs qM ps
 | [],[],[],_,_,_,h=>h
 | t ::gS,v ::vs,d ::qM,ps,cE,bl,h=>by
  obtain⟨p,q,h1,h2,e⟩:=h
  have We:=cE t (List.mem_cons.2 (Or.inl rfl))
  exact⟨p,q,Below.trod aS We.1 We.2 h1 aB (fun x ay=>bl x (by rw [e];exact List.mem_append_left _ ay)),
   ZV aS aB (fun fl du=>cE fl (List.mem_cons.2 (Or.inr du))) (fun x ay=>bl x (by rw [e];exact List.mem_append_right _ ay)) h2,e⟩
 | [],[],_ ::_,_,_,_,h=>h.elim
 | [],_ ::_,_,_,_,_,h=>h.elim
 | _ ::_,[],_,_,_,_,h=>h.elim
 | _ ::_,_ ::_,[],_,_,_,h=>h.elim
theorem ZW {w:World} {base:Nat} {sp:Nat→Bool} {bO:Bool}:∀{gS:List TypeId} {vs:List Value} {qM:List (DataW H)} {ps:List MemPlace},DataW.TrodAll enc P w base sp bO gS vs qM ps→qM.length= gS.length
 | [],[],[],_,_=>rfl
 | _ ::_,_ ::_,_ ::_,_,h=>by obtain⟨_,_,_,h2,_⟩:=h;simp [ZW h2]
 | [],[],_ ::_,_,h=>h.elim
 | [],_ ::_,_,_,h=>h.elim
 | _ ::_,[],_,_,h=>h.elim
 | _ ::_,_ ::_,[],_,h=>h.elim
variable {w:World} {base:Nat} {sp:Nat→Bool} {bO:Bool}
theorem Ks {fs:Array Field} {xs:List (DataW H×List MemPlace)} {n:Nat} {cs:List Value} (hlen:xs.length= fs.size)
  (cw:∀(i:Nat) (f:Field),fs[i]? =some f→DataW.trod enc P w base sp bO n f.type ((cs.drop f.offset).take (P.cellsOf f.type))= xs[i]?) (i:Nat) (f:Field) (hf:fs[i]? =some f):
  ∃y,DataW.trod enc P w base sp bO n f.type ((cs.drop f.offset).take (P.cellsOf f.type))= some y:=by
 have hi:i < xs.length:=by have:=(Array.getElem?_eq_some_iff.1 hf).1;omega
 exact⟨xs[i],(cw i f hf).trans (List.getElem?_eq_getElem hi)⟩
theorem zz {k:Nat} {fs:Array Field} {xs:List (DataW H×List MemPlace)} {n:Nat} {cs:List Value} (hlen:xs.length= fs.size)
  (cw:∀(i:Nat) (f:Field),fs[i]? =some f→DataW.trod enc P w base sp bO n f.type ((cs.drop f.offset).take (P.cellsOf f.type))= xs[i]?) (i:Nat) (f:Field) (hf:fs[i]? =some f)
  (az:P.cellsOf f.type= k):∃y,DataW.trod enc P w base sp bO n f.type ((cs.drop f.offset).take k)= some y:=by
 obtain⟨y,h⟩:=Ks hlen cw i f hf
 rw [az] at h
 exact⟨y,h⟩
theorem rY {k:IntKind} {fs:Array Field} {xs:List (DataW H×List MemPlace)} {n:Nat} {cs:List Value} (hlen:xs.length= fs.size)
  (cw:∀(i:Nat) (f:Field),fs[i]? =some f→DataW.trod enc P w base sp bO n f.type ((cs.drop f.offset).take (P.cellsOf f.type))= xs[i]?) (i:Nat) (f:Field) (hf:fs[i]? =some f)
  (hu:P.underlying f.type= some (.int k)) (h1:P.cellsOf f.type= 1):∃m:Int,(cs.drop f.offset).take 1= [.int k m]:=by
 obtain⟨_,h⟩:=Ks hlen cw i f hf
 rw [h1] at h
 obtain⟨m,e,_,_⟩:=DataW.trod_int hu h
 exact⟨m,e⟩
theorem PS {fs:Array Field} {xs:List (DataW H×List MemPlace)} {n:Nat} {cs:List Value} (hlen:xs.length= fs.size)
  (cw:∀(i:Nat) (f:Field),fs[i]? =some f→DataW.trod enc P w base sp bO n f.type ((cs.drop f.offset).take (P.cellsOf f.type))= xs[i]?) (i:Nat) (f:Field) (hf:fs[i]? =some f)
  (hu:P.underlying f.type= some .string) (h1:P.cellsOf f.type= 1):∃s:ByteArray,(cs.drop f.offset).take 1= [.string s]∧s.size≤maxLen:=by
 obtain⟨_,h⟩:=Ks hlen cw i f hf
 rw [h1] at h
 obtain⟨m,e,_,hm⟩:=DataW.trod_string hu h
 exact⟨m,e,hm⟩
theorem Hy {fs:Array Field} {xs:List (DataW H×List MemPlace)} {n:Nat} {cs:List Value} (hlen:xs.length= fs.size)
  (cw:∀(i:Nat) (f:Field),fs[i]? =some f→DataW.trod enc P w base sp bO n f.type ((cs.drop f.offset).take (P.cellsOf f.type))= xs[i]?) (i:Nat) (f:Field) (hf:fs[i]? =some f)
  (hu:P.underlying f.type= some .bool) (h1:P.cellsOf f.type= 1):∃b:Bool,(cs.drop f.offset).take 1= [.bool b]:=by
 obtain⟨_,h⟩:=Ks hlen cw i f hf
 rw [h1] at h
 obtain⟨m,e,_⟩:=DataW.trod_bool hu h
 exact⟨m,e⟩
theorem aqC {w:World} {a:Addr} {v:Value} (h:w.cell? a= some v):a.spot= none:=by
 unfold World.cell? at h
 split at h
 ·split at h
  ·cases h
  ·rename_i aX;simpa using aX
 ·cases h
theorem Hz {T:Type} (f:T→List Value) (sz:Nat) (eZ:0 < sz) {t e:TypeId} (cE:P.underlying t= some (.slice e)) (eU:P.cellsOf e= sz)
  (ajc:∀fuel cs x,DataW.trod enc P w base sp bO fuel e cs= some x→∃y:T,cs= f y) {fuel:Nat} {cs:List Value} {x:DataW H×List MemPlace} (h:DataW.trod enc P w base sp bO fuel t cs= some x):
  ∃(A:Option Addr) (c:Nat) (xs:List T),cs= [.slice A xs c]∧xs.length≤maxLen∧aH sz f w A xs∧(A= none→xs= []∧c= 0):=by
 rcases open_slice cE h with ⟨rfl,_⟩ | ⟨a,len,cap,m,n,D,asj,rfl,_,VK,kq,hm,_,hi⟩
 ·exact⟨none,0,[],rfl,by simp,aH.nil,fun _=>⟨rfl,rfl⟩⟩
 ·have hle:len≤m:=by rw [hm];split <;> omega
  have hex:∀i,i < len→∃y:T,w.cells? base (a.add (i * sz)) sz= some (f y):=fun i atD=>by
   obtain⟨uC,iy,ajZ⟩:=hi i (by omega)
   obtain⟨y,rfl⟩:=ajc _ _ _ ajZ
   exact⟨y,by rw [eU] at iy;exact iy⟩
  have lY:∀k,k≤len→∃l:List T,l.length= k∧∀i y,l[i]? =some y→w.cells? base (a.add (i * sz)) sz= some (f y):=by
   intro k
   induction k with
   | zero=>intro _;exact⟨[],rfl,by simp⟩
   | succ k eM=>
    intro az
    obtain⟨l,zh,VK⟩:=eM (by omega)
    obtain⟨y,hy⟩:=hex k (by omega)
    refine⟨l ++ [y],by simp [zh],fun i z cc=>?_⟩
    rw [List.getElem?_append] at cc
    split at cc
    ·exact VK i z cc
    ·have h0:i= k:=by have:=(List.getElem?_eq_some_iff.1 cc).1;simp at this;omega
     subst h0
     rw [zh] at cc;simp at cc;subst cc;exact hy
  obtain⟨l,zh,Ve⟩:=lY len (Nat.le_refl _)
  refine⟨some a,cap,l,by rw [zh],by omega,fun aY=>?_,fun h=>by cases h⟩
  have SP:∀i y,l[i]? =some y→∀j u,(f y)[j]? =some u→w.cell? ((a.add (i * sz)).add j)= some u:=fun i y hy j u hu=>by
   obtain⟨_,jK,Jn⟩:=World.cells?_some (Ve i y hy)
   have bH:j < sz:=by rw [← jK];exact (List.getElem?_eq_some_iff.1 hu).1
   rw [Jn j bH];exact hu
  obtain⟨kQ,JE⟩ :∃y,l[0]? =some y:=⟨_,List.getElem?_eq_getElem aY⟩
  obtain⟨_,atv,_⟩:=World.cells?_some (Ve 0 kQ JE)
  have aka:(f kQ)[0]? =some ((f kQ)[0]'(by omega)):=List.getElem?_eq_getElem _;have c0:=SP 0 kQ JE 0 _ aka
  rw [Nat.zero_mul,show (a.add 0).add 0= a from by simp [Addr.add]] at c0
  have aX:=aqC c0
  obtain⟨b,off,spot⟩:=a
  simp only at aX;subst aX
  refine⟨b,off,rfl,World.block_lt_of_cell? w _ c0,fun i x ay j u hu=>?_⟩
  have:=SP i x ay j u hu
  rw [add_add] at this
  rw [← this]
  congr 1
  unfold Addr.add
  split <;> simp_all [Nat.add_assoc]
theorem afj {cs:Array Value} {l:List Value} (h:cs.toList= l):Value.agg cs= .agg l.toArray:=by rw [← h]
end
end Go.G9
namespace Go.Proofs.YtlaaemmmbodaaaaGreatDoor
open Go.RowKit Go.G9
def Bv (s:ByteArray) (c:UInt8):Bool:=s.data.toList.any (· == c)
theorem indexByte_ge (c:UInt8):∀l:List UInt8,-1≤Lib.indexByte l c∧(decide (0≤Lib.indexByte l c))= l.any (· == c)
 | []=>by simp [Lib.indexByte]
 | b ::l=>by
  have eM:=indexByte_ge c l
  unfold Lib.indexByte
  by_cases h:b == c
  ·simp [h]
  ·by_cases h2:Lib.indexByte l c= -1
   ·have:=eM.2;rw [h2] at this;simp [h,h2] at this ⊢;exact this
   ·have h3:0≤Lib.indexByte l c:=by omega
    have:=eM.2
    simp [h,h2,h3] at this ⊢
    refine⟨by omega,?_⟩
    simp [show (0:Int)≤Lib.indexByte l c + 1 from by omega]
    exact this
def oT (c:UInt8):Bool:=decide (32≤c.toNat) && (decide (c.toNat≤126) && !(c == 35))
def jt (s:ByteArray):Bool:=s.data.toList.all oT
theorem Yp (s:ByteArray) (k:Nat) (h:k < s.size):(s.data.toList.take (k+1)).all oT= ((s.data.toList.take k).all oT && oT s[k]):=by
 rw [List.take_succ_eq_append_getElem (by simpa using h),List.all_append];simp;rfl
theorem Kn (s:ByteArray) (k:Nat) (h:k < s.size) (h1:oT s[k]= false):jt s= false:=by
 have:jt s= ((s.data.toList.take (k+1)).all oT && (s.data.toList.drop (k+1)).all oT):=by
  unfold jt;rw [← List.all_append,List.take_append_drop]
 rw [this,Yp s k h,h1];simp
def lM (c r:ByteArray):Bool:=fc c.size 1 160 && (decide (r.size≤200) && (jt c && (jt r && !Bv c 64)))
theorem YY (s:ByteArray) (c:UInt8) (w:World):Calls Tryz.prog 246 #[s,.string ⟨#[c]⟩] w fun e ag=>e= .returned (.int .i64 (Lib.indexByte s.data.toList c))∧ag= w:=by
 have atC:∀W,(callFunc 317 #[s,.int .u8 (((⟨#[c]⟩ :ByteArray)[0]'(Nat.zero_lt_one)).toNat:Int)]).run Tryz.prog W= .ok (.value (.int .i64 (Lib.indexByte s.data.toList c))) W:=fun W=>by
  rw [run_callFunc_indexByte Tryz.func317 (by kernel_rfl) (by kernel_rfl) (by kernel_rfl) (by kernel_rfl),Lib.run_indexByteString]
  simp [Result.andThen];rfl
 by_cases h:([c] == s.toList)= true
 ·have cX:=J (beq_iff_eq.1 h)
  go_in
  go_wp2
  go_ret
  have e:s.data.toList= [c]:=(ByteArray.toList_eq s).symm.trans cX.out.symm
  exact⟨by rw [e];simp [Lib.indexByte],rfl⟩
 ·have du:([c] == s.toList)= false:=by simpa using h
  clear h
  go_in
  go_wp2
  go_ret
  exact⟨rfl,rfl⟩
theorem Tn (s:ByteArray) (c:UInt8) (v:Bool) (aw:Bv s c= v) (w:World):Calls Tryz.prog 98 #[s,.string ⟨#[c]⟩] w fun e ag=>e= .returned v∧ag= w:=by
 subst aw
 have cw:=(indexByte_ge c s.data.toList).2;have hO:=J cw;clear cw
 go_in
 go_wp2_with (first | (go_at_call 246;refine (YY s c _).mono ?_;rintro e ag ⟨rfl,rfl⟩) | go_in)
 go_ret
 exact⟨ek hO.out,rfl⟩
theorem acj {p:Prop} (h:p:=by
 go_wp2
 go_ret
 exact⟨ek (Kn s k bl (by simp [oT];omega)).symm,rfl⟩):p:=h
theorem aaT {p:Prop} (h:p:=by
 go_round
 case rel=>exact⟨k + 1,by omega,by go_num,by rw [Yp s k bl,cH.out];simp [oT,← UInt8.toNat_inj];omega⟩
 case measure=>simp [intOf];omega):p:=h
theorem abl {p:Prop} (h:p:=by
 obtain rfl:k= s.size:=by omega
 go_wp2
 go_ret
 have:=cH.out
 rw [List.take_of_length_le (by simp)] at this
 exact⟨ek this.symm,rfl⟩):p:=h
theorem GX (s:ByteArray) (aX:s.size≤maxLen) (v:Bool) (aw:jt s= v) (w:World):Calls Tryz.prog 97 #[s] w fun e ag=>e= .returned v∧ag= w:=by
 subst aw
 unfold maxLen at aX
 go_in
 go_wp2
 go_loop [3] (fun i=>∃k:Nat,k≤s.size∧i= .int .i64 k∧(s.data.toList.take k).all oT= true) (fun i=>s.size - (intOf i).toNat)
 case atStart=>exact⟨0,Nat.zero_le _,rfl,rfl⟩
 case round=>
  obtain⟨k,az,rfl,aS⟩:=hrel
  have cH:=J aS;clear aS
  by_cases bl:k < s.size
  ·by_cases h1:s[k].toNat < 32
   ·exact acj
   ·by_cases h2:126 < s[k].toNat
    ·exact acj
    ·by_cases h3:s[k].toNat= 35
     ·have sx:(((s[k].toNat:Nat):Int) == 35)= true:=by rw [h3];rfl
      have hv:=J h3;clear h3
      go_wp2
      go_ret
      exact⟨ek (Kn s k bl (by have:=hv.out;simp [oT,← UInt8.toNat_inj,this])).symm,rfl⟩
     ·have sx:(((s[k].toNat:Nat):Int) == 35)= false:=beq_eq_false_iff_ne.2 (by omega)
      go_wp2
      exact aaT
  ·exact abl
theorem JO (s:ByteArray) (m:Int) (aX:s.size≤maxLen) (v:Bool) (aw:(jt s && decide (s.size≤m))= v) (w:World):Calls Tryz.prog 108 #[s,m] w fun e ag=>e= .returned v∧ag= w:=by
 subst aw
 unfold maxLen at aX
 go_in
 go_wp2
 go_loop [5] (fun i=>∃k:Nat,k≤s.size∧i= .int .i64 k∧(s.data.toList.take k).all oT= true) (fun i=>s.size - (intOf i).toNat)
 case atStart=>exact⟨0,Nat.zero_le _,rfl,rfl⟩
 case round=>
  obtain⟨k,az,rfl,aS⟩:=hrel
  have cH:=J aS;clear aS
  by_cases bl:k < s.size
  ·have h256:s[k].toNat < 256:=UInt8.toNat_lt _
   cases h1:fc (s[k].toNat:Int) 32 126
   ·go_wp2_with (go_at_call 186;refine (jF _ _ _ _ h1 _).mono ?_;rintro e ag ⟨rfl,rfl⟩)
    go_ret
    exact⟨ek (by rw [Kn s k bl (by simp [oT,fc] at h1 ⊢;omega)];rfl),rfl⟩
   ·have qh:=rM.1 h1
    by_cases h3:s[k].toNat= 35
    ·have sx:(((s[k].toNat:Nat):Int) == 35)= true:=by rw [h3];rfl
     have hv:=J h3;clear h3
     go_wp2_with (go_at_call 186;refine (jF _ _ _ _ h1 _).mono ?_;rintro e ag ⟨rfl,rfl⟩)
     go_ret
     exact⟨ek (by rw [Kn s k bl (by have:=hv.out;simp [oT,← UInt8.toNat_inj,this])];rfl),rfl⟩
    ·have sx:(((s[k].toNat:Nat):Int) == 35)= false:=beq_eq_false_iff_ne.2 (by omega)
     go_wp2_with (go_at_call 186;refine (jF _ _ _ _ h1 _).mono ?_;rintro e ag ⟨rfl,rfl⟩)
     exact aaT
  ·obtain rfl:k= s.size:=by omega
   go_wp2
   go_ret
   have:=cH.out
   rw [List.take_of_length_le (by simp)] at this
   exact⟨ek (by rw [show jt s= true from this];simp),rfl⟩
theorem Xa (s:ByteArray) (c:UInt8) (aX:s.size≤maxLen) (v:Bool) (aw:Bv s c= v) (w:World):Calls Tryz.prog 109 #[s,.int .u8 (c.toNat:Int)] w fun e ag=>e= .returned v∧ag= w:=by
 subst aw
 unfold maxLen at aX
 go_in
 go_wp2
 go_loop [5] (fun i=>∃k:Nat,k≤s.size∧i= .int .i64 k∧(s.data.toList.take k).any (· == c)= false) (fun i=>s.size - (intOf i).toNat)
 case atStart=>exact⟨0,Nat.zero_le _,rfl,rfl⟩
 case round=>
  obtain⟨k,az,rfl,aS⟩:=hrel
  have cH:=J aS;clear aS
  by_cases bl:k < s.size
  ·by_cases h3:s[k]= c
   ·have sx:((s[k].toNat:Int) == (c.toNat:Int))= true:=by rw [h3];simp
    have hv:=J h3;clear h3
    go_wp2
    go_ret
    exact⟨ek (Eq.symm (List.any_eq_true.2 ⟨s[k],by exact List.getElem_mem (l:=s.data.toList) (by simpa using bl),by simp [hv.out]⟩)),rfl⟩
   ·have sx:((s[k].toNat:Int) == (c.toNat:Int))= false:=beq_eq_false_iff_ne.2 (fun h=>h3 (UInt8.toNat_inj.1 (by omega)))
    go_wp2
    go_round
    case rel=>exact⟨k + 1,by omega,by go_num,by rw [List.take_succ_eq_append_getElem (by simpa using bl),List.any_append,cH.out];simp;exact h3⟩
    case measure=>simp [intOf];omega
  ·exact abl
theorem acg {p:Prop} (h:p:=by
 rintro e ag ⟨rfl,rfl⟩
 go_wp2
 go_ret
 exact⟨ek (by simp [lM,h4]),bZ _ _⟩):p:=h
theorem xP (c r:ByteArray) (aE:c.size≤1048576) (bu:r.size≤1048576) (v:Bool) (aw:lM c r= v) (w:World):Calls Tryz.prog 55 #[.agg #[c,r]] w fun e ag=>e= .returned v∧Below w w ag:=by
 subst aw
 have rI:c.size≤maxLen:=by unfold maxLen;omega
 have pg:r.size≤maxLen:=by unfold maxLen;omega
 cases h1:fc (c.size:Int) 1 160
 ·go_in
  go_wp2_with (go_at_call 79;refine (jj _ _ _ _ h1 _).mono ?_;rintro e ag ⟨rfl,rfl⟩)
  go_ret
  exact⟨ek (by simp [lM,h1]),bZ _ _⟩
 by_cases h2:r.size≤200
 ·cases h3:jt c
  ·go_in
   go_wp2_with (first | (go_at_call 79;refine (jj _ _ _ _ h1 _).mono ?_;rintro e ag ⟨rfl,rfl⟩) | (go_at_call 97;refine (GX c rI _ h3 _).mono ?_;rintro e ag ⟨rfl,rfl⟩))
   go_ret
   exact⟨ek (by simp [lM,h3]),bZ _ _⟩
  cases h4:jt r
  ·go_in
   go_wp2_with fail
   refine (jj _ _ _ _ h1 _).mono ?_
   rintro e ag ⟨rfl,rfl⟩
   go_wp2_with fail
   refine (GX c rI _ h3 _).mono ?_
   rintro e ag ⟨rfl,rfl⟩
   go_wp2_with fail
   refine (GX r pg _ h4 _).mono ?_
   exact acg
  ·go_in
   go_wp2_with fail
   refine (jj _ _ _ _ h1 _).mono ?_
   rintro e ag ⟨rfl,rfl⟩
   go_wp2_with fail
   refine (GX c rI _ h3 _).mono ?_
   rintro e ag ⟨rfl,rfl⟩
   go_wp2_with fail
   refine (GX r pg _ h4 _).mono ?_
   rintro e ag ⟨rfl,rfl⟩
   go_wp2_with fail
   refine (Tn c 64 _ rfl _).mono ?_
   rintro e ag ⟨rfl,rfl⟩
   go_wp2
   go_ret
   exact⟨ek (by simp [lM,h1,h2,h3,h4]),bZ _ _⟩
 ·go_in
  go_wp2_with (go_at_call 79;refine (jj _ _ _ _ h1 _).mono ?_;rintro e ag ⟨rfl,rfl⟩)
  go_ret
  exact⟨ek (by simp [lM,h2]),bZ _ _⟩
theorem AX (c r:ByteArray) (aE:c.size≤1048576) (bu:r.size≤1048576) (v:Bool) (aw:lM c r= v) (w:World):Calls Tryz.prog 60 #[.agg #[c,r]] w fun e ag=>e= .returned v∧Below w w ag:=by
 subst aw
 have rI:c.size≤maxLen:=by unfold maxLen;omega
 have pg:r.size≤maxLen:=by unfold maxLen;omega
 by_cases h0:c.size= 0
 ·have Nb:c.toList.isEmpty= true:=by rw [ByteArray.toList_eq];exact List.isEmpty_iff.2 (List.length_eq_zero_iff.1 (by rw [Array.length_toList];exact h0))
  have ahR:c.toList= []:=by simpa using Nb
  have vJ:=J h0;clear h0
  go_in
  go_wp2
  go_ret
  exact⟨ek (by simp [lM,fc,vJ.out]),bZ _ _⟩
 ·have Nb:c.toList.isEmpty= false:=by rw [ByteArray.toList_eq];cases h:c.data.toList with
   | nil=>exfalso;apply h0;have:=congrArg List.length h;rw [Array.length_toList] at this;exact this
   | cons _ _=>rfl
  have ahR:(!c.toList.isEmpty)= true:=by rw [Nb];rfl
  cases h3:jt c && decide ((c.size:Int)≤160)
  ·go_in
   go_wp2_with (go_at_call 108;refine (JO c 160 rI _ h3 _).mono ?_;rintro e ag ⟨rfl,rfl⟩)
   go_ret
   exact⟨ek (by simp only [Bool.and_eq_false_iff,decide_eq_false_iff_not] at h3;rcases h3 with h3 | h3 <;> simp [lM,fc,h3] <;> omega),bZ _ _⟩
  cases h4:Bv c 64
  ·go_in
   go_wp2_with fail
   refine (JO c 160 rI _ h3 _).mono ?_
   rintro e ag ⟨rfl,rfl⟩
   go_wp2_with fail
   refine (Xa c 64 rI _ h4 _).mono ?_
   rintro e ag ⟨rfl,rfl⟩
   go_wp2_with fail
   refine (JO r 200 pg _ rfl _).mono ?_
   rintro e ag ⟨rfl,rfl⟩
   go_wp2
   go_ret
   simp only [Bool.and_eq_true,decide_eq_true_eq] at h3
   have e1:fc (c.size:Int) 1 160= true:=rM.2 (by omega)
   exact⟨ek (by cases aO:jt r <;> simp [lM,e1,h3.1,h4,aO] <;> omega),bZ _ _⟩
  ·go_in
   go_wp2_with fail
   refine (JO c 160 rI _ h3 _).mono ?_
   rintro e ag ⟨rfl,rfl⟩
   go_wp2_with fail
   refine (Xa c 64 rI _ h4 _).mono ?_
   exact acg
end Go.Proofs.YtlaaemmmbodaaaaGreatDoor
namespace Go.G9
open Go.RowKit
abbrev cr:=List UInt8
def bs (l:cr):ByteArray:=⟨l.toArray⟩
theorem vV (l:cr):(bs l).data.toList= l:=by simp [bs]
theorem Fp (s:ByteArray):bs s.data.toList= s:=yI (vV _)
theorem fY (l:cr):(bs l).size= l.length:=by show l.toArray.size= _;simp
theorem pb (a b:cr):bs a ++ bs b= bs (a ++ b):=yI (by simp [bs])
theorem SV {a b:cr} (h:bs a= bs b):a= b:=by have:=congrArg (fun s:ByteArray=>s.data.toList) h;simpa [vV] using this
def cP (c:UInt8) (l:cr):cr:=l.takeWhile (fun x=>!(x == c))
def gn (c:UInt8) (l:cr):cr:=(l.dropWhile (fun x=>!(x == c))).drop 1
theorem Fl {c:UInt8} {a b:cr} (h:c ∉ a):cP c (a ++ c ::b)= a:=by
 unfold cP
 rw [List.takeWhile_append_of_pos (fun x ay=>by simp;rintro rfl;exact h ay)]
 simp
theorem SI {c:UInt8} {a b:cr} (h:c ∉ a):gn c (a ++ c ::b)= b:=by
 unfold gn
 rw [List.dropWhile_append_of_pos (fun x ay=>by simp;rintro rfl;exact h ay)]
 simp
theorem IL {c:UInt8}:∀{a:cr},c ∉ a→cP c a= a
 | [],_=>rfl
 | x ::a,h=>by
  simp only [List.mem_cons,not_or] at h
  have eM:=IL h.2
  unfold cP at eM ⊢
  have ay:(!(x == c))= true:=by simp;exact fun e=>h.1 e.symm
  simp [ay,eM]
theorem SK {c:UInt8}:∀{a:cr},c ∉ a→gn c a= []
 | [],_=>rfl
 | x ::a,h=>by
  simp only [List.mem_cons,not_or] at h
  have eM:=SK h.2
  unfold gn at eM ⊢
  have ay:(!(x == c))= true:=by simp;exact fun e=>h.1 e.symm
  simp [ay]
  simpa using eM
theorem SR {c:UInt8}:∀(a:cr),c ∉ cP c a
 | []=>by simp [cP]
 | x ::a=>by
  have eM:=SR (c:=c) a
  unfold cP at eM ⊢
  by_cases ay:x= c
  ·simp [ay]
  ·simp [ay,eM,Ne.symm ay]
theorem Qm {c:UInt8}:∀{l:cr},c ∈ l→l= cP c l ++ c ::gn c l
 | [],h=>by simp at h
 | x ::l,h=>by
  by_cases ay:x= c
  ·subst ay;simp [cP,gn]
  ·have aS:c ∈ l:=by simpa [Ne.symm ay] using h
   have eM:=Qm aS
   have e1:cP c (x ::l)= x ::cP c l:=by simp [cP,ay]
   have e2:gn c (x ::l)= gn c l:=by simp [gn,ay]
   rw [e1,e2,List.cons_append,← eM]
theorem Co (c:UInt8) (l:cr):(cP c l).length≤l.length:=by
 unfold cP;exact (List.takeWhile_sublist _).length_le
theorem SJ (c:UInt8) (l:cr):(gn c l).length≤l.length:=by
 unfold gn;exact (List.Sublist.trans (List.drop_sublist _ _) (List.dropWhile_sublist _)).length_le
def ji (c:UInt8) (l:cr):Bool:=l.contains c
theorem CS {c:UInt8} {l:cr}:ji c l= true↔c ∈ l:=List.contains_iff_mem
theorem Gb {c:UInt8} {l:cr}:ji c l= false↔c ∉ l:=by rw [← Bool.not_eq_true,CS]
def pr (l:cr):Nat:=l.foldl (fun h c=>(41 * h + c.toNat + 1) % 999979) 7
def rQ (n:Int):cr:=Lib.itoa n
def yh (l:cr):cr:=l ++ 35 ::rQ (pr l)
def od (k:Int) (c r:cr):cr:=rQ k ++ 32 ::(c ++ 64 ::r)
def fp (k:Int) (c r:cr):cr:=yh (od k c r)
theorem KE (l:cr):pr l < 999979:=by
 unfold pr
 have:∀(l:cr) (h:Nat),h < 999979→l.foldl (fun h c=>(41 * h + c.toNat + 1) % 999979) h < 999979:=by
  intro l
  induction l with
  | nil=>intro h dQ;exact dQ
  | cons c l eM=>intro h _;exact eM _ (Nat.mod_lt _ (by omega))
 exact this l 7 (by omega)
theorem agi (u:Nat):∀x ∈ Lib.decDigits u,48≤x.toNat∧x.toNat≤57:=by
 induction u using Nat.strongRecOn with
 | _ u eM=>
  intro x ay
  rw [Lib.decDigits] at ay
  split at ay
  ·simp at ay;subst ay
   rename_i h
   simp;omega
  ·rw [List.mem_append] at ay
   rcases ay with ay | ay
   ·exact eM (u / 10) (by omega) x ay
   ·simp at ay;subst ay
    simp;omega
theorem Pt {n:Int} (h:0≤n):rQ n= Lib.decDigits n.toNat:=by unfold rQ Lib.itoa;rw [if_neg (by omega)]
theorem Kk {n:Int} (h:0≤n) {c:UInt8} (aE:c.toNat < 48):c ∉ rQ n:=by
 rw [Pt h]
 intro hm
 have:=agi _ _ hm
 omega
theorem anw {n:Int} (h:0≤n) (h2:n < 1000000):(rQ n).length≤6:=by
 rw [Pt h];exact xT 5 _ (by omega)
theorem Ya {n:Int} (h:0≤n) (h2:n < 100):(rQ n).length≤2:=by
 rw [Pt h];exact xT 1 _ (by omega)
end Go.G9
namespace Go.Proofs.YtlaaemmmbodaaaaGreatDoor
open Go.RowKit Go.G9
def kK (c r:cr):Bool:=lM (bs c) (bs r)
theorem Dy {c r:cr} (h:kK c r= true):1≤c.length∧c.length≤160∧r.length≤200∧(35:UInt8) ∉ c∧(35:UInt8) ∉ r∧(64:UInt8) ∉ c∧(10:UInt8) ∉ c∧(10:UInt8) ∉ r:=by
 simp only [kK,lM,fc,jt,Bv,vV,fY,Bool.and_eq_true,decide_eq_true_eq,Bool.not_eq_true',List.all_eq_true,List.any_eq_false] at h
 obtain⟨⟨h1,h2⟩,h3,h4,h5,h6⟩:=h
 have aO:∀x,oT x= true→x≠35∧x≠10:=by
  intro x ay
  constructor
  ·rintro rfl;simp [oT] at ay
  ·rintro rfl;revert ay;decide
 refine⟨by omega,by omega,by omega,fun hm=>(aO _ (h4 _ hm)).1 rfl,fun hm=>(aO _ (h5 _ hm)).1 rfl,fun hm=>by have:=h6 _ hm;simp at this,fun hm=>(aO _ (h4 _ hm)).2 rfl,fun hm=>(aO _ (h5 _ hm)).2 rfl⟩
theorem IM {k:Int} (az:0≤k) {c r:cr} (h:kK c r= true):(35:UInt8) ∉ od k c r∧(10:UInt8) ∉ fp k c r∧cP 35 (fp k c r)= od k c r∧gn 32 (od k c r)= c ++ 64 ::r∧cP 64 (c ++ 64 ::r)= c∧gn 64 (c ++ 64 ::r)= r:=by
 obtain⟨_,_,_,h1,h2,h3,h4,h5⟩:=Dy h
 have n35:=Kk az (c:=35) (by decide);have n32:=Kk az (c:=32) (by decide);have n10:=Kk az (c:=10) (by decide)
 have aB:(35:UInt8) ∉ od k c r:=by
  unfold od;simp [n35,h1,h2]
 have apa:=Kk (n:=(pr (od k c r):Nat)) (by omega) (c:=10) (by decide)
 refine⟨aB,?_,?_,?_,Fl h3,SI h3⟩
 ·unfold fp yh
  simp only [List.mem_append,List.mem_cons,not_or]
  refine⟨?_,by decide,apa⟩
  unfold od;simp [n10,h4,h5]
 ·unfold fp yh;exact Fl aB
 ·unfold od;exact SI n32
theorem Dt {k:Int} (az:0≤k) (lJ:k < 100) {c r:cr} (h:kK c r= true):(fp k c r).length≤371:=by
 obtain⟨h1,h2,h3,_⟩:=Dy h
 have a:=Ya az lJ;have b:=anw (n:=(pr (od k c r):Nat)) (by omega) (by have:=KE (od k c r);omega)
 unfold fp yh
 simp only [List.length_append,List.length_cons]
 unfold od
 simp only [List.length_append,List.length_cons]
 unfold od at b
 omega
def sP (line:cr) (k:Nat):Option (cr×cr):=
 let rest:=gn 32 (cP 35 line)
 if kK (cP 64 rest) (gn 64 rest) && decide (fp k (cP 64 rest) (gn 64 rest)= line) then some (cP 64 rest,gn 64 rest) else none
def vo (line:cr) (k:Nat):Option (cr×cr):=
 let text:=cP 35 line;let ahead:=rQ k ++ [32]
 if text.take ahead.length= ahead then
  let rest:=text.drop ahead.length;let ask:=cP 64 rest
  if ask.length= rest.length then none
  else if kK ask (rest.drop (ask.length + 1)) && decide (fp k ask (rest.drop (ask.length + 1))= line) then some (ask,rest.drop (ask.length + 1)) else none
 else none
theorem aaJ {p:Prop} (h:p:=by
 split at h
 ·rename_i aE
  simp only [Bool.and_eq_true,decide_eq_true_eq] at aE
  simp only [Option.some.injEq,Prod.mk.injEq] at h
  obtain⟨rfl,rfl⟩:=h
  exact⟨aE.1,aE.2.symm⟩
 ·cases h):p:=h
theorem YD {line:cr} {k:Nat} {c r:cr} (h:sP line k= some (c,r)):kK c r= true∧line= fp k c r:=by
 unfold sP at h
 simp only at h
 exact aaJ
theorem aom {line:cr} {k:Nat} {c r:cr} (h:vo line k= some (c,r)):kK c r= true∧line= fp k c r:=by
 unfold vo at h
 simp only at h
 split at h
 ·split at h
  ·cases h
  ·exact aaJ
 ·cases h
theorem YC {k:Nat} {c r:cr} (h:kK c r= true):sP (fp k c r) k= some (c,r):=by
 obtain⟨_,_,h1,h2,h3,h4⟩:=IM (k:=(k:Int)) (by omega) h
 unfold sP
 simp only [h1,h2,h3,h4,h,decide_true,Bool.and_self,if_true]
theorem aol {k:Nat} {c r:cr} (h:kK c r= true):vo (fp k c r) k= some (c,r):=by
 obtain⟨_,_,h1,_,h3,_⟩:=IM (k:=(k:Int)) (by omega) h
 have e1:od k c r= (rQ k ++ [32]) ++ (c ++ 64 ::r):=by simp [od]
 unfold vo
 simp only [h1]
 rw [e1,List.take_left' rfl,if_pos rfl,List.drop_left' rfl,h3,if_neg (by simp)]
 have e2:(c ++ 64 ::r).drop (c.length + 1)= r:=by rw [List.drop_append];simp
 rw [e2,h]
 simp
theorem YG (line:cr) (k:Nat):vo line k= sP line k:=by
 cases h:sP line k with
 | some x=>
  obtain⟨c,r⟩:=x
  obtain⟨h1,rfl⟩:=YD h
  exact aol h1
 | none=>
  cases h2:vo line k with
  | none=>rfl
  | some x=>
   obtain⟨c,r⟩:=x
   obtain⟨h3,rfl⟩:=aom h2
   rw [YC h3] at h;cases h
def jc (l:cr) (k:Nat):Option (cr×cr×Nat):=
 if ji 10 l && decide (k < 60) then (sP (cP 10 l) k).map fun x=>(x.1,x.2,(cP 10 l).length + 1) else none
theorem Hu {l:cr} {k:Nat} {c r:cr} {n:Nat} (h:jc l k= some (c,r,n)):k < 60∧kK c r= true∧n= (fp k c r).length + 1∧l= fp k c r ++ 10 ::gn 10 l:=by
 unfold jc at h
 split at h
 ·rename_i aE
  simp only [Bool.and_eq_true,decide_eq_true_eq,CS] at aE
  cases ay:sP (cP 10 l) k with
  | none=>rw [ay] at h;cases h
  | some x=>
   obtain⟨cM,fT⟩:=x
   rw [ay] at h
   simp only [Option.map_some,Option.some.injEq,Prod.mk.injEq] at h
   obtain⟨rfl,rfl,rfl⟩:=h
   obtain⟨h1,h2⟩:=YD ay
   refine⟨aE.2,h1,by rw [h2],?_⟩
   have:=Qm aE.1
   rw [h2] at this
   exact this
 ·cases h
theorem Yv {k:Nat} (az:k < 60) {c r t:cr} (h:kK c r= true):jc (fp k c r ++ 10 ::t) k= some (c,r,(fp k c r).length + 1):=by
 have aY:=(IM (k:=(k:Int)) (by omega) h).2.1
 unfold jc
 rw [Fl aY,YC h,if_pos (by simp [az,CS])]
 rfl
theorem DG {l:cr} {k:Nat} {c r:cr} {n:Nat} (h:jc l k= some (c,r,n)):n≤l.length∧1≤n∧n≤372:=by
 obtain⟨h0,h1,rfl,h2⟩:=Hu h
 have:=Dt (k:=(k:Int)) (by omega) (by omega) h1
 refine⟨?_,by omega,by omega⟩
 have e:=congrArg List.length h2
 simp at e;omega
def iI:Nat→Nat→cr→Nat→List (cr×cr×Nat)
 | 0,_,_,_=>[]
 | f + 1,k,l,a=>match jc l k with
  | none=>[]
  | some (c,r,n)=>(c,r,a + n) ::iI f (k + 1) (l.drop n) (a + n)
def hW (l:cr):List (cr×cr×Nat):=iI 61 0 l 0
end Go.Proofs.YtlaaemmmbodaaaaGreatDoor
namespace Go.G9
open Go.RowKit
theorem WE (c:UInt8) (l:cr):-1≤Lib.indexByte l c:=(Go.Proofs.YtlaaemmmbodaaaaGreatDoor.indexByte_ge c l).1
theorem WH {c:UInt8}:∀(l:cr),0≤Lib.indexByte l c→∃i:Nat,Lib.indexByte l c= i∧i < l.length∧cP c l= l.take i∧gn c l= l.drop (i + 1)
 | [],h=>by simp [Lib.indexByte] at h
 | b ::l,h=>by
  unfold Lib.indexByte at h ⊢
  by_cases aB:b == c
  ·refine⟨0,by simp [aB],by simp,?_,?_⟩
   ·simp [cP,aB]
   ·simp [gn,aB]
  ·by_cases h2:Lib.indexByte l c= -1
   ·simp [aB,h2] at h
   ·have h3:-1≤Lib.indexByte l c:=WE c l
    obtain⟨i,e,hi,e1,e2⟩:=WH (c:=c) l (by omega)
    refine⟨i + 1,by simp [aB,h2];omega,by simp;omega,?_,?_⟩
    ·have:cP c (b ::l)= b ::cP c l:=by simp [cP,aB]
     rw [this,e1];simp
    ·have:gn c (b ::l)= gn c l:=by simp [gn,aB]
     rw [this,e2];simp
theorem WG {c:UInt8}:∀(l:cr),Lib.indexByte l c < 0→c ∉ l
 | [],_=>by simp
 | b ::l,h=>by
  unfold Lib.indexByte at h
  by_cases aB:b == c
  ·simp [aB] at h
  ·have h3:=WE c l
   by_cases h2:Lib.indexByte l c= -1
   ·have:=WG (c:=c) l (by omega)
    simp at aB
    simp [this,Ne.symm aB]
   ·simp [aB,h2] at h;omega
theorem vU (l:cr) (a b:Nat):(bs l).extract a b= bs ((l.drop a).take (b - a)):=yI (by
 rw [vV]
 show ((⟨l.toArray⟩ :ByteArray).extract a b).data.toList= _
 simp [ByteArray.extract,ByteArray.copySlice,List.take_drop])
end Go.G9
namespace Go.Proofs.YtlaaemmmbodaaaaGreatDoor
open Go.RowKit Go.G9
theorem YZ (l:cr) (c:UInt8) (w:World):Calls Tryz.prog 246 #[.string (bs l),.string ⟨#[c]⟩] w fun e ag=>e= .returned (.int .i64 (Lib.indexByte l c))∧ag= w:=by
 have:=YY (bs l) c w
 rwa [vV] at this
theorem apo (l:cr) (c:UInt8) (aS:l.length≤1073741824) (w:World):Calls Tryz.prog 273 #[.string (bs l),.string ⟨#[c]⟩] w fun e ag=>e= .returned (.tuple #[.string (bs (cP c l)),.string (bs (gn c l)),.bool (ji c l)])∧Below w w ag:=by
 by_cases aE:0≤Lib.indexByte l c
 ·obtain⟨i,e,bl,e1,e2⟩:=WH (c:=c) l aE
  have hm:ji c l= true:=by
   rw [CS]
   refine Classical.byContradiction fun aY=>?_
   have:=IL aY
   rw [e1] at this
   have:=congrArg List.length this
   simp at this;omega
  have dV:(bs l).extract 0 i= bs (cP c l):=by rw [vU,e1];simp
  have dT:(bs l).extract (i + 1) (bs l).size= bs (gn c l):=by rw [vU,e2,fY,List.take_of_length_le (by simp)]
  have dR:=J hm;have ee:=J dV;have fi:=J dT;clear hm e1 e2 dV dT
  have hi:∀W,Calls Tryz.prog 246 #[.string (bs l),.string ⟨#[c]⟩] W fun e ag=>e= .returned i∧ag= W:=fun W=>by
   have:=YZ l c W
   rwa [e] at this
  have hP:=J hi;clear hi e aE;have aX:=fY l
  have xG:i≤(bs l).size:=by omega
  have Df:i + 1≤(bs l).size:=by omega
  have ajR:(bs l).size≤1073741824:=by omega
  clear aX;have hw:IntKind.i64.wrap ((i:Int) + 1)= (i:Int) + 1:=IntWalk.i64_in _ (by omega)
  go_in
  go_wp2_with fail
  refine (hP.out _).mono ?_
  rintro e _ ⟨rfl,rfl⟩
  go_wp2
  refine ew (by kernel_rfl) (by kernel_rfl) ?_
  repeat (go_big_quiet_step ((fail)))
  refine wpQuiet_nil ?_
  intro K
  go_wp2
  go_ret3
  exact⟨by rw [dR.out,← ee.out,← fi.out];rfl,K.below⟩
 ·have aY:=WG (c:=c) l (by omega)
  have hm:ji c l= false:=Gb.2 aY;have dV:=IL aY;have dT:=SK aY;have dR:=J hm;have ee:=J dV;have fi:=J dT;clear hm dV dT aY
  have Om:Lib.indexByte l c < 0:=by omega
  clear aE
  go_in
  go_wp2_with fail
  refine (YZ l c _).mono ?_
  rintro e _ ⟨rfl,rfl⟩
  go_wp2
  go_ret3
  exact⟨by rw [dR.out,ee.out,fi.out];rfl,Below.refl _ _⟩
theorem qe (l:cr) (c:UInt8) (aS:l.length≤1073741824) (w:World):Calls Tryz.prog 205 #[.string (bs l),.string ⟨#[c]⟩] w fun e ag=>e= .returned (.tuple #[.string (bs (cP c l)),.string (bs (gn c l)),.bool (ji c l)])∧Below w w ag:=by
 go_in
 go_wp2_with fail
 refine (apo l c aS _).mono ?_
 rintro e bd ⟨rfl,bz⟩
 have au:=be w bz;have I:Below w w bd:=au
 go_wp2
 go_ret3
 exact⟨rfl,(ah I av)⟩
theorem aqF (l:cr) (k:Nat) (h:k < l.length):pr (l.take (k + 1))= (41 * pr (l.take k) + (l[k]).toNat + 1) % 999979:=by
 unfold pr
 rw [List.take_succ_eq_append_getElem h,List.foldl_append]
 rfl
theorem Fo (l:cr) (k:Nat) (h:k < (bs l).size):(bs l)[k]= l[k]'(by rw [fY] at h;exact h):=by
 show (bs l).data[k]'(h)= _
 simp [bs]
theorem abw {p:Prop} (h:p:=by
 have aX:=fY l
 have xG:(bs l).size≤1073741824:=by omega
 have eA:=J aX;clear aX
 go_in
 go_wp2
 go_loop [3,4] (fun h i=>∃(k:Nat) (q:Int),k≤(bs l).size∧i= .int .i64 k∧h= .int .i64 q∧q= (pr (l.take k):Nat)) (fun _ i=>(bs l).size - (intOf i).toNat)
 case atStart=>exact⟨0,7,Nat.zero_le _,rfl,rfl,rfl⟩
 case round=>
  obtain⟨k,q,az,rfl,rfl,aZ⟩:=hrel
  have ao:=KE (l.take k)
  have aK:0≤q:=by omega
  have bS:q < 999979:=by omega
  have cV:=J aZ;clear aZ ao
  by_cases bl:k < (bs l).size
  ·have aB:(bs l)[k].toNat < 256:=(bs l)[k].toNat_lt
   have aE:((bs l)[k].toNat:Int) < 256:=by omega
   have iS:((41 * q + ((bs l)[k].toNat:Int) + 1) % 999979:Int)= (pr (l.take (k + 1)):Nat):=by
    rw [aqF l k (by rw [← eA.out];exact bl),cV.out,Fo]
    omega
   have bX:=J iS;clear iS
   go_wp2
   go_round
   case rel=>exact⟨k + 1,_,by omega,by go_num,rfl,bX.out⟩
   case measure=>simp [intOf];omega
  ·obtain rfl:k= (bs l).size:=by omega
   go_wp2
   go_ret
   have:=cV.out
   rw [eA.out,List.take_length] at this
   exact⟨vp this,rfl⟩):p:=h
theorem afS (l:cr) (aS:l.length≤1073741824) (w:World):Calls Tryz.prog 263 #[.string (bs l)] w fun e ag=>e= .returned (.int .i64 (pr l:Nat))∧ag= w:=by
 exact abw
theorem Yb (n:Int):eQ n= bs (rQ n):=rfl
theorem SU {k:Int} (az:0≤k) (lJ:k < 100) {c r:cr} (h:kK c r= true):(od k c r).length≤364:=by
 obtain⟨h1,h2,h3,_⟩:=Dy h
 have a:=Ya az lJ
 unfold od
 simp only [List.length_append,List.length_cons]
 omega
theorem acf {p:Prop} (h:p:=by
 rw [Yb,show (⟨#[35]⟩ :ByteArray)= bs [35] from rfl,pb,pb];simp [yh]):p:=h
theorem afu (l:cr) (aS:l.length≤3000) (aY:(35:UInt8) ∉ l) (w:World) (dt:ll w):Calls Tryz.prog 182 #[.string (bs l)] w fun e ag=>e= .returned (.tuple #[.string (bs (yh l)),true])∧Below w w ag:=by
 have iS:Bv (bs l) 35= false:=by
  unfold Bv;rw [vV,List.any_eq_false];intro x ay;simp;rintro rfl;exact aY ay
 have xG:(bs l).size≤3000:=by rw [fY];exact aS
 have aZ:=KE l;have hm:=xY (pr l:Nat) (by omega)
 have uP:(bs l ++⟨#[35]⟩) ++ eQ (pr l:Nat)= bs (yh l):=by
  exact acf
 have jH:=J uP;clear uP aY
 go_in
 go_wp2_with fail
 refine (Tn (bs l) 35 _ iS _).mono ?_
 rintro e _ ⟨rfl,rfl⟩
 go_wp2_with fail
 refine (afS l (by omega) _).mono ?_
 rintro e _ ⟨rfl,rfl⟩
 go_wp2_with fail
 refine (AU (pr l:Nat) (by omega) (by omega) _ dt).mono ?_
 rintro e bd ⟨rfl,bz⟩
 go_wp2
 go_ret2
 exact⟨by rw [← jH.out];rfl,bz⟩
theorem abd {p:Prop} (h:p:=by
 rw [Yb,show (⟨#[32]⟩ :ByteArray)= bs [32] from rfl,show (⟨#[64]⟩ :ByteArray)= bs [64] from rfl,pb,pb,pb,pb];simp [od]):p:=h
theorem abS {p:Prop} (h:p:=by
 refine wpQuiet_nil ?_
 intro K
 go_wp2
 go_ret
 exact⟨by rw [← jH.out];rfl,ah (bZ _ _) K.below⟩):p:=h
theorem TO (k:Int) (az:0≤k) (lJ:k < 100) (c r:cr) (h:kK c r= true) (w:World) (dt:ll w):Calls Tryz.prog 105 #[k,.agg #[.string (bs c),.string (bs r)]] w fun e ag=>e= .returned (.string (bs (fp k c r ++ [10])))∧Below w w ag:=by
 obtain⟨c1,c2,c3,_⟩:=Dy h
 have dU:=SU az lJ h;have aY:=(IM az h).1
 have e1:eQ k ++⟨#[32]⟩ ++ bs c ++⟨#[64]⟩ ++ bs r= bs (od k c r):=by
  exact abd
 have aR:∀W,ll W→Calls Tryz.prog 182 #[.string (eQ k ++⟨#[32]⟩ ++ bs c ++⟨#[64]⟩ ++ bs r)] W fun e ag=>e= .returned (.tuple #[.string (bs (fp k c r)),true])∧Below W W ag:=fun W bI=>by
  rw [e1];exact afu _ (by omega) aY W bI
 have aS:=Dt az lJ h
 have s1:(bs c).size≤160:=by rw [fY];exact c2
 have s2:(bs r).size≤200:=by rw [fY];exact c3
 have pT:(bs (fp k c r)).size≤371:=by rw [fY];exact aS
 have DJ:=xY k (by omega);have uP:bs (fp k c r) ++⟨#[10]⟩ =bs (fp k c r ++ [10]):=pb _ _;have mh:=J aR;have jH:=J uP;clear aR uP e1 aY dU h;have bX:=J (dt.below (bZ w (.cells #[.string (bs c),.string (bs r)] 56)));have eb:=boxed w #[.string (bs c),.string (bs r)] 56 0 (.string (bs c)) rfl;have dx:=boxed w #[.string (bs c),.string (bs r)] 56 1 (.string (bs r)) rfl
 go_in
 go_wp2
 refine ew (by kernel_rfl) (by kernel_rfl) ?_
 repeat (go_big_quiet_step ((first
  | (go_at_call 70;exact ax.call _ (by first | exact Nat.le_refl _ | omega) (AU _ (by omega) (by omega) _ (bX.out.below (ax.below _))))
  | (go_at_call 182;exact ax.call _ (by first | exact Nat.le_refl _ | omega) (mh.out _ (bX.out.below (ax.below _)))))))
 exact abS
def jQ (l:cr) (k:Nat):Value:=match jc l k with
 | some (c,r,n)=> .tuple #[.agg #[.string (bs c),.string (bs r)],.int .i64 n,.bool true]
 | none=> .tuple #[.agg #[.string (bs []),.string (bs [])],.int .i64 0,.bool false]
theorem aok (l:cr) (k:Nat) (dQ:ji 10 l= true) (az:k < 60) (line cmd rep:cr) (h1:cP 10 l= line) (h2:cP 64 (gn 32 (cP 35 line))= cmd) (h3:gn 64 (gn 32 (cP 35 line))= rep):
  jQ l k= if kK cmd rep && decide (fp k cmd rep= line) then .tuple #[.agg #[.string (bs cmd),.string (bs rep)],.int .i64 (line.length + 1:Nat),true] else .tuple #[.agg #[.string (bs []),.string (bs [])],(0:Int),false]:=by
 subst h1 h2 h3
 unfold jQ jc
 rw [dQ,if_pos (by simp [az])]
 unfold sP
 simp only
 generalize (kK (cP 64 (gn 32 (cP 35 (cP 10 l)))) (gn 64 (gn 32 (cP 35 (cP 10 l)))) && decide (fp k (cP 64 (gn 32 (cP 35 (cP 10 l)))) (gn 64 (gn 32 (cP 35 (cP 10 l))))= cP 10 l))= b
 cases b <;> rfl
theorem aoB (l:cr) (aS:l.length≤1048576) (k:Nat) (az:k≤60) (v:Value) (aw:jQ l k= v) (w:World) (dt:ll w):Calls Tryz.prog 125 #[.string (bs l),k] w fun e ag=>e= .returned v∧Below w w ag:=by
 subst aw
 have g1:=Co 10 l;have g2:=Co 35 (cP 10 l);have g3:=SJ 32 (cP 35 (cP 10 l))
 cases dQ:ji 10 l
 ·have cY:jQ l k= .tuple #[.agg #[.string (bs []),.string (bs [])],(0:Int),false]:=by simp [jQ,jc,dQ]
  have dq:=J cY;clear cY
  go_in
  go_wp2_with fail
  refine (qe l 10 (by omega) _).mono ?_
  rintro e bd ⟨rfl,bz⟩
  have au:=be w bz;have I:Below w w bd:=au;have ad:aq bd (w.heap.size) 56 #[.string ⟨#[]⟩,.string ⟨#[]⟩]:=aq.below (by repeat (first | exact aq.new _ _ _ | exact aq.fu _ _ _ _ | exact aq.fx _ _ _ _ _ | exact aq.gb _ _ _ _ _ _ | refine aq.alloc ?_ _)) bz (by simp <;> omega);have z0:=(ad.cell 0).trans (show _= some (.string ⟨#[]⟩) from rfl);have bw:=(ad.cell 1).trans (show _= some (.string ⟨#[]⟩) from rfl)
  go_wp2_with fail
  refine (qe (cP 10 l) 35 (by omega) _).mono ?_
  rintro e aM ⟨rfl,aN⟩
  have ao:=be bd aN;replace I:=ah I ao;replace ad:=ad.to ao;replace z0:=(ad.cell 0).trans (show _= some (.string ⟨#[]⟩) from rfl);replace bw:=(ad.cell 1).trans (show _= some (.string ⟨#[]⟩) from rfl)
  go_wp2_with fail
  refine (qe (cP 35 (cP 10 l)) 32 (by omega) _).mono ?_
  rintro e bB ⟨rfl,bG⟩
  have aK:=be aM bG;replace I:=ah I aK;replace ad:=ad.to aK;replace z0:=(ad.cell 0).trans (show _= some (.string ⟨#[]⟩) from rfl);replace bw:=(ad.cell 1).trans (show _= some (.string ⟨#[]⟩) from rfl)
  go_wp2_with fail
  refine (qe (gn 32 (cP 35 (cP 10 l))) 64 (by omega) _).mono ?_
  rintro e ca ⟨rfl,cU⟩
  have bS:=be bB cU;replace I:=ah I bS;replace ad:=ad.to bS;replace z0:=(ad.cell 0).trans (show _= some (.string ⟨#[]⟩) from rfl);replace bw:=(ad.cell 1).trans (show _= some (.string ⟨#[]⟩) from rfl)
  have nL:=ad.xq;have sd:=ad.lt;have ai:=((ad.gH 0 (.string ⟨#[]⟩)).gH 1 (.string ⟨#[]⟩)).alloc (.cells #[.string (bs (cP 64 (gn 32 (cP 35 (cP 10 l))))),.string (bs (gn 64 (gn 32 (cP 35 (cP 10 l)))))] 56);have fT:=ai.mI
  go_wp2
  refine bodyPost_ret (v:= .tuple #[.agg #[.string ⟨#[]⟩,.string ⟨#[]⟩],(0:Int),false]) (by simp [results,Tryz.results125,go_sem,fT]) rfl ?_
  exact⟨by rw [dq.out];rfl,(by repeat (first | exact I | exact Below.refl _ _ | refine Below.alloc ?_ (by first | exact Nat.le_refl _ | (have eZ:=I.size;simp;omega) | (simp <;> omega)) _ | refine Below.setCell ?_ (by first | exact Nat.le_refl _ | (simp <;> omega)) _))⟩
 by_cases lJ:k < 60
 case neg=>
  have cY:jQ l k= .tuple #[.agg #[.string (bs []),.string (bs [])],(0:Int),false]:=by simp [jQ,jc,lJ]
  have dq:=J cY;clear cY
  have ajs:60≤k:=by omega
  clear lJ
  go_in
  go_wp2_with fail
  refine (qe l 10 (by omega) _).mono ?_
  rintro e bd ⟨rfl,bz⟩
  have au:=be w bz;have I:Below w w bd:=au;have ad:aq bd (w.heap.size) 56 #[.string ⟨#[]⟩,.string ⟨#[]⟩]:=aq.below (by repeat (first | exact aq.new _ _ _ | exact aq.fu _ _ _ _ | exact aq.fx _ _ _ _ _ | exact aq.gb _ _ _ _ _ _ | refine aq.alloc ?_ _)) bz (by simp <;> omega);have z0:=(ad.cell 0).trans (show _= some (.string ⟨#[]⟩) from rfl);have bw:=(ad.cell 1).trans (show _= some (.string ⟨#[]⟩) from rfl)
  go_wp2_with fail
  refine (qe (cP 10 l) 35 (by omega) _).mono ?_
  rintro e aM ⟨rfl,aN⟩
  have ao:=be bd aN;replace I:=ah I ao;replace ad:=ad.to ao;replace z0:=(ad.cell 0).trans (show _= some (.string ⟨#[]⟩) from rfl);replace bw:=(ad.cell 1).trans (show _= some (.string ⟨#[]⟩) from rfl)
  go_wp2_with fail
  refine (qe (cP 35 (cP 10 l)) 32 (by omega) _).mono ?_
  rintro e bB ⟨rfl,bG⟩
  have aK:=be aM bG;replace I:=ah I aK;replace ad:=ad.to aK;replace z0:=(ad.cell 0).trans (show _= some (.string ⟨#[]⟩) from rfl);replace bw:=(ad.cell 1).trans (show _= some (.string ⟨#[]⟩) from rfl)
  go_wp2_with fail
  refine (qe (gn 32 (cP 35 (cP 10 l))) 64 (by omega) _).mono ?_
  rintro e ca ⟨rfl,cU⟩
  have bS:=be bB cU;replace I:=ah I bS;replace ad:=ad.to bS;replace z0:=(ad.cell 0).trans (show _= some (.string ⟨#[]⟩) from rfl);replace bw:=(ad.cell 1).trans (show _= some (.string ⟨#[]⟩) from rfl)
  have nL:=ad.xq;have sd:=ad.lt;have ai:=((ad.gH 0 (.string ⟨#[]⟩)).gH 1 (.string ⟨#[]⟩)).alloc (.cells #[.string (bs (cP 64 (gn 32 (cP 35 (cP 10 l))))),.string (bs (gn 64 (gn 32 (cP 35 (cP 10 l)))))] 56);have fT:=ai.mI
  go_wp2
  refine bodyPost_ret (v:= .tuple #[.agg #[.string ⟨#[]⟩,.string ⟨#[]⟩],(0:Int),false]) (by simp [results,Tryz.results125,go_sem,fT]) rfl ?_
  exact⟨by rw [dq.out];rfl,(by repeat (first | exact I | exact Below.refl _ _ | refine Below.alloc ?_ (by first | exact Nat.le_refl _ | (have eZ:=I.size;simp;omega) | (simp <;> omega)) _ | refine Below.setCell ?_ (by first | exact Nat.le_refl _ | (simp <;> omega)) _))⟩
 have g4:=Co 64 (gn 32 (cP 35 (cP 10 l)));have g5:=SJ 64 (gn 32 (cP 35 (cP 10 l)));have zd:=aok l k dQ lJ _ _ _ rfl rfl rfl
 generalize NN:cP 64 (gn 32 (cP 35 (cP 10 l)))= cmd at *
 generalize AL:gn 64 (gn 32 (cP 35 (cP 10 l)))= rep at *
 generalize Og:cP 10 l= line at *
 have hcut:∀W,Calls Tryz.prog 205 #[.string (bs (gn 32 (cP 35 line))),.string ⟨#[64]⟩] W fun e ag=>e= .returned (.tuple #[.string (bs cmd),.string (bs rep),.bool (ji 64 (gn 32 (cP 35 line)))])∧Below W W ag:=fun W=>by
  have:=qe (gn 32 (cP 35 line)) 64 (by omega) W
  rwa [NN,AL] at this
 have Vh:∀W,Calls Tryz.prog 205 #[.string (bs l),.string ⟨#[10]⟩] W fun e ag=>e= .returned (.tuple #[.string (bs line),.string (bs (gn 10 l)),true])∧Below W W ag:=fun W=>by
  have:=qe l 10 (by omega) W
  rwa [Og,dQ] at this
 have Ls:=J hcut;have Lt:=J Vh;have Ih:=J Og;have asa:=J NN;have BU:=J AL;have mF:=J dQ;clear Og NN AL hcut Vh dQ
 have s1:(bs cmd).size≤1048576:=by rw [fY];omega
 have s2:(bs rep).size≤1048576:=by rw [fY];omega
 cases gf:kK cmd rep
 ·rw [gf] at zd
  have cY:jQ l k= .tuple #[.agg #[.string (bs []),.string (bs [])],(0:Int),false]:=by rw [zd];rfl
  have dq:=J cY;have iu:=J gf;clear cY zd gf
  go_in
  go_wp2_with fail
  refine (Lt.out _).mono ?_
  rintro e bd ⟨rfl,bz⟩
  have au:=be w bz;have I:Below w w bd:=au;have ad:aq bd (w.heap.size) 56 #[.string ⟨#[]⟩,.string ⟨#[]⟩]:=aq.below (by repeat (first | exact aq.new _ _ _ | exact aq.fu _ _ _ _ | exact aq.fx _ _ _ _ _ | exact aq.gb _ _ _ _ _ _ | refine aq.alloc ?_ _)) bz (by simp <;> omega);have z0:=(ad.cell 0).trans (show _= some (.string ⟨#[]⟩) from rfl);have bw:=(ad.cell 1).trans (show _= some (.string ⟨#[]⟩) from rfl)
  go_wp2_with fail
  refine (qe line 35 (by omega) _).mono ?_
  rintro e aM ⟨rfl,aN⟩
  have ao:=be bd aN;replace I:=ah I ao;replace ad:=ad.to ao;replace z0:=(ad.cell 0).trans (show _= some (.string ⟨#[]⟩) from rfl);replace bw:=(ad.cell 1).trans (show _= some (.string ⟨#[]⟩) from rfl)
  go_wp2_with fail
  refine (qe (cP 35 line) 32 (by omega) _).mono ?_
  rintro e bB ⟨rfl,bG⟩
  have aK:=be aM bG;replace I:=ah I aK;replace ad:=ad.to aK;replace z0:=(ad.cell 0).trans (show _= some (.string ⟨#[]⟩) from rfl);replace bw:=(ad.cell 1).trans (show _= some (.string ⟨#[]⟩) from rfl)
  go_wp2_with fail
  refine (Ls.out _).mono ?_
  rintro e ca ⟨rfl,cU⟩
  have bS:=be bB cU;replace I:=ah I bS;replace ad:=ad.to bS;replace z0:=(ad.cell 0).trans (show _= some (.string ⟨#[]⟩) from rfl);replace bw:=(ad.cell 1).trans (show _= some (.string ⟨#[]⟩) from rfl)
  go_wp2_with fail
  refine (xP (bs cmd) (bs rep) s1 s2 _ iu.out _).mono ?_
  rintro e dc ⟨rfl,ei⟩
  have cx:=be ca ei;replace I:=ah I cx;replace ad:=ad.to cx;replace z0:=(ad.cell 0).trans (show _= some (.string ⟨#[]⟩) from rfl);replace bw:=(ad.cell 1).trans (show _= some (.string ⟨#[]⟩) from rfl)
  have nL:=ad.xq;have sd:=ad.lt;have ai:=((ad.gH 0 (.string ⟨#[]⟩)).gH 1 (.string ⟨#[]⟩));have fT:=ai.mI
  go_wp2
  refine bodyPost_ret (v:= .tuple #[.agg #[.string ⟨#[]⟩,.string ⟨#[]⟩],(0:Int),false]) (by simp [results,Tryz.results125,go_sem,fT]) rfl ?_
  exact⟨by rw [dq.out];rfl,(by repeat (first | exact I | exact Below.refl _ _ | refine Below.alloc ?_ (by first | exact Nat.le_refl _ | (have eZ:=I.size;simp;omega) | (simp <;> omega)) _ | refine Below.setCell ?_ (by first | exact Nat.le_refl _ | (simp <;> omega)) _))⟩
 ·rw [gf] at zd
  obtain⟨c1,c2,c3,_⟩:=Dy gf
  have hlen:=Dt (k:=(k:Int)) (by omega) (by omega) gf
  have pT:(bs line).size≤1048576:=by rw [fY];omega
  have BO:=J (fY line)
  have Vs:∀W,ll W→Calls Tryz.prog 105 #[k,.agg #[.string (bs cmd),.string (bs rep)]] W fun e ag=>e= .returned (.string (bs (fp k cmd rep ++ [10])))∧Below W W ag:=fun W bI=>TO k (by omega) (by omega) cmd rep gf W bI
  have RV:=J Vs;clear Vs
  by_cases heq:fp k cmd rep= line
  ·have cY:jQ l k= .tuple #[.agg #[.string (bs cmd),.string (bs rep)],.int .i64 (line.length + 1:Nat),true]:=by rw [zd,heq];simp
   have zc:∀W,ll W→Calls Tryz.prog 105 #[k,.agg #[.string (bs cmd),.string (bs rep)]] W fun e ag=>e= .returned (.string (bs line ++⟨#[10]⟩))∧Below W W ag:=fun W bI=>by
    have:=RV.out W bI
    rwa [heq,← pb] at this
   have dq:=J cY;have iu:=J gf;have cV:=J zc;clear cY zd gf heq zc
   go_in
   go_wp2_with fail
   refine (Lt.out _).mono ?_
   rintro e bd ⟨rfl,bz⟩
   have au:=be w bz;have I:Below w w bd:=au;have ad:aq bd (w.heap.size) 56 #[.string ⟨#[]⟩,.string ⟨#[]⟩]:=aq.below (by repeat (first | exact aq.new _ _ _ | exact aq.fu _ _ _ _ | exact aq.fx _ _ _ _ _ | exact aq.gb _ _ _ _ _ _ | refine aq.alloc ?_ _)) bz (by simp <;> omega);have z0:=(ad.cell 0).trans (show _= some (.string ⟨#[]⟩) from rfl);have bw:=(ad.cell 1).trans (show _= some (.string ⟨#[]⟩) from rfl)
   go_wp2_with fail
   refine (qe line 35 (by omega) _).mono ?_
   rintro e aM ⟨rfl,aN⟩
   have ao:=be bd aN;replace I:=ah I ao;replace ad:=ad.to ao;replace z0:=(ad.cell 0).trans (show _= some (.string ⟨#[]⟩) from rfl);replace bw:=(ad.cell 1).trans (show _= some (.string ⟨#[]⟩) from rfl)
   go_wp2_with fail
   refine (qe (cP 35 line) 32 (by omega) _).mono ?_
   rintro e bB ⟨rfl,bG⟩
   have aK:=be aM bG;replace I:=ah I aK;replace ad:=ad.to aK;replace z0:=(ad.cell 0).trans (show _= some (.string ⟨#[]⟩) from rfl);replace bw:=(ad.cell 1).trans (show _= some (.string ⟨#[]⟩) from rfl)
   go_wp2_with fail
   refine (Ls.out _).mono ?_
   rintro e ca ⟨rfl,cU⟩
   have bS:=be bB cU;replace I:=ah I bS;replace ad:=ad.to bS;replace z0:=(ad.cell 0).trans (show _= some (.string ⟨#[]⟩) from rfl);replace bw:=(ad.cell 1).trans (show _= some (.string ⟨#[]⟩) from rfl)
   go_wp2_with fail
   refine (xP (bs cmd) (bs rep) s1 s2 _ iu.out _).mono ?_
   rintro e dc ⟨rfl,ei⟩
   have cx:=be ca ei;replace I:=ah I cx;replace ad:=ad.to cx;replace z0:=(ad.cell 0).trans (show _= some (.string ⟨#[]⟩) from rfl);replace bw:=(ad.cell 1).trans (show _= some (.string ⟨#[]⟩) from rfl);have eO:aq dc (ca.heap.size) 56 #[.string (bs cmd),.string (bs rep)]:=aq.below (by repeat (first | exact aq.new _ _ _ | exact aq.fu _ _ _ _ | exact aq.fx _ _ _ _ _ | exact aq.gb _ _ _ _ _ _ | refine aq.alloc ?_ _)) ei (by simp <;> omega)
   have gC:=eO.mI
   go_wp2_with fail
   refine (cV.out _ (dt.below I)).mono ?_
   rintro e gZ ⟨rfl,pe⟩
   have eD:=be dc pe;replace I:=ah I eD;replace ad:=ad.to eD;replace z0:=(ad.cell 0).trans (show _= some (.string ⟨#[]⟩) from rfl);replace bw:=(ad.cell 1).trans (show _= some (.string ⟨#[]⟩) from rfl);replace eO:=eO.to eD;clear gC;have gC:=eO.mI;have nL:=ad.xq;have sd:=ad.lt;have arV:=eO.lt;have ai:=((ad.gH 0 (.string (bs cmd))).gH 1 (.string (bs rep)))
   have fT:=ai.mI
   go_wp2
   refine bodyPost_ret (v:= .tuple #[.agg #[.string (bs cmd),.string (bs rep)],.int .i64 ((bs line).size + 1),true]) (by simp [results,Tryz.results125,go_sem,fT]) rfl ?_
   exact⟨by rw [dq.out,BO.out];rfl,(by repeat (first | exact I | exact Below.refl _ _ | refine Below.alloc ?_ (by first | exact Nat.le_refl _ | (have eZ:=I.size;simp;omega) | (simp <;> omega)) _ | refine Below.setCell ?_ (by first | exact Nat.le_refl _ | (simp <;> omega)) _))⟩
  ·have cY:jQ l k= .tuple #[.agg #[.string (bs []),.string (bs [])],(0:Int),false]:=by rw [zd];simp [heq]
   have eP:¬(bs (fp k cmd rep ++ [10])).toList= (bs line ++⟨#[10]⟩).toList:=by
    intro h
    rw [ByteArray.toList_eq,ByteArray.toList_eq,show (⟨#[10]⟩ :ByteArray)= bs [10] from rfl,pb,vV,vV] at h
    exact heq (List.append_cancel_right h)
   have atJ:((bs (fp k cmd rep ++ [10])).toList == (bs line ++⟨#[10]⟩).toList)= false:=beq_eq_false_iff_ne.2 eP;clear eP
   have DJ:(bs (fp k cmd rep ++ [10])).size≤1048576:=by rw [fY];simp;omega
   have dq:=J cY;have iu:=J gf;clear cY zd gf heq
   go_in
   go_wp2_with fail
   refine (Lt.out _).mono ?_
   rintro e bd ⟨rfl,bz⟩
   have au:=be w bz;have I:Below w w bd:=au;have ad:aq bd (w.heap.size) 56 #[.string ⟨#[]⟩,.string ⟨#[]⟩]:=aq.below (by repeat (first | exact aq.new _ _ _ | exact aq.fu _ _ _ _ | exact aq.fx _ _ _ _ _ | exact aq.gb _ _ _ _ _ _ | refine aq.alloc ?_ _)) bz (by simp <;> omega);have z0:=(ad.cell 0).trans (show _= some (.string ⟨#[]⟩) from rfl);have bw:=(ad.cell 1).trans (show _= some (.string ⟨#[]⟩) from rfl)
   go_wp2_with fail
   refine (qe line 35 (by omega) _).mono ?_
   rintro e aM ⟨rfl,aN⟩
   have ao:=be bd aN;replace I:=ah I ao;replace ad:=ad.to ao;replace z0:=(ad.cell 0).trans (show _= some (.string ⟨#[]⟩) from rfl);replace bw:=(ad.cell 1).trans (show _= some (.string ⟨#[]⟩) from rfl)
   go_wp2_with fail
   refine (qe (cP 35 line) 32 (by omega) _).mono ?_
   rintro e bB ⟨rfl,bG⟩
   have aK:=be aM bG;replace I:=ah I aK;replace ad:=ad.to aK;replace z0:=(ad.cell 0).trans (show _= some (.string ⟨#[]⟩) from rfl);replace bw:=(ad.cell 1).trans (show _= some (.string ⟨#[]⟩) from rfl)
   go_wp2_with fail
   refine (Ls.out _).mono ?_
   rintro e ca ⟨rfl,cU⟩
   have bS:=be bB cU;replace I:=ah I bS;replace ad:=ad.to bS;replace z0:=(ad.cell 0).trans (show _= some (.string ⟨#[]⟩) from rfl);replace bw:=(ad.cell 1).trans (show _= some (.string ⟨#[]⟩) from rfl)
   go_wp2_with fail
   refine (xP (bs cmd) (bs rep) s1 s2 _ iu.out _).mono ?_
   rintro e dc ⟨rfl,ei⟩
   have cx:=be ca ei;replace I:=ah I cx;replace ad:=ad.to cx;replace z0:=(ad.cell 0).trans (show _= some (.string ⟨#[]⟩) from rfl);replace bw:=(ad.cell 1).trans (show _= some (.string ⟨#[]⟩) from rfl);have eO:aq dc (ca.heap.size) 56 #[.string (bs cmd),.string (bs rep)]:=aq.below (by repeat (first | exact aq.new _ _ _ | exact aq.fu _ _ _ _ | exact aq.fx _ _ _ _ _ | exact aq.gb _ _ _ _ _ _ | refine aq.alloc ?_ _)) ei (by simp <;> omega)
   have gC:=eO.mI
   go_wp2_with fail
   refine (RV.out _ (dt.below I)).mono ?_
   rintro e gZ ⟨rfl,pe⟩
   have eD:=be dc pe;replace I:=ah I eD;replace ad:=ad.to eD;replace z0:=(ad.cell 0).trans (show _= some (.string ⟨#[]⟩) from rfl);replace bw:=(ad.cell 1).trans (show _= some (.string ⟨#[]⟩) from rfl);replace eO:=eO.to eD;clear gC;have gC:=eO.mI
   have nL:=ad.xq;have sd:=ad.lt;have arV:=eO.lt;have ai:=((ad.gH 0 (.string ⟨#[]⟩)).gH 1 (.string ⟨#[]⟩));have fT:=ai.mI
   go_wp2
   refine bodyPost_ret (v:= .tuple #[.agg #[.string ⟨#[]⟩,.string ⟨#[]⟩],(0:Int),false]) (by simp [results,Tryz.results125,go_sem,fT]) rfl ?_
   exact⟨by rw [dq.out];rfl,(by repeat (first | exact I | exact Below.refl _ _ | refine Below.alloc ?_ (by first | exact Nat.le_refl _ | (have eZ:=I.size;simp;omega) | (simp <;> omega)) _ | refine Below.setCell ?_ (by first | exact Nat.le_refl _ | (simp <;> omega)) _))⟩
open Go.RowKit Go.G9
structure fX where
 cmd:ByteArray
 rep:ByteArray
def fX.cells (x:fX):List Value:=[.string x.cmd,.string x.rep]
theorem fX.Cr (y:fX):y.cells.length= 2:=rfl
theorem fX.cells_one (y:fX) (u:Value) (h:u ∈ y.cells):u.oneCell'= true:=by simp [fX.cells] at h;rcases h with rfl | rfl <;> rfl
def qH (x:cr×cr×Nat):fX:=⟨bs x.1,bs x.2.1⟩
def xd (x:cr×cr×Nat):Int:=(x.2.2:Nat)
def iJ (l:cr):List fX:=(hW l).map qH
def oe (l:cr):List Int:=0 ::(hW l).map xd
theorem Vr (w:World) (a b:Obj):((w.alloc a).alloc b).heap.size= w.heap.size + 2:=by simp
theorem Yz:∀(f k:Nat) (l:cr) (a:Nat),k≤60→(iI f k l a).length + k≤60
 | 0,k,_,_,h=>by simpa [iI] using h
 | f + 1,k,l,a,h=>by
  unfold iI
  cases ay:jc l k with
  | none=>simpa using h
  | some x=>
   obtain⟨c,r,n⟩:=x
   have az:=(Hu ay).1;have:=Yz f (k + 1) (l.drop n) (a + n) (by omega)
   simp;omega
theorem Yw (l:cr):(hW l).length≤60:=Yz 61 0 l 0 (by omega)
theorem WJ:(Tryz.prog.info? 56).map (fun i=>(i.zero,i.size,i.bytes))= some (some (.agg #[.string ⟨#[]⟩,.string ⟨#[]⟩]),2,32):=by kernel_rfl
theorem abT {p:Prop} (h:p:=by
 rw [ay];exact aoB (l.drop a) (by simp;omega) xs.length GQ _ (by rw [jQ,bu]) wr aiq):p:=h
theorem aoC (l:cr) (aS:l.length≤1048576) (w:World) (dt:ll w):Calls Tryz.prog 65 #[.string (bs l)] w fun e ag=>∃A c hc cM,e= .returned (.tuple #[.slice A (iJ l).length c,.slice hc (oe l).length cM])∧
  aV w 56 2 fX.cells ag (.slice A (iJ l).length c) (iJ l)∧aV w 3 1 bR ag (.slice hc (oe l).length cM) (oe l)∧Below w w ag:=by
 obtain⟨i0,hi,dy,dC,dN⟩:=info_parts WJ
 obtain⟨i1,NV,JE,akp,xN⟩:=info_parts rN
 have eZ:=fY l
 have xG:(bs l).size≤1048576:=by omega
 have eA:=J eZ;clear eZ;have pd:=aV.built (B:=w.heap.size) (f:=fX.cells) w ([]:List fX) 56 (Nat.le_refl _) (by simp) fX.Cr;have Ni:=aV.built (B:=w.heap.size) (f:=bR) (w.alloc (.cells #[] 56)) ([0]:List Int) 3 (by simp) (by simp [maxLen]) fZ
 simp only [List.flatMap_cons,List.flatMap_nil,bR,List.append_nil] at Ni
 have ff:=J (pd.alloc (.cells #[(0:Int)] 3));have aec:=J Ni;clear pd Ni
 go_in
 go_wp2
 go_loopw [4,5,6] (fun v4 v5 v6 wr=>∃(xs:List (cr×cr×Nat)) (a:Nat),hW l= xs ++ iI (61 - xs.length) xs.length (l.drop a) a∧xs.length≤60∧a≤(bs l).size∧v6= .int .i64 a∧
   aV w 56 2 fX.cells wr v4 (xs.map qH)∧aV w 3 1 bR wr v5 (0 ::xs.map xd)∧qE v4 v5∧Below w w wr) (fun _ _ v6 _=>1048577 - (intOf v6).toNat)
 case atStart=>
  refine⟨[],0,?_,by simp,Nat.zero_le _,rfl,by simpa using ff.out,by simpa using aec.out,?_,xf _ _ _⟩
  ·rfl
  ·intro k h1 h2
   simp [Value.ownBlock] at h1 h2
   omega
 case round=>
  obtain⟨xs,a,lY,GQ,cT,rfl,bP,eO,eP,aB⟩:=hrel
  obtain⟨aA,c4,rfl,ni,_,_⟩:=bP.form fX.Cr
  obtain⟨py,c5,rfl,sA,_,_⟩:=eO.form fZ
  simp only [List.length_map,List.length_cons] at bP eO eP ni sA ⊢
  have ajv:a≤l.length:=by rw [← eA.out];exact cT
  have ay:(bs l).extract a (bs l).size= bs (l.drop a):=by rw [vU,fY,List.take_of_length_le (by simp)]
  have hf:∃f,61 - xs.length= f + 1∧f= 61 - (xs.length + 1):=⟨60 - xs.length,by omega,by omega⟩
  obtain⟨f,CV,Gn⟩:=hf
  have aiq:=dt.below aB;have z0:=aB.size;have wq:=J bP.lt;have Xj:=J eO.lt
  cases bu:jc (l.drop a) xs.length with
  | none=>
   have aZ:Calls Tryz.prog 125 #[.string ((bs l).extract a (bs l).size),xs.length] wr fun e ag=>e= .returned (.tuple #[.agg #[.string (bs []),.string (bs [])],(0:Int),false])∧Below wr wr ag:=by
    exact abT
   have uQ:hW l= xs:=by rw [lY,CV,iI,bu];simp
   have cV:=J aZ;have fG:=J uQ;have dq:=J bP;have cX:=J eO;clear aZ uQ lY ay bu bP eO CV Gn
   go_wp2_with fail
   refine cV.out.mono ?_
   rintro e bd ⟨rfl,bz⟩
   go_wp2
   go_ret2
   have e1:iJ l= xs.map qH:=by rw [iJ,fG.out]
   have e2:oe l= 0 ::xs.map xd:=by rw [oe,fG.out]
   rw [e1,e2]
   simp only [List.length_map,List.length_cons]
   exact⟨aA,c4,py,c5,rfl,(dq.out.later bz).alloc _,(cX.out.later bz).alloc _,(ah aB bz).alloc (by have:=bz.size;omega) _⟩
  | some x=>
   obtain⟨c,r,n⟩:=x
   have aY:=DG bu
   simp only [List.length_drop] at aY
   have aZ:Calls Tryz.prog 125 #[.string ((bs l).extract a (bs l).size),xs.length] wr fun e ag=>e= .returned (.tuple #[.agg #[.string (bs c),.string (bs r)],n,true])∧Below wr wr ag:=by
    exact abT
   have az:=(Hu bu).1
   have Gy:hW l= (xs ++ [(c,r,a + n)]) ++ iI (61 - (xs ++ [(c,r,a + n)]).length) (xs ++ [(c,r,a + n)]).length (l.drop (a + n)) (a + n):=by
    rw [lY,CV,iI,bu]
    simp [Gn,List.drop_drop]
   have cV:=J aZ;have gu:=J Gy;have dq:=J bP;have cX:=J eO;clear aZ Gy lY ay bu bP eO CV Gn
   go_wp2_with fail
   refine cV.out.mono ?_
   rintro e bd ⟨rfl,bz⟩
   have bw:=bz.size;have gW:=J (((dq.out.later bz).alloc (.cells #[.string (bs c),.string (bs r)] 56)).alloc (.cells #[.string (bs c),.string (bs r)] 56));have ahX:=J (((cX.out.later bz).alloc (.cells #[.string (bs c),.string (bs r)] 56)).alloc (.cells #[.string (bs c),.string (bs r)] 56))
   have ks:aH 2 fX.cells ((bd.alloc (.cells #[.string (bs c),.string (bs r)] 56)).alloc (.cells #[.string (bs c),.string (bs r)] 56)) (some ⟨bd.heap.size + 1,0,none⟩) [qH (c,r,a + n)]:=by
    have h:=aH.one (sz:=2) (f:=fX.cells) (w:=bd.alloc (.cells #[.string (bs c),.string (bs r)] 56)) (qH (c,r,a + n)) 56
    rw [show (bd.alloc (.cells #[.string (bs c),.string (bs r)] 56)).heap.size= bd.heap.size + 1 from by simp] at h
    exact h
   have sh:=J ks;clear ks
   go_upto_region 7 with (at_builtin;refine lA rfl _ _ 52 rfl w.heap.size 56 i0 _ 2 32 Tryz.underlying52 hi dy dC dN rfl (by decide) fX.cells fX.Cr fX.cells_one (.slice aA xs c4) (xs.map qH) rfl gW.out ⟨bd.heap.size + 1,0,none⟩ 1 (qH (c,r,a + n)) rfl sh.out (by unfold maxLen;simp;omega) (by simp;omega) (by simp;omega) ?_;intro mf ca fj gx lX)
   have z4:=gx.size
   simp only [Vr] at z4
   have xt:=ahX.out.ne gx eP;have Ol:qE mf (.slice py (xs.length + 1) c5):=eP.step (fun k az=>by have:=(Xj.out k az).2;simp;omega) lX;have amy:=J fj.lt;have gP:Below w w ca:=(((ah aB bz).alloc (by omega) _).alloc (by simp;omega) _).grown gx (by simp;omega) (fun k az=>(wq.out k az).1);have lj:=J fj;have aed:=J (xt.alloc (.cells #[.int .i64 ((a:Int) + n)] 3))
   have oX:=J Ol;clear fj xt Ol gx lX
   go_wp2_with (at_builtin;refine lA rfl _ _ 38 rfl w.heap.size 3 i1 _ 1 8 Tryz.underlying38 NV JE akp xN rfl (by decide) bR fZ pj (.slice py (xs.length + 1) c5) (0 ::xs.map xd) rfl aed.out ⟨ca.heap.size,0,none⟩ 1 ((a:Int) + n) rfl (aH.one _ _) (by unfold maxLen;simp;omega) (by simp;omega) (by simp;omega) ?_;intro v5 dc uI rJ aiu)
   have z5:=rJ.size;have ain:=(lj.out.alloc (.cells #[.int .i64 ((a:Int) + n)] 3)).ne rJ oX.out.symm;have VU:qE mf v5:=(oX.out.symm.step (fun k az=>by have:=(amy.out k az).2;simp;omega) aiu).symm;have lW:Below w w dc:=(gP.alloc (by omega) _).grown rJ (by simp;omega) (fun k az=>(Xj.out k az).1)
   go_roundw
   case rel=>
    refine⟨xs ++ [(c,r,a + n)],a + n,gu.out,by simp;omega,by rw [eA.out];omega,by go_num,?_,?_,VU,lW⟩
    ·rw [List.map_append];exact ain
    ·rw [List.map_append]
     have e:((a:Int) + n)= xd (c,r,a + n):=by simp [xd]
     rw [e] at uI
     exact uI
   case measure=>simp [intOf];omega
open Go.RowKit Go.G9
theorem aml (l:cr) (aS:l.length≤1073741824) (w:World):Calls Tryz.prog 244 #[.string (bs l)] w fun e ag=>e= .returned (.int .i64 (pr l:Nat))∧ag= w:=by
 exact abw
theorem ami (l:cr) (aS:l.length≤1073741824) (w:World):Calls Tryz.prog 161 #[.string (bs l)] w fun e ag=>e= .returned (.string (bs (yh l)))∧Below w w ag:=by
 have xG:(bs l).size≤1073741824:=by rw [fY];exact aS
 have aZ:=KE l;have hm:=xY (pr l:Nat) (by omega)
 have uP:(bs l ++⟨#[35]⟩) ++ eQ (pr l:Nat)= bs (yh l):=by
  exact acf
 have jH:=J uP;clear uP
 go_in
 go_wp2_with fail
 refine (aml l aS _).mono ?_
 rintro e ag ⟨rfl,vf⟩
 have Wk:=vf.symm
 subst Wk
 go_wp2_with fail
 refine (rl (pr l:Nat) (by omega) (by omega) _).mono ?_
 rintro e bd ⟨rfl,bz⟩
 have au:=be w bz;have I:Below w w bd:=au
 go_wp2
 go_ret
 exact⟨by rw [← jH.out];rfl,(ah I av)⟩
theorem Xc (k:Int) (az:0≤k) (lJ:k < 100) (c r:cr) (h:kK c r= true) (w:World):Calls Tryz.prog 91 #[k,.agg #[.string (bs c),.string (bs r)]] w fun e ag=>e= .returned (.string (bs (fp k c r ++ [10])))∧Below w w ag:=by
 obtain⟨c1,c2,c3,_⟩:=Dy h
 have dU:=SU az lJ h
 have e1:eQ k ++⟨#[32]⟩ ++ bs c ++⟨#[64]⟩ ++ bs r= bs (od k c r):=by
  exact abd
 have aR:∀W,Calls Tryz.prog 161 #[.string (eQ k ++⟨#[32]⟩ ++ bs c ++⟨#[64]⟩ ++ bs r)] W fun e ag=>e= .returned (.string (bs (fp k c r)))∧Below W W ag:=fun W=>by
  rw [e1];exact ami _ (by omega) W
 have aS:=Dt az lJ h
 have s1:(bs c).size≤160:=by rw [fY];exact c2
 have s2:(bs r).size≤200:=by rw [fY];exact c3
 have pT:(bs (fp k c r)).size≤371:=by rw [fY];exact aS
 have DJ:=xY k (by omega);have uP:bs (fp k c r) ++⟨#[10]⟩ =bs (fp k c r ++ [10]):=pb _ _;have mh:=J aR;have jH:=J uP;clear aR uP e1 dU h;have eb:=boxed w #[.string (bs c),.string (bs r)] 56 0 (.string (bs c)) rfl;have dx:=boxed w #[.string (bs c),.string (bs r)] 56 1 (.string (bs r)) rfl
 go_in
 go_wp2
 refine ew (by kernel_rfl) (by kernel_rfl) ?_
 repeat (go_big_quiet_step ((first
  | (go_at_call 73;exact ax.call _ (by first | exact Nat.le_refl _ | omega) (rl _ (by omega) (by omega) _))
  | (go_at_call 161;exact ax.call _ (by first | exact Nat.le_refl _ | omega) (mh.out _)))))
 exact abS
structure Splits (c:UInt8) (l:cr) (ys:List ByteArray):Prop where
 ne:ys.length≠0
 first:ys[0]? =some (bs (cP c l))
 two:(2≤ys.length)↔ji c l= true
 len:ys.length≤l.length + 1
def tO (s:ByteArray):List Value:=[.string s]
theorem DP (y:ByteArray):(tO y).length= 1:=rfl
theorem ZL (y:ByteArray) (u:Value) (h:u ∈ tO y):u.oneCell'= true:=by simp [tO] at h;subst h;rfl
theorem alL:(Tryz.prog.info? 9).map (fun i=>(i.zero,i.size,i.bytes))= some (some (.string ⟨#[]⟩),1,16):=by kernel_rfl
theorem afH {c:UInt8} {l:cr} {k:Nat} (h:ji c (l.take k)= false) (az:k < l.length) (aE:l[k]= c):cP c l= l.take k∧ji c l= true:=by
 have aY:=Gb.1 h
 have e:l= l.take k ++ c ::l.drop (k + 1):=by
  rw [← aE];simp
 refine⟨?_,?_⟩
 ·conv=>lhs;rw [e]
  exact Fl aY
 ·rw [CS];rw [← aE];exact List.getElem_mem az
theorem aiB {c:UInt8} {l:cr} {k:Nat} (az:k < l.length) (h:ji c (l.take k)= false) (aE:l[k]≠c):ji c (l.take (k + 1))= false:=by
 rw [Gb] at *
 rw [List.take_succ_eq_append_getElem az]
 simp only [List.mem_append,List.mem_singleton,not_or]
 exact⟨h,fun e=>aE e.symm⟩
theorem amk (l:cr) (c:UInt8) (aS:l.length≤1048576) (w:World):Calls Tryz.prog 67 #[.string (bs l),.int .u8 (c.toNat:Int)] w fun e ag=>∃A n ys,e= .returned (.slice A ys.length n)∧aV w.heap.size 9 1 tO ag (.slice A ys.length n) ys∧Splits c l ys∧Below w.heap.size w ag:=by
 obtain⟨i0,hi,dy,dC,dN⟩:=info_parts alL
 have eZ:=fY l
 have xG:(bs l).size≤1048576:=by omega
 have eA:=J eZ;clear eZ;have pd:=aV.built (B:=w.heap.size) (f:=tO) w ([]:List ByteArray) 9 (Nat.le_refl _) (by simp) DP
 simp only [List.flatMap_nil] at pd
 have ff:=J pd;clear pd;have jK:c.toNat < 256:=c.toNat_lt
 have aiM:(c.toNat:Int) < 256:=by omega
 go_in
 go_wp2
 go_loopw [5,6,7] (fun v5 v6 mg wr=>∃(xs:List ByteArray) (a k:Nat),k≤(bs l).size∧a≤k∧v6= .int .i64 a∧mg= .int .i64 k∧xs.length≤k∧(xs.length= 0→a= 0∧ji c (l.take k)= false)∧(xs.length≠0→xs[0]? =some (bs (cP c l))∧ji c l= true)∧
   aV w.heap.size 9 1 tO wr v5 xs∧Below w.heap.size w wr) (fun _ _ mg _=>1048577 - (intOf mg).toNat)
 case atStart=>
  exact⟨[],0,0,Nat.zero_le _,Nat.le_refl _,rfl,rfl,Nat.le_refl _,fun _=>⟨rfl,by simp [ji]⟩,fun h=>absurd rfl h,ff.out,bZ _ _⟩
 case round=>
  obtain⟨xs,a,k,az,cT,rfl,rfl,qp,lK,GM,bP,aB⟩:=hrel
  obtain⟨py,c5,rfl,sA,_,_⟩:=bP.form DP
  have z0:=aB.size;have wq:=J bP.lt;have vJ:=J lK;have H1:=J GM;have dq:=J bP;clear lK GM bP
  by_cases bl:k < (bs l).size
  ·have hK:(bs l)[k].toNat < 256:=(bs l)[k].toNat_lt
   by_cases aE:(bs l)[k]= c
   ·have jD:(((bs l)[k].toNat:Int) == (c.toNat:Int))= true:=by rw [aE];exact beq_iff_eq.2 rfl
    have hex:(bs l).extract a k= bs ((l.drop a).take (k - a)):=vU l a k
    have pG:(xs ++ [(bs l).extract a k])[0]? =some (bs (cP c l))∧ji c l= true:=by
     rcases Nat.eq_zero_or_pos xs.length with h | h
     ·obtain⟨rfl,h2⟩:=vJ.out h
      obtain rfl:xs= []:=List.eq_nil_of_length_eq_zero h
      have aN:=afH h2 (by rw [← eA.out];exact bl) (by rw [← Fo l k bl];exact aE)
      refine⟨?_,aN.2⟩
      rw [hex,aN.1];simp
     ·have:=H1.out (by omega)
      refine⟨?_,this.2⟩
      rw [List.getElem?_append_left h];exact this.1
    have gu:=J pG;clear pG hex aE;have ks:aH 1 tO (wr.alloc (.cells #[.string ((bs l).extract a k)] 9)) (some ⟨wr.heap.size,0,none⟩) [(bs l).extract a k]:=aH.one (sz:=1) (f:=tO) _ _;have sh:=J ks;clear ks;have lB:=J (dq.out.alloc (.cells #[.string ((bs l).extract a k)] 9))
    go_wp2_with (at_builtin;refine lA rfl _ _ 57 rfl w.heap.size 9 i0 _ 1 16 Tryz.underlying57 hi dy dC dN rfl (by decide) tO DP ZL (.slice py xs.length c5) xs rfl lB.out ⟨wr.heap.size,0,none⟩ 1 ((bs l).extract a k) rfl sh.out (by unfold maxLen;omega) (by omega) (by simp;omega) ?_;intro v4 ca fj gx lX)
    have z4:=gx.size;have gP:Below w.heap.size w ca:=(aB.alloc (by omega) _).grown gx (by simp;omega) (fun q aZ=>(wq.out q aZ).1)
    go_roundw
    case rel=>
     refine⟨xs ++ [(bs l).extract a k],k + 1,k + 1,by omega,Nat.le_refl _,by go_num,by go_num,by simp;omega,fun h=>?_,fun _=>gu.out,fj,gP⟩
     simp at h
    case measure=>simp [intOf];omega
   ·have jD:(((bs l)[k].toNat:Int) == (c.toNat:Int))= false:=by
     rw [beq_eq_false_iff_ne]
     intro e
     exact aE (UInt8.toNat_inj.1 (by omega))
    have pG:xs.length= 0→a= 0∧ji c (l.take (k + 1))= false:=fun h=>
     ⟨(vJ.out h).1,aiB (by rw [← eA.out];exact bl) (vJ.out h).2 (by rw [← Fo l k bl];exact aE)⟩
    have gu:=J pG;clear pG aE
    go_wp2
    go_roundw
    case rel=>exact⟨xs,a,k + 1,by omega,by omega,rfl,by go_num,by omega,gu.out,H1.out,dq.out,aB⟩
    case measure=>simp [intOf];omega
  ·obtain rfl:k= (bs l).size:=by omega
   have hex:(bs l).extract a (bs l).size= bs (l.drop a):=by rw [vU,fY,List.take_of_length_le (by simp)]
   have jM:Splits c l (xs ++ [(bs l).extract a (bs l).size]):=by
    rw [hex]
    rcases Nat.eq_zero_or_pos xs.length with h | h
    ·obtain⟨rfl,h2⟩:=vJ.out h
     obtain rfl:xs= []:=List.eq_nil_of_length_eq_zero h
     rw [eA.out,List.take_length] at h2
     refine⟨by simp,?_,by simp [h2],by simp⟩
     rw [IL (Gb.1 h2)];simp
    ·have:=H1.out (by omega)
     refine⟨by simp,?_,?_,?_⟩
     ·rw [List.getElem?_append_left h];exact this.1
     ·rw [this.2];simp;omega
     ·have:=eA.out;simp;omega
   have cB:=J jM;clear jM hex;have ks:aH 1 tO (wr.alloc (.cells #[.string ((bs l).extract a (bs l).size)] 9)) (some ⟨wr.heap.size,0,none⟩) [(bs l).extract a (bs l).size]:=aH.one (sz:=1) (f:=tO) _ _;have sh:=J ks;clear ks;have lB:=J (dq.out.alloc (.cells #[.string ((bs l).extract a (bs l).size)] 9))
   go_wp2_with (at_builtin;refine lA rfl _ _ 57 rfl w.heap.size 9 i0 _ 1 16 Tryz.underlying57 hi dy dC dN rfl (by decide) tO DP ZL (.slice py xs.length c5) xs rfl lB.out ⟨wr.heap.size,0,none⟩ 1 ((bs l).extract a (bs l).size) rfl sh.out (by unfold maxLen;omega) (by omega) (by simp;omega) ?_;intro v4 ca fj gx lX)
   have z4:=gx.size;have gP:Below w.heap.size w ca:=(aB.alloc (by omega) _).grown gx (by simp;omega) (fun q aZ=>(wq.out q aZ).1)
   obtain⟨Le,rB,rfl,_,_,_⟩:=fj.form DP
   go_ret
   exact⟨Le,rB,xs ++ [(bs l).extract a (bs l).size],rfl,fj,cB.out,gP⟩
end Go.Proofs.YtlaaemmmbodaaaaGreatDoor
