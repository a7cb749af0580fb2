/- Parts. -/
import Derived.Test.YtlaaemmmbodaaaaGreatDoorRp7
import Derived.Carry
import Derived.Deep.Slices
import Derived.ProofKit
import Derived.Lib.Bytealg
import Derived.IntWalk
set_option maxHeartbeats 16000000
set_option maxRecDepth 100000
set_option linter.unnecessarySimpa false
set_option linter.unusedSimpArgs false
set_option linter.unusedVariables false
namespace Go.Proofs.YtlaaemmmbodaaaaGreatDoor
open Go.RowKit Go.G9
theorem OQ {p:Prop} (h:p:=by
 rintro e bB ⟨nJ,nU,rfl,fu,bx⟩
 have aP:=be jW bx;replace I:=aj I aP;replace ai:=ai.to aP;clear aC;have aC:=ai.aI;clear a';replace U:=U.to aP;clear ak;have ak:=U.aI;have tR:=I.size
 go_wp2_with fail
 refine (Us aq ar an ao aA c0 av c2 c3 c4 rs qs ag af sp ws ad os bg.out nJ ps.length nU _ (bC.out.ae (aj I az))).mono ?_
 rintro e bU ⟨bQ,d0,bR,d4,rfl,cJ,cz,cY⟩
 have bN:=be bB cY;replace I:=aj I bN;replace fu:=fu.bm bN;clear aC;replace U:=U.to bN;clear ak;have ak:=U.aI;have fM:=cJ.cu U;have ry:=fu.cu U;have fN:=cz.cu U;have dM:=U.ib
 go_wp2
 clear ak
 refine hR 0 fun cD aE=>?_
 replace I:=aE.aH I;replace U:=aE.ia U;replace fu:=fu.bY aE ry;replace cJ:=cJ.bY aE fM;replace cz:=cz.bY aE fN;have ak:=U.aI
 refine bodyPost_ret (v:= .tuple #[.agg #[.slice bQ rs d0,.slice nJ ps nU,ag,af,(0:Int),.slice none 0 0,.slice none 0 0,.slice bR os d4],true]) (by simp [results,Tryz.results154,go_sem,ak]) rfl ?_
 exact⟨bQ,d0,nJ,nU,none,0,none,0,bR,d4,rfl,⟨cJ.base (by omega),fu.base (by omega),bd.nil,bd.nil,cz.base (by omega)⟩,I⟩):p:=h
theorem amz (aq ar an ao aA:Option Addr) (c0 av c2 c3 c4:Nat) (rs:List aK) (qs:List aQ) (ag af sp:Int) (ws:List Int) (ad:List aO) (os:List Out) (Z:ei aq ar an ao aA c0 av c2 c3 c4 rs qs ws ad os) (mem val yes no bq:Int) (ps:List aQ) (ax:jy rs qs val mem= some ps) (aV:(sp == 0)= true) (w:World) (R:dI w aq ar an ao aA rs qs ws ad os):
 Calls Tryz.prog 154 #[.agg #[.slice aq rs c0,.slice ar qs av,ag,af,sp,.slice an ws c2,.slice ao ad c3,.slice aA os c4],.agg #[(1:Int),mem,val,yes,no,bq]] w (hq (some ⟨rs,ps,ag,af,0,[],[],os⟩) w):=by
 have bC:=J R;have bg:=J Z;clear R Z;have bo:=J ax;clear ax
 go_in
 go_upto_region 1 with fail
 refine fv fun aG au ai aX U=>?_
 have I:=au;have aC:=ai.aI;have a':=aX.da;have ak:=U.aI;have fQ:=U.lt
 go_upto_region 2 with fail
 refine cF fun jW al eG=>?_
 replace I:=aj I al;clear aC;replace ai:=ai.to al;have aC:=ai.aI;clear a';replace aX:=aX.to al;have a':=aX.da;clear ak;replace U:=U.to al;have ak:=U.aI;have Ea:=eG.lt
 go_wp2_with fail
 refine (WM aq c0 rs bg.out.h0 ar av qs bg.out.h1 bg.out.n1 val mem ps bo.out _ (bC.out.fx.ae (aj I az)) (bC.out.dL.ae (aj I az))).mono ?_
 exact OQ
theorem Pb {p:Prop} (h:p:=by
 rintro e bB ⟨nJ,nU,rfl,bx⟩
 have aP:=be jW bx;replace I:=aj I aP;clear aC;clear a';replace U:=U.to aP;clear ak;have ak:=U.aI;have dM:=U.ib
 go_wp2
 clear ak
 refine hR 0 fun cD aE=>?_
 replace I:=aE.aH I;replace U:=aE.ia U;have ak:=U.aI
 refine bodyPost_ret (v:= .tuple #[.agg #[.slice none 0 0,.slice none 0 0,(0:Int),(0:Int),(0:Int),.slice none 0 0,.slice none 0 0,.slice none 0 0],false]) (by simp [results,Tryz.results154,go_sem,ak]) rfl ?_
 exact⟨rfl,I⟩):p:=h
theorem WJ (aq ar an ao aA:Option Addr) (c0 av c2 c3 c4:Nat) (rs:List aK) (qs:List aQ) (ag af sp:Int) (ws:List Int) (ad:List aO) (os:List Out) (Z:ei aq ar an ao aA c0 av c2 c3 c4 rs qs ws ad os) (mem val yes no bq:Int) (ax:jy rs qs val mem= none) (w:World) (R:dI w aq ar an ao aA rs qs ws ad os):
 Calls Tryz.prog 154 #[.agg #[.slice aq rs c0,.slice ar qs av,ag,af,sp,.slice an ws c2,.slice ao ad c3,.slice aA os c4],.agg #[(1:Int),mem,val,yes,no,bq]] w (hq none w):=by
 have bC:=J R;have bg:=J Z;clear R Z;have bo:=J ax;clear ax
 go_in
 go_upto_region 1 with fail
 refine fv fun aG au ai aX U=>?_
 have I:=au;have aC:=ai.aI;have a':=aX.da;have ak:=U.aI
 go_upto_region 2 with fail
 refine cF fun jW al eG=>?_
 replace I:=aj I al;clear aC;replace ai:=ai.to al;have aC:=ai.aI;clear a';replace aX:=aX.to al;have a':=aX.da;clear ak;replace U:=U.to al;have ak:=U.aI
 go_wp2_with fail
 refine (amI aq c0 rs bg.out.h0 ar av qs bg.out.h1 bg.out.n1 val mem bo.out _ (bC.out.fx.ae (aj I az)) (bC.out.dL.ae (aj I az))).mono ?_
 exact Pb
theorem aau {p:Prop} (h:p:=by
 rintro e bB ⟨nJ,nU,rfl,fu,bx⟩
 have aP:=be jW bx;replace I:=aj I aP;clear aC;clear a';replace U:=U.to aP;clear ak;have ak:=U.aI;clear fu;have dM:=U.ib
 go_wp2
 clear ak
 refine hR 0 fun cD aE=>?_
 replace I:=aE.aH I;replace U:=aE.ia U;have ak:=U.aI
 refine bodyPost_ret (v:= .tuple #[.agg #[.slice none 0 0,.slice none 0 0,(0:Int),(0:Int),(0:Int),.slice none 0 0,.slice none 0 0,.slice none 0 0],false]) (by simp [results,Tryz.results154,go_sem,ak]) rfl ?_
 exact⟨rfl,I⟩):p:=h
theorem amy (aq ar an ao aA:Option Addr) (c0 av c2 c3 c4:Nat) (rs:List aK) (qs:List aQ) (ag af sp:Int) (ws:List Int) (ad:List aO) (os:List Out) (Z:ei aq ar an ao aA c0 av c2 c3 c4 rs qs ws ad os) (mem val yes no bq:Int) (ps:List aQ) (ax:jy rs qs val mem= some ps) (aV:(sp == 0)= false) (w:World) (R:dI w aq ar an ao aA rs qs ws ad os):
 Calls Tryz.prog 154 #[.agg #[.slice aq rs c0,.slice ar qs av,ag,af,sp,.slice an ws c2,.slice ao ad c3,.slice aA os c4],.agg #[(1:Int),mem,val,yes,no,bq]] w (hq none w):=by
 have bC:=J R;have bg:=J Z;clear R Z;have bo:=J ax;clear ax
 go_in
 go_upto_region 1 with fail
 refine fv fun aG au ai aX U=>?_
 have I:=au;have aC:=ai.aI;have a':=aX.da;have ak:=U.aI
 go_upto_region 2 with fail
 refine cF fun jW al eG=>?_
 replace I:=aj I al;clear aC;replace ai:=ai.to al;have aC:=ai.aI;clear a';replace aX:=aX.to al;have a':=aX.da;clear ak;replace U:=U.to al;have ak:=U.aI
 go_wp2_with fail
 refine (WM aq c0 rs bg.out.h0 ar av qs bg.out.h1 bg.out.n1 val mem ps bo.out _ (bC.out.fx.ae (aj I az)) (bC.out.dL.ae (aj I az))).mono ?_
 exact aau
theorem amE (aq ar an ao aA:Option Addr) (c0 av c2 c3 c4:Nat) (rs:List aK) (qs:List aQ) (ag af sp:Int) (ws:List Int) (ad:List aO) (os:List Out) (Z:ei aq ar an ao aA c0 av c2 c3 c4 rs qs ws ad os) (mem val yes no bq:Int) (ps:List aQ) (ax:jX rs qs mem= some ps) (aV:(sp == 0)= true) (w:World) (R:dI w aq ar an ao aA rs qs ws ad os):
 Calls Tryz.prog 154 #[.agg #[.slice aq rs c0,.slice ar qs av,ag,af,sp,.slice an ws c2,.slice ao ad c3,.slice aA os c4],.agg #[(8:Int),mem,val,yes,no,bq]] w (hq (some ⟨rs,ps,ag,af,0,[],[],os⟩) w):=by
 have bC:=J R;have bg:=J Z;clear R Z;have bo:=J ax;clear ax
 go_in
 go_upto_region 1 with fail
 refine fv fun aG au ai aX U=>?_
 have I:=au;have aC:=ai.aI;have a':=aX.da;have ak:=U.aI;have fQ:=U.lt
 go_upto_region 2 with fail
 refine cF fun jW al eG=>?_
 replace I:=aj I al;clear aC;replace ai:=ai.to al;have aC:=ai.aI;clear a';replace aX:=aX.to al;have a':=aX.da;clear ak;replace U:=U.to al;have ak:=U.aI;have Ea:=eG.lt
 go_wp2_with fail
 refine (WS aq c0 rs bg.out.h0 ar av qs bg.out.h1 bg.out.eI mem ps bo.out _ (bC.out.fx.ae (aj I az)) (bC.out.dL.ae (aj I az))).mono ?_
 exact OQ
theorem WL (aq ar an ao aA:Option Addr) (c0 av c2 c3 c4:Nat) (rs:List aK) (qs:List aQ) (ag af sp:Int) (ws:List Int) (ad:List aO) (os:List Out) (Z:ei aq ar an ao aA c0 av c2 c3 c4 rs qs ws ad os) (mem val yes no bq:Int) (ax:jX rs qs mem= none) (w:World) (R:dI w aq ar an ao aA rs qs ws ad os):
 Calls Tryz.prog 154 #[.agg #[.slice aq rs c0,.slice ar qs av,ag,af,sp,.slice an ws c2,.slice ao ad c3,.slice aA os c4],.agg #[(8:Int),mem,val,yes,no,bq]] w (hq none w):=by
 have bC:=J R;have bg:=J Z;clear R Z;have bo:=J ax;clear ax
 go_in
 go_upto_region 1 with fail
 refine fv fun aG au ai aX U=>?_
 have I:=au;have aC:=ai.aI;have a':=aX.da;have ak:=U.aI
 go_upto_region 2 with fail
 refine cF fun jW al eG=>?_
 replace I:=aj I al;clear aC;replace ai:=ai.to al;have aC:=ai.aI;clear a';replace aX:=aX.to al;have a':=aX.da;clear ak;replace U:=U.to al;have ak:=U.aI
 go_wp2_with fail
 refine (ana aq c0 rs bg.out.h0 ar av qs bg.out.h1 bg.out.eI mem bo.out _ (bC.out.fx.ae (aj I az)) (bC.out.dL.ae (aj I az))).mono ?_
 exact Pb
theorem amD (aq ar an ao aA:Option Addr) (c0 av c2 c3 c4:Nat) (rs:List aK) (qs:List aQ) (ag af sp:Int) (ws:List Int) (ad:List aO) (os:List Out) (Z:ei aq ar an ao aA c0 av c2 c3 c4 rs qs ws ad os) (mem val yes no bq:Int) (ps:List aQ) (ax:jX rs qs mem= some ps) (aV:(sp == 0)= false) (w:World) (R:dI w aq ar an ao aA rs qs ws ad os):
 Calls Tryz.prog 154 #[.agg #[.slice aq rs c0,.slice ar qs av,ag,af,sp,.slice an ws c2,.slice ao ad c3,.slice aA os c4],.agg #[(8:Int),mem,val,yes,no,bq]] w (hq none w):=by
 have bC:=J R;have bg:=J Z;clear R Z;have bo:=J ax;clear ax
 go_in
 go_upto_region 1 with fail
 refine fv fun aG au ai aX U=>?_
 have I:=au;have aC:=ai.aI;have a':=aX.da;have ak:=U.aI
 go_upto_region 2 with fail
 refine cF fun jW al eG=>?_
 replace I:=aj I al;clear aC;replace ai:=ai.to al;have aC:=ai.aI;clear a';replace aX:=aX.to al;have a':=aX.da;clear ak;replace U:=U.to al;have ak:=U.aI
 go_wp2_with fail
 refine (WS aq c0 rs bg.out.h0 ar av qs bg.out.h1 bg.out.eI mem ps bo.out _ (bC.out.fx.ae (aj I az)) (bC.out.dL.ae (aj I az))).mono ?_
 exact aau
theorem amG (aq ar an ao aA:Option Addr) (c0 av c2 c3 c4:Nat) (rs:List aK) (qs:List aQ) (ag af sp:Int) (ws:List Int) (ad:List aO) (os:List Out) (Z:ei aq ar an ao aA c0 av c2 c3 c4 rs qs ws ad os) (mem val yes no bq:Int) (ps:List aQ) (ax:kL rs qs= some ps) (aT:ps.length < qs.length) (w:World) (R:dI w aq ar an ao aA rs qs ws ad os):
 Calls Tryz.prog 154 #[.agg #[.slice aq rs c0,.slice ar qs av,ag,af,sp,.slice an ws c2,.slice ao ad c3,.slice aA os c4],.agg #[(9:Int),mem,val,yes,no,bq]] w (hq (some ⟨rs,ps,ag,af,0,[],[],os⟩) w):=by
 have bC:=J R;have bg:=J Z;clear R Z;have bo:=J ax;clear ax
 go_in
 go_upto_region 1 with fail
 refine fv fun aG au ai aX U=>?_
 have I:=au;have aC:=ai.aI;have a':=aX.da;have ak:=U.aI;have fQ:=U.lt
 go_upto_region 2 with fail
 refine cF fun jW al eG=>?_
 replace I:=aj I al;clear aC;replace ai:=ai.to al;have aC:=ai.aI;clear a';replace aX:=aX.to al;have a':=aX.da;clear ak;replace U:=U.to al;have ak:=U.aI;have Ea:=eG.lt
 go_wp2_with fail
 refine (WE aq c0 rs bg.out.h0 ar av qs bg.out.h1 bg.out.n1 bg.out.eI ps bo.out _ (bC.out.fx.ae (aj I az)) (bC.out.dL.ae (aj I az))).mono ?_
 exact OQ
theorem amF (aq ar an ao aA:Option Addr) (c0 av c2 c3 c4:Nat) (rs:List aK) (qs:List aQ) (ag af sp:Int) (ws:List Int) (ad:List aO) (os:List Out) (Z:ei aq ar an ao aA c0 av c2 c3 c4 rs qs ws ad os) (mem val yes no bq:Int) (ps:List aQ) (ax:kL rs qs= some ps) (aT:¬ps.length < qs.length) (w:World) (R:dI w aq ar an ao aA rs qs ws ad os):
 Calls Tryz.prog 154 #[.agg #[.slice aq rs c0,.slice ar qs av,ag,af,sp,.slice an ws c2,.slice ao ad c3,.slice aA os c4],.agg #[(9:Int),mem,val,yes,no,bq]] w (hq none w):=by
 have bC:=J R;have bg:=J Z;clear R Z;have bo:=J ax;clear ax
 go_in
 go_upto_region 1 with fail
 refine fv fun aG au ai aX U=>?_
 have I:=au;have aC:=ai.aI;have a':=aX.da;have ak:=U.aI
 go_upto_region 2 with fail
 refine cF fun jW al eG=>?_
 replace I:=aj I al;clear aC;replace ai:=ai.to al;have aC:=ai.aI;clear a';replace aX:=aX.to al;have a':=aX.da;clear ak;replace U:=U.to al;have ak:=U.aI
 go_wp2_with fail
 refine (WE aq c0 rs bg.out.h0 ar av qs bg.out.h1 bg.out.n1 bg.out.eI ps bo.out _ (bC.out.fx.ae (aj I az)) (bC.out.dL.ae (aj I az))).mono ?_
 rintro e bB ⟨nJ,nU,rfl,fu,bx⟩
 have aP:=be jW bx;replace I:=aj I aP;replace ai:=ai.to aP;clear aC;have aC:=ai.aI;clear a';replace U:=U.to aP;clear ak;have ak:=U.aI;clear fu;have dM:=U.ib
 go_wp2
 clear aC ak
 refine hR 0 fun cD aE=>?_
 replace I:=aE.aH I;replace U:=aE.ia U;have ak:=U.aI
 refine bodyPost_ret (v:= .tuple #[.agg #[.slice none 0 0,.slice none 0 0,(0:Int),(0:Int),(0:Int),.slice none 0 0,.slice none 0 0,.slice none 0 0],false]) (by simp [results,Tryz.results154,go_sem,ak]) rfl ?_
 exact⟨rfl,I⟩
theorem ZK {p:Prop} (h:p:=by
 rintro e bB ⟨bQ,d0,cn,d1,aZ,d2,bk,d3,bR,d4,rfl,di,bx⟩
 have aP:=be jW bx;replace I:=aj I aP;clear aC;clear a';replace U:=U.to aP;clear ak;have ak:=U.aI;have cJ:=di.kz;have cI:=di.iz;have bI:=di.fi;have bD:=di.fO;have cz:=di.lR;clear di;have fM:=cJ.cu U;have iY:=cI.cu U;have ez:=bI.cu U;have dG:=bD.cu U;have fN:=cz.cu U;have dM:=U.ib
 go_wp2
 clear ak
 refine hR 0 fun cD aE=>?_
 replace I:=aE.aH I;replace U:=aE.ia U;replace cJ:=cJ.bY aE fM;replace cI:=cI.bY aE iY;replace bI:=bI.bY aE ez;replace bD:=bD.bY aE dG;replace cz:=cz.bY aE fN;have ak:=U.aI
 refine bodyPost_ret (v:= .tuple #[.agg #[.slice bQ n.cx d0,.slice cn n.cP d1,n.ek,n.dS,n.fk,.slice aZ n.ds d2,.slice bk n.du d3,.slice bR n.cl d4],true]) (by simp [results,Tryz.results154,go_sem,ak]) rfl ?_
 exact⟨bQ,d0,cn,d1,aZ,d2,bk,d3,bR,d4,rfl,⟨cJ.base (by omega),cI.base (by omega),bI.base (by omega),bD.base (by omega),cz.base (by omega)⟩,I⟩):p:=h
theorem amC (aq ar an ao aA:Option Addr) (c0 av c2 c3 c4:Nat) (rs:List aK) (qs:List aQ) (ag af sp:Int) (ws:List Int) (ad:List aO) (os:List Out) (Z:ei aq ar an ao aA c0 av c2 c3 c4 rs qs ws ad os) (mem val yes no bq:Int) (aV:(sp != 0)= false) (n:cw) (ax:nZ ⟨rs,qs,ag,af,sp,ws,ad,os⟩ ⟨7,mem,val,yes,no,bq⟩ =some n) (aN:dt rs qs= true) (cG:os.length≤12) (w:World) (R:dI w aq ar an ao aA rs qs ws ad os):
 Calls Tryz.prog 154 #[.agg #[.slice aq rs c0,.slice ar qs av,ag,af,sp,.slice an ws c2,.slice ao ad c3,.slice aA os c4],.agg #[(7:Int),mem,val,yes,no,bq]] w (hq (some n) w):=by
 have bC:=J R;have bg:=J Z;clear R Z;have bo:=J ax;clear ax
 go_in
 go_upto_region 1 with fail
 refine fv fun aG au ai aX U=>?_
 have I:=au;have aC:=ai.aI;have a':=aX.da;have ak:=U.aI;have fQ:=U.lt
 go_upto_region 2 with fail
 refine cF fun jW al eG=>?_
 replace I:=aj I al;clear aC;replace ai:=ai.to al;have aC:=ai.aI;clear a';replace aX:=aX.to al;have a':=aX.da;clear ak;replace U:=U.to al;have ak:=U.aI;have Ea:=eG.lt
 go_wp2_with fail
 refine (amZ aq ar an ao aA c0 av c2 c3 c4 rs qs ag af sp ws ad os bg.out mem val yes no bq aV n bo.out aN cG _ (bC.out.ae (aj I az))).mono ?_
 exact ZK
theorem aay {p:Prop} (h:p:=by
 rintro e bB ⟨rfl,bx⟩
 have aP:=be jW bx;replace I:=aj I aP;clear aC;clear a';replace U:=U.to aP;clear ak;have ak:=U.aI;have dM:=U.ib
 go_wp2
 clear ak
 refine hR 0 fun cD aE=>?_
 replace I:=aE.aH I;replace U:=aE.ia U;have ak:=U.aI
 refine bodyPost_ret (v:= .tuple #[.agg #[.slice none 0 0,.slice none 0 0,(0:Int),(0:Int),(0:Int),.slice none 0 0,.slice none 0 0,.slice none 0 0],false]) (by simp [results,Tryz.results154,go_sem,ak]) rfl ?_
 exact⟨rfl,I⟩):p:=h
theorem WK (aq ar an ao aA:Option Addr) (c0 av c2 c3 c4:Nat) (rs:List aK) (qs:List aQ) (ag af sp:Int) (ws:List Int) (ad:List aO) (os:List Out) (Z:ei aq ar an ao aA c0 av c2 c3 c4 rs qs ws ad os) (mem val yes no bq:Int) (ax:sp≠0∨nZ ⟨rs,qs,ag,af,sp,ws,ad,os⟩ ⟨7,mem,val,yes,no,bq⟩ =none) (w:World) (R:dI w aq ar an ao aA rs qs ws ad os):
 Calls Tryz.prog 154 #[.agg #[.slice aq rs c0,.slice ar qs av,ag,af,sp,.slice an ws c2,.slice ao ad c3,.slice aA os c4],.agg #[(7:Int),mem,val,yes,no,bq]] w (hq none w):=by
 have bC:=J R;have bg:=J Z;clear R Z;have bo:=J ax;clear ax
 go_in
 go_upto_region 1 with fail
 refine fv fun aG au ai aX U=>?_
 have I:=au;have aC:=ai.aI;have a':=aX.da;have ak:=U.aI
 go_upto_region 2 with fail
 refine cF fun jW al eG=>?_
 replace I:=aj I al;clear aC;replace ai:=ai.to al;have aC:=ai.aI;clear a';replace aX:=aX.to al;have a':=aX.da;clear ak;replace U:=U.to al;have ak:=U.aI
 go_wp2_with fail
 refine (amX aq ar an ao aA c0 av c2 c3 c4 rs qs ag af sp ws ad os bg.out mem val yes no bq bo.out _ (bC.out.ae (aj I az))).mono ?_
 exact aay
theorem Fi (aq ar an ao aA:Option Addr) (c0 av c2 c3 c4:Nat) (rs:List aK) (qs:List aQ) (ag af sp:Int) (ws:List Int) (ad:List aO) (os:List Out) (Z:ei aq ar an ao aA c0 av c2 c3 c4 rs qs ws ad os) (kind mem val yes no bq:Int) (g1:(kind == 1)= false) (g2:(kind == 2)= false) (g7:(kind == 7)= false) (g8:(kind == 8)= false) (g9:(kind == 9)= false) (o:Option cw) (w:World) (R:dI w aq ar an ao aA rs qs ws ad os) (H:∀W,Below w w W→Calls Tryz.prog 235 #[.agg #[.slice aq rs c0,.slice ar qs av,ag,af,sp,.slice an ws c2,.slice ao ad c3,.slice aA os c4],.agg #[kind,mem,val,yes,no,bq]] W (hq o W)):
 Calls Tryz.prog 154 #[.agg #[.slice aq rs c0,.slice ar qs av,ag,af,sp,.slice an ws c2,.slice ao ad c3,.slice aA os c4],.agg #[kind,mem,val,yes,no,bq]] w (hq o w):=by
 have lI:=J H;clear H R Z
 cases o with
 | none=>
  go_in
  go_upto_region 1 with fail
  refine fv fun aG au ai aX U=>?_
  have I:=au;have aC:=ai.aI;have a':=aX.da;have ak:=U.aI
  go_upto_region 2 with fail
  refine cF fun jW al eG=>?_
  replace I:=aj I al;clear aC;replace ai:=ai.to al;have aC:=ai.aI;clear a';replace aX:=aX.to al;have a':=aX.da;clear ak;replace U:=U.to al;have ak:=U.aI
  go_wp2_with fail
  refine (lI.out _ (aj I az)).mono ?_
  exact aay
 | some n=>
  go_in
  go_upto_region 1 with fail
  refine fv fun aG au ai aX U=>?_
  have I:=au;have aC:=ai.aI;have a':=aX.da;have ak:=U.aI;have fQ:=U.lt
  go_upto_region 2 with fail
  refine cF fun jW al eG=>?_
  replace I:=aj I al;clear aC;replace ai:=ai.to al;have aC:=ai.aI;clear a';replace aX:=aX.to al;have a':=aX.da;clear ak;replace U:=U.to al;have ak:=U.aI;have Ea:=eG.lt
  go_wp2_with fail
  refine (lI.out _ (aj I az)).mono ?_
  exact ZK
theorem amB (aq ar an ao aA:Option Addr) (c0 av c2 c3 c4:Nat) (rs:List aK) (qs:List aQ) (ag af sp:Int) (ws:List Int) (ad:List aO) (os:List Out) (Z:ei aq ar an ao aA c0 av c2 c3 c4 rs qs ws ad os) (mem val yes no bq:Int) (ps:List aQ) (ax:jJ rs qs mem= some ps) (w:World) (R:dI w aq ar an ao aA rs qs ws ad os):
 Calls Tryz.prog 154 #[.agg #[.slice aq rs c0,.slice ar qs av,ag,af,sp,.slice an ws c2,.slice ao ad c3,.slice aA os c4],.agg #[(2:Int),mem,val,yes,no,bq]] w (hq (some ⟨rs,ps,ag,af,sp,ws,ad,os⟩) w):=by
 have bC:=J R;have bg:=J Z;clear R Z;have bo:=J ax;clear ax
 go_in
 go_upto_region 1 with fail
 refine fv fun aG au ai aX U=>?_
 have I:=au;have aC:=ai.aI;have a':=aX.da;have ak:=U.aI;have fQ:=U.lt
 go_upto_region 2 with fail
 refine cF fun jW al eG=>?_
 replace I:=aj I al;clear aC;replace ai:=ai.to al;have aC:=ai.aI;clear a';replace aX:=aX.to al;have a':=aX.da;clear ak;replace U:=U.to al;have ak:=U.aI;have Ea:=eG.lt
 go_wp2_with fail
 refine (amS aq c0 rs bg.out.h0 ar av qs bg.out.h1 bg.out.n1 mem ps bo.out _ (bC.out.fx.ae (aj I az)) (bC.out.dL.ae (aj I az))).mono ?_
 rintro e bB ⟨nJ,nU,rfl,fu,bx⟩
 have aP:=be jW bx;replace I:=aj I aP;replace ai:=ai.to aP;clear aC;have aC:=ai.aI;clear a';replace U:=U.to aP;clear ak;have ak:=U.aI;have anB:=aP.size;have tR:=I.size
 go_wp2_with fail
 refine (ED aq ar an ao aA c0 av c2 c3 c4 rs qs ag af sp ws ad os bg.out _ (bC.out.ae (aj I az))).mono ?_
 rintro e bU ⟨cy,e0,cv,e1,cU,e2,cV,e3,cA,e4,rfl,di,cY⟩
 have bN:=be bB cY;replace I:=aj I bN;replace fu:=fu.bm bN;clear aC;replace U:=U.to bN;clear ak;have ak:=U.aI;have XB:=bN.size;have IC:=I.size
 go_upto_region 13 with fail
 have kH:=di.bm (bT bU (.cells #[.slice cy rs e0,.slice cv qs e1,ag,af,sp,.slice cU ws e2,.slice cV ad e3,.slice cA os e4] 44));clear di;have cK:Below bU bU (World.alloc bU (.cells #[.slice cy rs e0,.slice cv qs e1,ag,af,sp,.slice cU ws e2,.slice cV ad e3,.slice cA os e4] 44)):=bT bU _
 have aR:=aB.new bU 44 #[.slice cy rs e0,.slice cv qs e1,ag,af,sp,.slice cU ws e2,.slice cV ad e3,.slice cA os e4]
 replace fu:=fu.bm cK
 generalize World.alloc bU (.cells #[.slice cy rs e0,.slice cv qs e1,ag,af,sp,.slice cU ws e2,.slice cV ad e3,.slice cA os e4] 44)= sB at *
 replace I:=aj I cK;have bF:=aR.aI;clear ak;replace U:=U.to cK;have ak:=U.aI;have cJ:=kH.kz;have bI:=kH.fi;have bD:=kH.fO;have cz:=kH.lR;clear kH;have yE:=aR.frozen 1;have fM:=cJ.cu aR;have ry:=fu.cu aR;have ez:=bI.cu aR;have dG:=bD.cu aR;have fN:=cz.cu aR
 go_upto_region 14 with fail
 clear ak bF
 refine mF 1 fun lx eJ=>?_
 replace I:=eJ.aH I;replace U:=eJ.dV U;replace aR:=eJ.Ik aR;replace fu:=fu.bY eJ ry;replace cJ:=cJ.bY eJ fM;replace bI:=bI.bY eJ ez;replace bD:=bD.bY eJ dG;replace cz:=cz.bY eJ fN
 have ak:=U.aI;have bF:=aR.aI;clear fM ry ez dG fN yE;have fM:=cJ.cu U;have ry:=fu.cu U;have ez:=bI.cu U;have dG:=bD.cu U;have fN:=cz.cu U;have dM:=U.ib
 go_wp2
 clear ak bF
 refine hR 0 fun cD aE=>?_
 replace I:=aE.aH I;replace U:=aE.ia U;replace fu:=fu.bY aE ry;replace cJ:=cJ.bY aE fM;replace bI:=bI.bY aE ez;replace bD:=bD.bY aE dG;replace cz:=cz.bY aE fN;have ak:=U.aI
 refine bodyPost_ret (v:= .tuple #[.agg #[.slice cy rs e0,.slice nJ ps nU,ag,af,sp,.slice cU ws e2,.slice cV ad e3,.slice cA os e4],true]) (by simp [results,Tryz.results154,go_sem,ak]) rfl ?_
 exact YN
theorem amA (aq ar an ao aA:Option Addr) (c0 av c2 c3 c4:Nat) (rs:List aK) (qs:List aQ) (ag af sp:Int) (ws:List Int) (ad:List aO) (os:List Out) (Z:ei aq ar an ao aA c0 av c2 c3 c4 rs qs ws ad os) (mem val yes no bq:Int) (ax:jJ rs qs mem= none) (w:World) (R:dI w aq ar an ao aA rs qs ws ad os):
 Calls Tryz.prog 154 #[.agg #[.slice aq rs c0,.slice ar qs av,ag,af,sp,.slice an ws c2,.slice ao ad c3,.slice aA os c4],.agg #[(2:Int),mem,val,yes,no,bq]] w (hq none w):=by
 have bC:=J R;have bg:=J Z;clear R Z;have bo:=J ax;clear ax
 go_in
 go_upto_region 1 with fail
 refine fv fun aG au ai aX U=>?_
 have I:=au;have aC:=ai.aI;have a':=aX.da;have ak:=U.aI
 go_upto_region 2 with fail
 refine cF fun jW al eG=>?_
 replace I:=aj I al;clear aC;replace ai:=ai.to al;have aC:=ai.aI;clear a';replace aX:=aX.to al;have a':=aX.da;clear ak;replace U:=U.to al;have ak:=U.aI
 go_wp2_with fail
 refine (amR aq c0 rs bg.out.h0 ar av qs bg.out.h1 bg.out.n1 mem bo.out _ (bC.out.fx.ae (aj I az)) (bC.out.dL.ae (aj I az))).mono ?_
 exact Pb
open Go.RowKit Go.G9
theorem wH {sp:Int} (h:(sp != 0)= false):(sp == 0)= true:=by rw [bne] at h;simpa using h
theorem wo {sp:Int} (h:(sp != 0)= true):(sp == 0)= false:=by rw [bne] at h;simpa using h
theorem GC {rs:List aK} {qs:List aQ} (h:dt rs qs= true):kL rs qs= some (uo rs qs):=by rw [kL,if_pos h]
theorem Rd {rs:List aK} {qs:List aQ} (h:jx rs qs= true):(uo rs qs).length < qs.length:=by
 obtain⟨j,q,bE,_⟩:=EH h
 rw [uo,if_pos h,List.length_take];omega
theorem Rc {rs:List aK} {qs:List aQ} (h:jx rs qs= false):¬(uo rs qs).length < qs.length:=by
 rw [uo,h];simp
theorem Xn (ag af sp:Int) (ws:List Int) (ad:List aO) (val:Int):∃dk bP bS,jt ⟨ag,af,sp,ws,ad⟩ val=⟨ag,af,dk,bP,bS⟩:=by
 unfold jt;split <;> exact⟨_,_,_,rfl⟩
theorem Zm {p:Prop} (h:p:=by
 unfold gC rU;simp only [if_neg eI,if_neg cp,if_neg ef,if_neg hY,if_neg Bs,if_neg Bt,if_neg Bu,if_neg Bv,if_neg Bw]):p:=h
theorem ahQ (aq ar an ao aA:Option Addr) (c0 av c2 c3 c4:Nat) (rs:List aK) (qs:List aQ) (ag af sp:Int) (ws:List Int) (ad:List aO) (os:List Out) (Z:ei aq ar an ao aA c0 av c2 c3 c4 rs qs ws ad os) (kind mem val yes no bq:Int) (h:gR ⟨rs,qs,ag,af,sp,ws,ad,os⟩) (w:World) (R:dI w aq ar an ao aA rs qs ws ad os):
 Calls Tryz.prog 103 #[.agg #[.slice aq rs c0,.slice ar qs av,ag,af,sp,.slice an ws c2,.slice ao ad c3,.slice aA os c4],.agg #[kind,mem,val,yes,no,bq]] w (hq (gC ⟨rs,qs,ag,af,sp,ws,ad,os⟩ ⟨kind,mem,val,yes,no,bq⟩) w):=by
 have aN:dt rs qs= true:=h.ho
 by_cases eI:kind= 1
 ·subst eI
  refine ahS aq ar an ao aA c0 av c2 c3 c4 rs qs ag af sp ws ad os Z mem val yes no bq _ w R fun W aF=>?_
  have fl:=R.ae aF
  unfold gC;rw [if_pos rfl];dsimp only
  cases aV:(sp != 0)
  ·rw [if_pos (wH aV)]
   cases ax:jy rs qs val mem with
   | none=>exact ahl aq ar an ao aA c0 av c2 c3 c4 rs qs ag af sp ws ad os Z mem val yes no bq ax aV W fl
   | some ps=>exact ahm aq ar an ao aA c0 av c2 c3 c4 rs qs ag af sp ws ad os Z mem val yes no bq ps ax aV W fl
  ·rw [if_neg (by rw [wo aV];decide)]
   exact Hx aq ar an ao aA c0 av c2 c3 c4 rs qs ag af sp ws ad os Z 1 mem val yes no bq aV W fl
 by_cases cp:kind= 2
 ·subst cp
  have fl:=R
  generalize bL:w= W at *
  unfold gC;rw [if_neg (by decide:¬(2:Int)= 1)];rw [if_pos rfl];dsimp only
  cases ax:jJ rs qs mem with
  | none=>exact ahT aq ar an ao aA c0 av c2 c3 c4 rs qs ag af sp ws ad os Z mem val yes no bq ax W fl
  | some ps=>exact ahU aq ar an ao aA c0 av c2 c3 c4 rs qs ag af sp ws ad os Z mem val yes no bq ps ax W fl
 by_cases Bu:kind= 7
 ·subst Bu
  refine ahZ aq ar an ao aA c0 av c2 c3 c4 rs qs ag af sp ws ad os Z mem val yes no bq _ w R fun W aF=>?_
  have fl:=R.ae aF
  unfold gC;rw [if_neg (by decide:¬(7:Int)= 1)];rw [if_neg (by decide:¬(7:Int)= 2)];rw [if_pos rfl];dsimp only
  cases aV:(sp != 0)
  ·rw [if_pos (wH aV)]
   cases ax:nZ ⟨rs,qs,ag,af,sp,ws,ad,os⟩ ⟨7,mem,val,yes,no,bq⟩ with
   | none=>exact ahn aq ar an ao aA c0 av c2 c3 c4 rs qs ag af sp ws ad os Z mem val yes no bq aV ax W fl
   | some n=>exact aho aq ar an ao aA c0 av c2 c3 c4 rs qs ag af sp ws ad os Z mem val yes no bq aV n ax aN h.ol W fl
  ·rw [if_neg (by rw [wo aV];decide)]
   exact Hx aq ar an ao aA c0 av c2 c3 c4 rs qs ag af sp ws ad os Z 7 mem val yes no bq aV W fl
 by_cases Bv:kind= 8
 ·subst Bv
  refine aia aq ar an ao aA c0 av c2 c3 c4 rs qs ag af sp ws ad os Z mem val yes no bq _ w R fun W aF=>?_
  have fl:=R.ae aF
  unfold gC;rw [if_neg (by decide:¬(8:Int)= 1)];rw [if_neg (by decide:¬(8:Int)= 2)];rw [if_neg (by decide:¬(8:Int)= 7)];rw [if_pos rfl];dsimp only
  cases aV:(sp != 0)
  ·rw [if_pos (wH aV)]
   cases ax:jX rs qs mem with
   | none=>exact ahp aq ar an ao aA c0 av c2 c3 c4 rs qs ag af sp ws ad os Z mem val yes no bq ax aV W fl
   | some ps=>exact ahq aq ar an ao aA c0 av c2 c3 c4 rs qs ag af sp ws ad os Z mem val yes no bq ps ax aV W fl
  ·rw [if_neg (by rw [wo aV];decide)]
   exact Hx aq ar an ao aA c0 av c2 c3 c4 rs qs ag af sp ws ad os Z 8 mem val yes no bq aV W fl
 by_cases Bw:kind= 9
 ·subst Bw
  refine aib aq ar an ao aA c0 av c2 c3 c4 rs qs ag af sp ws ad os Z mem val yes no bq _ w R fun W aF=>?_
  have fl:=R.ae aF
  unfold gC;rw [if_neg (by decide:¬(9:Int)= 1)];rw [if_neg (by decide:¬(9:Int)= 2)];rw [if_neg (by decide:¬(9:Int)= 7)];rw [if_neg (by decide:¬(9:Int)= 8)];rw [if_pos rfl];dsimp only
  cases aV:(sp != 0)
  ·cases aT:jx rs qs
   ·rw [if_neg (by simp)]
    exact ahr aq ar an ao aA c0 av c2 c3 c4 rs qs ag af sp ws ad os Z mem val yes no bq _ (GC aN) aV (Rc aT) W fl
   ·rw [if_pos (by rw [wH aV,aN];rfl)]
    exact ahs aq ar an ao aA c0 av c2 c3 c4 rs qs ag af sp ws ad os Z mem val yes no bq _ (GC aN) aV (Rd aT) W fl
  ·rw [if_neg (by rw [wo aV];simp)]
   exact Hx aq ar an ao aA c0 av c2 c3 c4 rs qs ag af sp ws ad os Z 9 mem val yes no bq aV W fl
 by_cases ef:kind= 3
 ·subst ef
  refine ahV aq ar an ao aA c0 av c2 c3 c4 rs qs ag af sp ws ad os Z mem val yes no bq _ w R fun W aF=>?_
  have fl:=R.ae aF
  unfold gC;rw [if_neg (by decide:¬(3:Int)= 1)];rw [if_neg (by decide:¬(3:Int)= 2)];rw [if_neg (by decide:¬(3:Int)= 7)];rw [if_neg (by decide:¬(3:Int)= 8)];rw [if_neg (by decide:¬(3:Int)= 9)];unfold rU;rw [if_pos rfl];dsimp only
  cases ax:mM ⟨ag,af,sp,ws,ad⟩ mem
  ·rw [if_neg (by simp only [cw.fV,ax,Bool.false_and];decide)]
   exact ahy aq ar an ao aA c0 av c2 c3 c4 rs qs ag af sp ws ad os Z mem val yes no bq ax aN W fl
  ·cases bJ:hl rs qs
   ·rw [if_neg (by simp only [bJ,Bool.and_false];decide)]
    exact ahx aq ar an ao aA c0 av c2 c3 c4 rs qs ag af sp ws ad os Z mem val yes no bq ax bJ aN W fl
   ·rw [if_pos (by simp only [cw.fV,ax,bJ,Bool.and_self])]
    exact ahz aq ar an ao aA c0 av c2 c3 c4 rs qs ag af sp ws ad os Z mem val yes no bq _ _ _ ax rfl aN bJ W fl
 by_cases hY:kind= 4
 ·subst hY
  refine ahW aq ar an ao aA c0 av c2 c3 c4 rs qs ag af sp ws ad os Z mem val yes no bq _ w R fun W aF=>?_
  have fl:=R.ae aF
  unfold gC;rw [if_neg (by decide:¬(4:Int)= 1)];rw [if_neg (by decide:¬(4:Int)= 2)];rw [if_neg (by decide:¬(4:Int)= 7)];rw [if_neg (by decide:¬(4:Int)= 8)];rw [if_neg (by decide:¬(4:Int)= 9)];unfold rU;rw [if_neg (by decide:¬(4:Int)= 3)];rw [if_pos rfl];dsimp only
  cases ax:lP ⟨ag,af,sp,ws,ad⟩
  ·rw [if_neg (by simp only [cw.fV,ax,Bool.false_and];decide)]
   exact ahB aq ar an ao aA c0 av c2 c3 c4 rs qs ag af sp ws ad os Z mem val yes no bq ax aN W fl
  ·cases bJ:hl rs qs
   ·rw [if_neg (by simp only [bJ,Bool.and_false];decide)]
    exact ahA aq ar an ao aA c0 av c2 c3 c4 rs qs ag af sp ws ad os Z mem val yes no bq ax bJ aN W fl
   ·rw [if_pos (by simp only [cw.fV,ax,bJ,Bool.and_self])]
    cases bj:rA ⟨ag,af,sp,ws,ad⟩ with
    | none=>exact absurd (Np (f:=⟨ag,af,sp,ws,ad⟩) (by simp only [lP,Bool.and_eq_true,decide_eq_true_eq] at ax;exact ax.2.2)) (by rw [bj];simp)
    | some q=>
     simp only [cw.fV,bj,Option.map_some]
     exact ahC aq ar an ao aA c0 av c2 c3 c4 rs qs ag af sp ws ad os Z mem val yes no bq q bj _ _ _ ax rfl aN bJ W fl
 by_cases Bs:kind= 5
 ·subst Bs
  refine ahX aq ar an ao aA c0 av c2 c3 c4 rs qs ag af sp ws ad os Z mem val yes no bq _ w R fun W aF=>?_
  have fl:=R.ae aF
  unfold gC;rw [if_neg (by decide:¬(5:Int)= 1)];rw [if_neg (by decide:¬(5:Int)= 2)];rw [if_neg (by decide:¬(5:Int)= 7)];rw [if_neg (by decide:¬(5:Int)= 8)];rw [if_neg (by decide:¬(5:Int)= 9)];unfold rU;rw [if_neg (by decide:¬(5:Int)= 3)];rw [if_neg (by decide:¬(5:Int)= 4)];rw [if_pos rfl];dsimp only
  cases ax:nf ⟨ag,af,sp,ws,ad⟩ val
  ·rw [if_neg (by simp only [cw.fV,ax,Bool.false_and];decide)]
   exact ahE aq ar an ao aA c0 av c2 c3 c4 rs qs ag af sp ws ad os Z mem val yes no bq ax aN W fl
  ·cases bJ:hl rs qs
   ·rw [if_neg (by simp only [bJ,Bool.and_false];decide)]
    exact ahD aq ar an ao aA c0 av c2 c3 c4 rs qs ag af sp ws ad os Z mem val yes no bq ax bJ aN W fl
   ·rw [if_pos (by simp only [cw.fV,ax,bJ,Bool.and_self])]
    obtain⟨dk,bP,bS,he⟩:=Xn ag af sp ws ad val
    simp only [cw.fV,he]
    exact ahF aq ar an ao aA c0 av c2 c3 c4 rs qs ag af sp ws ad os Z mem val yes no bq dk bP bS ax he aN bJ W fl
 by_cases Bt:kind= 6
 ·subst Bt
  refine ahY aq ar an ao aA c0 av c2 c3 c4 rs qs ag af sp ws ad os Z mem val yes no bq _ w R fun W aF=>?_
  have fl:=R.ae aF
  unfold gC;rw [if_neg (by decide:¬(6:Int)= 1)];rw [if_neg (by decide:¬(6:Int)= 2)];rw [if_neg (by decide:¬(6:Int)= 7)];rw [if_neg (by decide:¬(6:Int)= 8)];rw [if_neg (by decide:¬(6:Int)= 9)];unfold rU;rw [if_neg (by decide:¬(6:Int)= 3)];rw [if_neg (by decide:¬(6:Int)= 4)];rw [if_neg (by decide:¬(6:Int)= 5)];rw [if_pos rfl];dsimp only
  cases ax:lE ⟨ag,af,sp,ws,ad⟩
  ·rw [if_neg (by simp only [cw.fV,ax,Bool.false_and];decide)]
   exact ahH aq ar an ao aA c0 av c2 c3 c4 rs qs ag af sp ws ad os Z mem val yes no bq ax aN W fl
  ·cases bJ:hl rs qs
   ·rw [if_neg (by simp only [bJ,Bool.and_false];decide)]
    exact ahG aq ar an ao aA c0 av c2 c3 c4 rs qs ag af sp ws ad os Z mem val yes no bq ax bJ aN W fl
   ·rw [if_pos (by simp only [cw.fV,ax,bJ,Bool.and_self])]
    exact ahI aq ar an ao aA c0 av c2 c3 c4 rs qs ag af sp ws ad os Z mem val yes no bq _ _ _ ax rfl aN bJ W fl
 have e:gC ⟨rs,qs,ag,af,sp,ws,ad,os⟩ ⟨kind,mem,val,yes,no,bq⟩ =none:=by
  exact Zm
 rw [e]
 exact aid aq ar an ao aA c0 av c2 c3 c4 rs qs ag af sp ws ad os Z kind mem val yes no bq (beq_eq_false_iff_ne.2 eI) (beq_eq_false_iff_ne.2 cp) (beq_eq_false_iff_ne.2 ef) (beq_eq_false_iff_ne.2 hY) (beq_eq_false_iff_ne.2 Bs) (beq_eq_false_iff_ne.2 Bt) (beq_eq_false_iff_ne.2 Bu) (beq_eq_false_iff_ne.2 Bv) (beq_eq_false_iff_ne.2 Bw) w R
theorem ZF {p:Prop} (h:p:=by
 exact amf aq ar an ao aA c0 av c2 c3 c4 rs qs ag af sp ws ad os Z mem val yes no bq bJ aN W fl):p:=h
theorem amv (aq ar an ao aA:Option Addr) (c0 av c2 c3 c4:Nat) (rs:List aK) (qs:List aQ) (ag af sp:Int) (ws:List Int) (ad:List aO) (os:List Out) (Z:ei aq ar an ao aA c0 av c2 c3 c4 rs qs ws ad os) (kind mem val yes no bq:Int) (h:gR ⟨rs,qs,ag,af,sp,ws,ad,os⟩) (w:World) (R:dI w aq ar an ao aA rs qs ws ad os):
 Calls Tryz.prog 154 #[.agg #[.slice aq rs c0,.slice ar qs av,ag,af,sp,.slice an ws c2,.slice ao ad c3,.slice aA os c4],.agg #[kind,mem,val,yes,no,bq]] w (hq (gC ⟨rs,qs,ag,af,sp,ws,ad,os⟩ ⟨kind,mem,val,yes,no,bq⟩) w):=by
 have aN:dt rs qs= true:=h.ho
 by_cases eI:kind= 1
 ·subst eI
  have fl:=R
  generalize bL:w= W at *
  unfold gC;rw [if_pos rfl];dsimp only
  cases aV:(sp != 0)
  ·rw [if_pos (wH aV)]
   cases ax:jy rs qs val mem with
   | none=>exact WJ aq ar an ao aA c0 av c2 c3 c4 rs qs ag af sp ws ad os Z mem val yes no bq ax W fl
   | some ps=>exact amz aq ar an ao aA c0 av c2 c3 c4 rs qs ag af sp ws ad os Z mem val yes no bq ps ax (wH aV) W fl
  ·rw [if_neg (by rw [wo aV];decide)]
   cases ax:jy rs qs val mem with
   | none=>exact WJ aq ar an ao aA c0 av c2 c3 c4 rs qs ag af sp ws ad os Z mem val yes no bq ax W fl
   | some ps=>exact amy aq ar an ao aA c0 av c2 c3 c4 rs qs ag af sp ws ad os Z mem val yes no bq ps ax (wo aV) W fl
 by_cases cp:kind= 2
 ·subst cp
  have fl:=R
  generalize bL:w= W at *
  unfold gC;rw [if_neg (by decide:¬(2:Int)= 1)];rw [if_pos rfl];dsimp only
  cases ax:jJ rs qs mem with
  | none=>exact amA aq ar an ao aA c0 av c2 c3 c4 rs qs ag af sp ws ad os Z mem val yes no bq ax W fl
  | some ps=>exact amB aq ar an ao aA c0 av c2 c3 c4 rs qs ag af sp ws ad os Z mem val yes no bq ps ax W fl
 by_cases Bu:kind= 7
 ·subst Bu
  have fl:=R
  generalize bL:w= W at *
  unfold gC;rw [if_neg (by decide:¬(7:Int)= 1)];rw [if_neg (by decide:¬(7:Int)= 2)];rw [if_pos rfl];dsimp only
  cases aV:(sp != 0)
  ·rw [if_pos (wH aV)]
   cases ax:nZ ⟨rs,qs,ag,af,sp,ws,ad,os⟩ ⟨7,mem,val,yes,no,bq⟩ with
   | none=>exact WK aq ar an ao aA c0 av c2 c3 c4 rs qs ag af sp ws ad os Z mem val yes no bq (Or.inr ax) W fl
   | some n=>exact amC aq ar an ao aA c0 av c2 c3 c4 rs qs ag af sp ws ad os Z mem val yes no bq aV n ax aN h.ol W fl
  ·rw [if_neg (by rw [wo aV];decide)]
   exact WK aq ar an ao aA c0 av c2 c3 c4 rs qs ag af sp ws ad os Z mem val yes no bq (Or.inl (by simpa using aV)) W fl
 by_cases Bv:kind= 8
 ·subst Bv
  have fl:=R
  generalize bL:w= W at *
  unfold gC;rw [if_neg (by decide:¬(8:Int)= 1)];rw [if_neg (by decide:¬(8:Int)= 2)];rw [if_neg (by decide:¬(8:Int)= 7)];rw [if_pos rfl];dsimp only
  cases aV:(sp != 0)
  ·rw [if_pos (wH aV)]
   cases ax:jX rs qs mem with
   | none=>exact WL aq ar an ao aA c0 av c2 c3 c4 rs qs ag af sp ws ad os Z mem val yes no bq ax W fl
   | some ps=>exact amE aq ar an ao aA c0 av c2 c3 c4 rs qs ag af sp ws ad os Z mem val yes no bq ps ax (wH aV) W fl
  ·rw [if_neg (by rw [wo aV];decide)]
   cases ax:jX rs qs mem with
   | none=>exact WL aq ar an ao aA c0 av c2 c3 c4 rs qs ag af sp ws ad os Z mem val yes no bq ax W fl
   | some ps=>exact amD aq ar an ao aA c0 av c2 c3 c4 rs qs ag af sp ws ad os Z mem val yes no bq ps ax (wo aV) W fl
 by_cases Bw:kind= 9
 ·subst Bw
  have fl:=R
  generalize bL:w= W at *
  unfold gC;rw [if_neg (by decide:¬(9:Int)= 1)];rw [if_neg (by decide:¬(9:Int)= 2)];rw [if_neg (by decide:¬(9:Int)= 7)];rw [if_neg (by decide:¬(9:Int)= 8)];rw [if_pos rfl];dsimp only
  cases aT:jx rs qs
  ·rw [if_neg (by simp)]
   exact amF aq ar an ao aA c0 av c2 c3 c4 rs qs ag af sp ws ad os Z mem val yes no bq _ (GC aN) (Rc aT) W fl
  ·have h0:sp= 0:=anr h aT
   rw [if_pos (by rw [h0,aN];rfl)]
   exact amG aq ar an ao aA c0 av c2 c3 c4 rs qs ag af sp ws ad os Z mem val yes no bq _ (GC aN) (Rd aT) W fl
 by_cases ef:kind= 3
 ·subst ef
  refine Fi aq ar an ao aA c0 av c2 c3 c4 rs qs ag af sp ws ad os Z 3 mem val yes no bq (by decide) (by decide) (by decide) (by decide) (by decide) _ w R fun W aF=>?_
  have fl:=R.ae aF
  unfold gC;rw [if_neg (by decide:¬(3:Int)= 1)];rw [if_neg (by decide:¬(3:Int)= 2)];rw [if_neg (by decide:¬(3:Int)= 7)];rw [if_neg (by decide:¬(3:Int)= 8)];rw [if_neg (by decide:¬(3:Int)= 9)];unfold rU;rw [if_pos rfl];dsimp only
  cases ax:mM ⟨ag,af,sp,ws,ad⟩ mem
  ·rw [if_neg (by simp only [cw.fV,ax,Bool.false_and];decide)]
   cases bJ:hl rs qs
   ·exact ZF
   ·exact amg aq ar an ao aA c0 av c2 c3 c4 rs qs ag af sp ws ad os Z mem val yes no bq ax bJ aN W fl
  ·cases bJ:hl rs qs
   ·rw [if_neg (by simp only [bJ,Bool.and_false];decide)]
    exact ZF
   ·rw [if_pos (by simp only [cw.fV,ax,bJ,Bool.and_self])]
    exact amh aq ar an ao aA c0 av c2 c3 c4 rs qs ag af sp ws ad os Z mem val yes no bq _ _ _ ax rfl aN bJ W fl
 by_cases hY:kind= 4
 ·subst hY
  refine Fi aq ar an ao aA c0 av c2 c3 c4 rs qs ag af sp ws ad os Z 4 mem val yes no bq (by decide) (by decide) (by decide) (by decide) (by decide) _ w R fun W aF=>?_
  have fl:=R.ae aF
  unfold gC;rw [if_neg (by decide:¬(4:Int)= 1)];rw [if_neg (by decide:¬(4:Int)= 2)];rw [if_neg (by decide:¬(4:Int)= 7)];rw [if_neg (by decide:¬(4:Int)= 8)];rw [if_neg (by decide:¬(4:Int)= 9)];unfold rU;rw [if_neg (by decide:¬(4:Int)= 3)];rw [if_pos rfl];dsimp only
  cases ax:lP ⟨ag,af,sp,ws,ad⟩
  ·rw [if_neg (by simp only [cw.fV,ax,Bool.false_and];decide)]
   exact ami aq ar an ao aA c0 av c2 c3 c4 rs qs ag af sp ws ad os Z mem val yes no bq ax aN W fl
  ·cases bJ:hl rs qs
   ·rw [if_neg (by simp only [bJ,Bool.and_false];decide)]
    exact absurd (adE h (by simp only [lP,Bool.and_eq_true,decide_eq_true_eq] at ax;exact ax.2.2)) (by show¬hl rs qs= true;rw [bJ];decide)
   ·rw [if_pos (by simp only [cw.fV,ax,bJ,Bool.and_self])]
    cases bj:rA ⟨ag,af,sp,ws,ad⟩ with
    | none=>exact absurd (Np (f:=⟨ag,af,sp,ws,ad⟩) (by simp only [lP,Bool.and_eq_true,decide_eq_true_eq] at ax;exact ax.2.2)) (by rw [bj];simp)
    | some q=>
     simp only [cw.fV,bj,Option.map_some]
     exact amj aq ar an ao aA c0 av c2 c3 c4 rs qs ag af sp ws ad os Z mem val yes no bq q bj _ _ _ ax rfl aN bJ W fl
 by_cases Bs:kind= 5
 ·subst Bs
  refine Fi aq ar an ao aA c0 av c2 c3 c4 rs qs ag af sp ws ad os Z 5 mem val yes no bq (by decide) (by decide) (by decide) (by decide) (by decide) _ w R fun W aF=>?_
  have fl:=R.ae aF
  unfold gC;rw [if_neg (by decide:¬(5:Int)= 1)];rw [if_neg (by decide:¬(5:Int)= 2)];rw [if_neg (by decide:¬(5:Int)= 7)];rw [if_neg (by decide:¬(5:Int)= 8)];rw [if_neg (by decide:¬(5:Int)= 9)];unfold rU;rw [if_neg (by decide:¬(5:Int)= 3)];rw [if_neg (by decide:¬(5:Int)= 4)];rw [if_pos rfl];dsimp only
  cases ax:nf ⟨ag,af,sp,ws,ad⟩ val
  ·rw [if_neg (by simp only [cw.fV,ax,Bool.false_and];decide)]
   exact amk aq ar an ao aA c0 av c2 c3 c4 rs qs ag af sp ws ad os Z mem val yes no bq ax aN W fl
  ·cases bJ:hl rs qs
   ·rw [if_neg (by simp only [bJ,Bool.and_false];decide)]
    exact absurd (Rb h (Fk ax).2.1) (by show¬hl rs qs= true;rw [bJ];decide)
   ·rw [if_pos (by simp only [cw.fV,ax,bJ,Bool.and_self])]
    obtain⟨dk,bP,bS,he⟩:=Xn ag af sp ws ad val
    simp only [cw.fV,he]
    exact aml aq ar an ao aA c0 av c2 c3 c4 rs qs ag af sp ws ad os Z mem val yes no bq dk bP bS ax he aN bJ W fl
 by_cases Bt:kind= 6
 ·subst Bt
  refine Fi aq ar an ao aA c0 av c2 c3 c4 rs qs ag af sp ws ad os Z 6 mem val yes no bq (by decide) (by decide) (by decide) (by decide) (by decide) _ w R fun W aF=>?_
  have fl:=R.ae aF
  unfold gC;rw [if_neg (by decide:¬(6:Int)= 1)];rw [if_neg (by decide:¬(6:Int)= 2)];rw [if_neg (by decide:¬(6:Int)= 7)];rw [if_neg (by decide:¬(6:Int)= 8)];rw [if_neg (by decide:¬(6:Int)= 9)];unfold rU;rw [if_neg (by decide:¬(6:Int)= 3)];rw [if_neg (by decide:¬(6:Int)= 4)];rw [if_neg (by decide:¬(6:Int)= 5)];rw [if_pos rfl];dsimp only
  cases ax:lE ⟨ag,af,sp,ws,ad⟩
  ·rw [if_neg (by simp only [cw.fV,ax,Bool.false_and];decide)]
   exact amm aq ar an ao aA c0 av c2 c3 c4 rs qs ag af sp ws ad os Z mem val yes no bq ax aN W fl
  ·cases bJ:hl rs qs
   ·rw [if_neg (by simp only [bJ,Bool.and_false];decide)]
    exact absurd (Rb h (by simp only [lE,Bool.and_eq_true,Bool.not_eq_true',beq_eq_false_iff_ne] at ax;exact ax.2)) (by show¬hl rs qs= true;rw [bJ];decide)
   ·rw [if_pos (by simp only [cw.fV,ax,bJ,Bool.and_self])]
    exact amn aq ar an ao aA c0 av c2 c3 c4 rs qs ag af sp ws ad os Z mem val yes no bq _ _ _ ax rfl aN bJ W fl
 have e:gC ⟨rs,qs,ag,af,sp,ws,ad,os⟩ ⟨kind,mem,val,yes,no,bq⟩ =none:=by
  exact Zm
 rw [e]
 refine Fi aq ar an ao aA c0 av c2 c3 c4 rs qs ag af sp ws ad os Z kind mem val yes no bq (beq_eq_false_iff_ne.2 eI) (beq_eq_false_iff_ne.2 cp) (beq_eq_false_iff_ne.2 Bu) (beq_eq_false_iff_ne.2 Bv) (beq_eq_false_iff_ne.2 Bw) none w R fun W aF=>?_
 exact amo aq ar an ao aA c0 av c2 c3 c4 rs qs ag af sp ws ad os Z kind mem val yes no bq (beq_eq_false_iff_ne.2 ef) (beq_eq_false_iff_ne.2 hY) (beq_eq_false_iff_ne.2 Bs) (beq_eq_false_iff_ne.2 Bt) aN W (R.ae aF)
open Go.RowKit Go.G9
structure eY where
 cx:List aK
 cP:List aQ
 ek:Int
 dS:Int
 fk:Int
 ds:List Int
 du:List aO
 cl:List Out
 eP:ByteArray
 eR:ByteArray
 dW:Int
def eY.lC (c:eY):cw:=⟨c.cx,c.cP,c.ek,c.dS,c.fk,c.ds,c.du,c.cl⟩
def cw.Gy (m:cw) (d p:ByteArray) (n:Int):eY:=⟨m.cx,m.cP,m.ek,m.dS,m.fk,m.ds,m.du,m.cl,d,p,n⟩
end Go.Proofs.YtlaaemmmbodaaaaGreatDoor
namespace Go.G9
open Go.ChangeShapes Go.WideShapes Go.ChangeAt Go.RowKit Go.Deep
section
variable {H:Type} {enc:TypeId×Value→H} {P:Program}
theorem XI (aT:laidOutB P= true) {W eF:World} (aF:Below W W eF):∀{gU:List TypeId} {fS:List Value} {pE:List (DataW H)} {ps:List MemPlace},
  (∀t ∈ gU,P.readableRec t= true∧t < P.types.size)→(∀x ∈ ps,x.block < W.heap.size)→DataW.TrodAll enc P W 0 (fun _=>true) true gU fS pE ps→
  DataW.TrodAll enc P eF 0 (fun b=>decide (b < W.heap.size)) true gU fS pE ps
 | [],[],[],_,_,_,h=>h
 | t ::gU,v ::fS,d ::pE,ps,ct,bu,h=>by
  obtain⟨p,q,h1,h2,e⟩:=h
  have Tw:=ct t (List.mem_cons.2 (Or.inl rfl))
  exact⟨p,q,Below.trod aT Tw.1 Tw.2 h1 aF (fun x aw=>bu x (by rw [e];exact List.mem_append_left _ aw)),
   XI aT aF (fun fg dj=>ct fg (List.mem_cons.2 (Or.inr dj))) (fun x aw=>bu x (by rw [e];exact List.mem_append_right _ aw)) h2,e⟩
 | [],[],_ ::_,_,_,_,h=>h.elim
 | [],_ ::_,_,_,_,_,h=>h.elim
 | _ ::_,[],_,_,_,_,h=>h.elim
 | _ ::_,_ ::_,[],_,_,_,h=>h.elim
theorem XJ {w:World} {base:Nat} {sp:Nat→Bool} {bJ:Bool}:∀{gU:List TypeId} {fS:List Value} {pE:List (DataW H)} {ps:List MemPlace},DataW.TrodAll enc P w base sp bJ gU fS pE ps→pE.length= gU.length
 | [],[],[],_,_=>rfl
 | _ ::_,_ ::_,_ ::_,_,h=>by obtain⟨_,_,_,h2,_⟩:=h;simp [XJ h2]
 | [],[],_ ::_,_,h=>h.elim
 | [],_ ::_,_,_,h=>h.elim
 | _ ::_,[],_,_,h=>h.elim
 | _ ::_,_ ::_,[],_,h=>h.elim
variable {w:World} {base:Nat} {sp:Nat→Bool} {bJ:Bool}
theorem NK {jO:Array Field} {xs:List (DataW H×List MemPlace)} {n:Nat} {cs:List Value} (hlen:xs.length= jO.size)
  (cT:∀(i:Nat) (f:Field),jO[i]? =some f→DataW.trod enc P w base sp bJ n f.type ((cs.drop f.offset).take (P.cellsOf f.type))= xs[i]?) (i:Nat) (f:Field) (hf:jO[i]? =some f):
  ∃y,DataW.trod enc P w base sp bJ n f.type ((cs.drop f.offset).take (P.cellsOf f.type))= some y:=by
 have hi:i < xs.length:=by have:=(Array.getElem?_eq_some_iff.1 hf).1;omega
 exact⟨xs[i],(cT i f hf).trans (List.getElem?_eq_getElem hi)⟩
theorem Io {k:IntKind} {jO:Array Field} {xs:List (DataW H×List MemPlace)} {n:Nat} {cs:List Value} (hlen:xs.length= jO.size)
  (cT:∀(i:Nat) (f:Field),jO[i]? =some f→DataW.trod enc P w base sp bJ n f.type ((cs.drop f.offset).take (P.cellsOf f.type))= xs[i]?) (i:Nat) (f:Field) (hf:jO[i]? =some f)
  (hu:P.underlying f.type= some (.int k)) (h1:P.cellsOf f.type= 1):∃m:Int,(cs.drop f.offset).take 1= [.int k m]:=by
 obtain⟨_,h⟩:=NK hlen cT i f hf
 rw [h1] at h
 obtain⟨m,e,_,_⟩:=DataW.trod_int hu h
 exact⟨m,e⟩
theorem NN {jO:Array Field} {xs:List (DataW H×List MemPlace)} {n:Nat} {cs:List Value} (hlen:xs.length= jO.size)
  (cT:∀(i:Nat) (f:Field),jO[i]? =some f→DataW.trod enc P w base sp bJ n f.type ((cs.drop f.offset).take (P.cellsOf f.type))= xs[i]?) (i:Nat) (f:Field) (hf:jO[i]? =some f)
  (hu:P.underlying f.type= some .string) (h1:P.cellsOf f.type= 1):∃s:ByteArray,(cs.drop f.offset).take 1= [.string s]∧s.size≤maxLen:=by
 obtain⟨_,h⟩:=NK hlen cT i f hf
 rw [h1] at h
 obtain⟨m,e,_,hm⟩:=DataW.trod_string hu h
 exact⟨m,e,hm⟩
theorem NM {jO:Array Field} {xs:List (DataW H×List MemPlace)} {n:Nat} {cs:List Value} (hlen:xs.length= jO.size)
  (cT:∀(i:Nat) (f:Field),jO[i]? =some f→DataW.trod enc P w base sp bJ n f.type ((cs.drop f.offset).take (P.cellsOf f.type))= xs[i]?) (i:Nat) (f:Field) (hf:jO[i]? =some f)
  (hu:P.underlying f.type= some .bool) (h1:P.cellsOf f.type= 1):∃b:Bool,(cs.drop f.offset).take 1= [.bool b]:=by
 obtain⟨_,h⟩:=NK hlen cT i f hf
 rw [h1] at h
 obtain⟨m,e,_⟩:=DataW.trod_bool hu h
 exact⟨m,e⟩
theorem anv {w:World} {a:Addr} {v:Value} (h:w.cell? a= some v):a.spot= none:=by
 unfold World.cell? at h
 split at h
 ·split at h
  ·cases h
  ·rename_i aV;simpa using aV
 ·cases h
theorem akW {T:Type} (f:T→List Value) (sz:Nat) (gN:0 < sz) {t e:TypeId} (ct:P.underlying t= some (.slice e)) (eC:P.cellsOf e= sz)
  (LH:∀fuel cs x,DataW.trod enc P w base sp bJ fuel e cs= some x→∃y:T,cs= f y) {fuel:Nat} {cs:List Value} {x:DataW H×List MemPlace} (h:DataW.trod enc P w base sp bJ fuel t cs= some x):
  ∃(A:Option Addr) (c:Nat) (xs:List T),cs= [.slice A xs c]∧xs.length≤maxLen∧aS sz f w A xs∧(A= none→xs= []∧c= 0):=by
 rcases open_slice ct h with ⟨rfl,_⟩ | ⟨a,len,cap,m,n,D,aow,rfl,_,Tc,mh,hm,_,hi⟩
 ·exact⟨none,0,[],rfl,by simp,aS.nil,fun _=>⟨rfl,rfl⟩⟩
 ·have hle:len≤m:=by rw [hm];split <;> omega
  have hex:∀i,i < len→∃y:T,w.cells? base (a.add (i * sz)) sz= some (f y):=fun i apU=>by
   obtain⟨sV,lA,agR⟩:=hi i (by omega)
   obtain⟨y,rfl⟩:=LH _ _ _ agR
   exact⟨y,by rw [eC] at lA;exact lA⟩
  have lf:∀k,k≤len→∃l:List T,l.length= k∧∀i y,l[i]? =some y→w.cells? base (a.add (i * sz)) sz= some (f y):=by
   intro k
   induction k with
   | zero=>intro _;exact⟨[],rfl,by simp⟩
   | succ k er=>
    intro aD
    obtain⟨l,xp,Tc⟩:=er (by omega)
    obtain⟨y,hy⟩:=hex k (by omega)
    refine⟨l ++ [y],by simp [xp],fun i z ck=>?_⟩
    rw [List.getElem?_append] at ck
    split at ck
    ·exact Tc i z ck
    ·have h0:i= k:=by have:=(List.getElem?_eq_some_iff.1 ck).1;simp at this;omega
     subst h0
     rw [xp] at ck;simp at ck;subst ck;exact hy
  obtain⟨l,xp,Sx⟩:=lf len (Nat.le_refl _)
  refine⟨some a,cap,l,by rw [xp],by omega,fun aY=>?_,fun h=>by cases h⟩
  have Qz:∀i y,l[i]? =some y→∀j u,(f y)[j]? =some u→w.cell? ((a.add (i * sz)).add j)= some u:=fun i y hy j u hu=>by
   obtain⟨_,jw,Hb⟩:=World.cells?_some (Sx i y hy)
   have bE:j < sz:=by rw [← jw];exact (List.getElem?_eq_some_iff.1 hu).1
   rw [Hb j bE];exact hu
  obtain⟨kE,Hu⟩ :∃y,l[0]? =some y:=⟨_,List.getElem?_eq_getElem aY⟩
  obtain⟨_,apN,_⟩:=World.cells?_some (Sx 0 kE Hu)
  have agS:(f kE)[0]? =some ((f kE)[0]'(by omega)):=List.getElem?_eq_getElem _;have c0:=Qz 0 kE Hu 0 _ agS
  rw [Nat.zero_mul,show (a.add 0).add 0= a from by simp [Addr.add]] at c0
  have aV:=anv c0
  obtain⟨b,off,spot⟩:=a
  simp only at aV;subst aV
  refine⟨b,off,rfl,World.block_lt_of_cell? w _ c0,fun i x aw j u hu=>?_⟩
  have:=Qz i x aw j u hu
  rw [add_add] at this
  rw [← this]
  congr 1
  unfold Addr.add
  split <;> simp_all [Nat.add_assoc]
theorem akV {T:Type} (f:T→List Value) (sz:Nat) (gN:0 < sz) {t e:TypeId} (ct:P.underlying t= some (.slice e)) (eC:P.cellsOf e= sz)
  (LH:∀fuel cs x,DataW.trod enc P w base sp bJ fuel e cs= some x→∃y:T,cs= f y) {fuel:Nat} {cs:List Value} {x:DataW H×List MemPlace} (h:DataW.trod enc P w base sp bJ fuel t cs= some x):
  ∃(A:Option Addr) (c:Nat) (xs:List T),cs= [.slice A xs c]∧xs.length≤maxLen∧aS sz f w A xs:=by
 obtain⟨A,c,xs,h1,h2,h3,_⟩:=akW f sz gN ct eC LH h
 exact⟨A,c,xs,h1,h2,h3⟩
theorem acW {cs:Array Value} {l:List Value} (h:cs.toList= l):Value.agg cs= .agg l.toArray:=by rw [← h]
end
end Go.G9
namespace Go.Proofs.YtlaaemmmbodaaaaGreatDoor
open Go.RowKit Go.G9
def zV (s:ByteArray) (c:UInt8):Bool:=s.data.toList.any (· == c)
theorem indexByte_ge (c:UInt8):∀l:List UInt8,-1≤Lib.indexByte l c∧(decide (0≤Lib.indexByte l c))= l.any (· == c)
 | []=>by simp [Lib.indexByte]
 | b ::l=>by
  have er:=indexByte_ge c l
  unfold Lib.indexByte
  by_cases h:b == c
  ·simp [h]
  ·by_cases h2:Lib.indexByte l c= -1
   ·have:=er.2;rw [h2] at this;simp [h,h2] at this ⊢;exact this
   ·have h3:0≤Lib.indexByte l c:=by omega
    have:=er.2
    simp [h,h2,h3] at this ⊢
    refine⟨by omega,?_⟩
    simp [show (0:Int)≤Lib.indexByte l c + 1 from by omega]
    exact this
def nC (c:UInt8):Bool:=decide (32≤c.toNat) && (decide (c.toNat≤126) && !(c == 35))
def jf (s:ByteArray):Bool:=s.data.toList.all nC
theorem VL (s:ByteArray) (k:Nat) (h:k < s.size):(s.data.toList.take (k+1)).all nC= ((s.data.toList.take k).all nC && nC s[k]):=by
 rw [List.take_succ_eq_append_getElem (by simpa using h),List.all_append];simp;rfl
theorem Ii (s:ByteArray) (k:Nat) (h:k < s.size) (h1:nC s[k]= false):jf s= false:=by
 have:jf s= ((s.data.toList.take (k+1)).all nC && (s.data.toList.drop (k+1)).all nC):=by
  unfold jf;rw [← List.all_append,List.take_append_drop]
 rw [this,VL s k h,h1];simp
def kR (c r:ByteArray):Bool:=eT c.size 1 160 && (decide (r.size≤200) && (jf c && (jf r && !zV c 64)))
theorem WG (s:ByteArray) (c:UInt8) (w:World):Calls Tryz.prog 246 #[s,.string ⟨#[c]⟩] w fun e ah=>e= .returned (.int .i64 (Lib.indexByte s.data.toList c))∧ah= w:=by
 have apT:∀W,(callFunc 317 #[s,.int .u8 (((⟨#[c]⟩ :ByteArray)[0]'(Nat.zero_lt_one)).toNat:Int)]).run Tryz.prog W= .ok (.value (.int .i64 (Lib.indexByte s.data.toList c))) W:=fun W=>by
  rw [run_callFunc_indexByte Tryz.func317 (by kernel_rfl) (by kernel_rfl) (by kernel_rfl) (by kernel_rfl),Lib.run_indexByteString]
  simp [Result.andThen];rfl
 by_cases h:([c] == s.toList)= true
 ·have cW:=J (beq_iff_eq.1 h)
  go_in
  go_wp2
  go_ret
  have e:s.data.toList= [c]:=(ByteArray.toList_eq s).symm.trans cW.out.symm
  exact⟨by rw [e];simp [Lib.indexByte],rfl⟩
 ·have dj:([c] == s.toList)= false:=by simpa using h
  clear h
  go_in
  go_wp2
  go_ret
  exact⟨rfl,rfl⟩
theorem QS (s:ByteArray) (c:UInt8) (v:Bool) (ax:zV s c= v) (w:World):Calls Tryz.prog 98 #[s,.string ⟨#[c]⟩] w fun e ah=>e= .returned v∧ah= w:=by
 subst ax
 have cT:=(indexByte_ge c s.data.toList).2;have kF:=J cT;clear cT
 go_in
 go_wp2_with (first | (go_at_call 246;refine (WG s c _).mono ?_;rintro e ah ⟨rfl,rfl⟩) | go_in)
 go_ret
 exact⟨ed kF.out,rfl⟩
theorem ZW {p:Prop} (h:p:=by
 go_wp2
 go_ret
 exact⟨ed (Ii s k bu (by simp [nC];omega)).symm,rfl⟩):p:=h
theorem YH {p:Prop} (h:p:=by
 go_round
 case rel=>exact⟨k + 1,by omega,by go_num,by rw [VL s k bu,cB.out];simp [nC,← UInt8.toNat_inj];omega⟩
 case measure=>simp [intOf];omega):p:=h
theorem YY {p:Prop} (h:p:=by
 obtain rfl:k= s.size:=by omega
 go_wp2
 go_ret
 have:=cB.out
 rw [List.take_of_length_le (by simp)] at this
 exact⟨ed this.symm,rfl⟩):p:=h
theorem EB (s:ByteArray) (aV:s.size≤maxLen) (v:Bool) (ax:jf s= v) (w:World):Calls Tryz.prog 97 #[s] w fun e ah=>e= .returned v∧ah= w:=by
 subst ax
 unfold maxLen at aV
 go_in
 go_wp2
 go_loop [3] (fun i=>∃k:Nat,k≤s.size∧i= .int .i64 k∧(s.data.toList.take k).all nC= true) (fun i=>s.size - (intOf i).toNat)
 case atStart=>exact⟨0,Nat.zero_le _,rfl,rfl⟩
 case round=>
  obtain⟨k,aD,rfl,aT⟩:=hrel
  have cB:=J aT;clear aT
  by_cases bu:k < s.size
  ·by_cases h1:s[k].toNat < 32
   ·exact ZW
   ·by_cases h2:126 < s[k].toNat
    ·exact ZW
    ·by_cases h3:s[k].toNat= 35
     ·have qY:(((s[k].toNat:Nat):Int) == 35)= true:=by rw [h3];rfl
      have hr:=J h3;clear h3
      go_wp2
      go_ret
      exact⟨ed (Ii s k bu (by have:=hr.out;simp [nC,← UInt8.toNat_inj,this])).symm,rfl⟩
     ·have qY:(((s[k].toNat:Nat):Int) == 35)= false:=beq_eq_false_iff_ne.2 (by omega)
      go_wp2
      exact YH
  ·exact YY
theorem HF (s:ByteArray) (m:Int) (aV:s.size≤maxLen) (v:Bool) (ax:(jf s && decide (s.size≤m))= v) (w:World):Calls Tryz.prog 108 #[s,m] w fun e ah=>e= .returned v∧ah= w:=by
 subst ax
 unfold maxLen at aV
 go_in
 go_wp2
 go_loop [5] (fun i=>∃k:Nat,k≤s.size∧i= .int .i64 k∧(s.data.toList.take k).all nC= true) (fun i=>s.size - (intOf i).toNat)
 case atStart=>exact⟨0,Nat.zero_le _,rfl,rfl⟩
 case round=>
  obtain⟨k,aD,rfl,aT⟩:=hrel
  have cB:=J aT;clear aT
  by_cases bu:k < s.size
  ·have h256:s[k].toNat < 256:=UInt8.toNat_lt _
   cases h1:eT (s[k].toNat:Int) 32 126
   ·go_wp2_with (go_at_call 186;refine (jq _ _ _ _ h1 _).mono ?_;rintro e ah ⟨rfl,rfl⟩)
    go_ret
    exact⟨ed (by rw [Ii s k bu (by simp [nC,eT] at h1 ⊢;omega)];rfl),rfl⟩
   ·have oV:=qt.1 h1
    by_cases h3:s[k].toNat= 35
    ·have qY:(((s[k].toNat:Nat):Int) == 35)= true:=by rw [h3];rfl
     have hr:=J h3;clear h3
     go_wp2_with (go_at_call 186;refine (jq _ _ _ _ h1 _).mono ?_;rintro e ah ⟨rfl,rfl⟩)
     go_ret
     exact⟨ed (by rw [Ii s k bu (by have:=hr.out;simp [nC,← UInt8.toNat_inj,this])];rfl),rfl⟩
    ·have qY:(((s[k].toNat:Nat):Int) == 35)= false:=beq_eq_false_iff_ne.2 (by omega)
     go_wp2_with (go_at_call 186;refine (jq _ _ _ _ h1 _).mono ?_;rintro e ah ⟨rfl,rfl⟩)
     exact YH
  ·obtain rfl:k= s.size:=by omega
   go_wp2
   go_ret
   have:=cB.out
   rw [List.take_of_length_le (by simp)] at this
   exact⟨ed (by rw [show jf s= true from this];simp),rfl⟩
theorem Ur (s:ByteArray) (c:UInt8) (aV:s.size≤maxLen) (v:Bool) (ax:zV s c= v) (w:World):Calls Tryz.prog 109 #[s,.int .u8 (c.toNat:Int)] w fun e ah=>e= .returned v∧ah= w:=by
 subst ax
 unfold maxLen at aV
 go_in
 go_wp2
 go_loop [5] (fun i=>∃k:Nat,k≤s.size∧i= .int .i64 k∧(s.data.toList.take k).any (· == c)= false) (fun i=>s.size - (intOf i).toNat)
 case atStart=>exact⟨0,Nat.zero_le _,rfl,rfl⟩
 case round=>
  obtain⟨k,aD,rfl,aT⟩:=hrel
  have cB:=J aT;clear aT
  by_cases bu:k < s.size
  ·by_cases h3:s[k]= c
   ·have qY:((s[k].toNat:Int) == (c.toNat:Int))= true:=by rw [h3];simp
    have hr:=J h3;clear h3
    go_wp2
    go_ret
    exact⟨ed (Eq.symm (List.any_eq_true.2 ⟨s[k],by exact List.getElem_mem (l:=s.data.toList) (by simpa using bu),by simp [hr.out]⟩)),rfl⟩
   ·have qY:((s[k].toNat:Int) == (c.toNat:Int))= false:=beq_eq_false_iff_ne.2 (fun h=>h3 (UInt8.toNat_inj.1 (by omega)))
    go_wp2
    go_round
    case rel=>exact⟨k + 1,by omega,by go_num,by rw [List.take_succ_eq_append_getElem (by simpa using bu),List.any_append,cB.out];simp;exact h3⟩
    case measure=>simp [intOf];omega
  ·exact YY
theorem ZT {p:Prop} (h:p:=by
 rintro e ah ⟨rfl,rfl⟩
 go_wp2
 go_ret
 exact⟨ed (by simp [kR,h4]),bT _ _⟩):p:=h
theorem vY (c r:ByteArray) (aH:c.size≤1048576) (bp:r.size≤1048576) (v:Bool) (ax:kR c r= v) (w:World):Calls Tryz.prog 55 #[.agg #[c,r]] w fun e ah=>e= .returned v∧Below w w ah:=by
 subst ax
 have ql:c.size≤maxLen:=by unfold maxLen;omega
 have oA:r.size≤maxLen:=by unfold maxLen;omega
 cases h1:eT (c.size:Int) 1 160
 ·go_in
  go_wp2_with (go_at_call 79;refine (iX _ _ _ _ h1 _).mono ?_;rintro e ah ⟨rfl,rfl⟩)
  go_ret
  exact⟨ed (by simp [kR,h1]),bT _ _⟩
 by_cases h2:r.size≤200
 ·cases h3:jf c
  ·go_in
   go_wp2_with (first | (go_at_call 79;refine (iX _ _ _ _ h1 _).mono ?_;rintro e ah ⟨rfl,rfl⟩) | (go_at_call 97;refine (EB c ql _ h3 _).mono ?_;rintro e ah ⟨rfl,rfl⟩))
   go_ret
   exact⟨ed (by simp [kR,h3]),bT _ _⟩
  cases h4:jf r
  ·go_in
   go_wp2_with fail
   refine (iX _ _ _ _ h1 _).mono ?_
   rintro e ah ⟨rfl,rfl⟩
   go_wp2_with fail
   refine (EB c ql _ h3 _).mono ?_
   rintro e ah ⟨rfl,rfl⟩
   go_wp2_with fail
   refine (EB r oA _ h4 _).mono ?_
   exact ZT
  ·go_in
   go_wp2_with fail
   refine (iX _ _ _ _ h1 _).mono ?_
   rintro e ah ⟨rfl,rfl⟩
   go_wp2_with fail
   refine (EB c ql _ h3 _).mono ?_
   rintro e ah ⟨rfl,rfl⟩
   go_wp2_with fail
   refine (EB r oA _ h4 _).mono ?_
   rintro e ah ⟨rfl,rfl⟩
   go_wp2_with fail
   refine (QS c 64 _ rfl _).mono ?_
   rintro e ah ⟨rfl,rfl⟩
   go_wp2
   go_ret
   exact⟨ed (by simp [kR,h1,h2,h3,h4]),bT _ _⟩
 ·go_in
  go_wp2_with (go_at_call 79;refine (iX _ _ _ _ h1 _).mono ?_;rintro e ah ⟨rfl,rfl⟩)
  go_ret
  exact⟨ed (by simp [kR,h2]),bT _ _⟩
theorem zt (c r:ByteArray) (aH:c.size≤1048576) (bp:r.size≤1048576) (v:Bool) (ax:kR c r= v) (w:World):Calls Tryz.prog 60 #[.agg #[c,r]] w fun e ah=>e= .returned v∧Below w w ah:=by
 subst ax
 have ql:c.size≤maxLen:=by unfold maxLen;omega
 have oA:r.size≤maxLen:=by unfold maxLen;omega
 by_cases h0:c.size= 0
 ·have RE:c.toList.isEmpty= true:=by rw [ByteArray.toList_eq];exact List.isEmpty_iff.2 (List.length_eq_zero_iff.1 (by rw [Array.length_toList];exact h0))
  have apB:c.toList= []:=by simpa using RE
  have ua:=J h0;clear h0
  go_in
  go_wp2
  go_ret
  exact⟨ed (by simp [kR,eT,ua.out]),bT _ _⟩
 ·have RE:c.toList.isEmpty= false:=by rw [ByteArray.toList_eq];cases h:c.data.toList with
   | nil=>exfalso;apply h0;have:=congrArg List.length h;rw [Array.length_toList] at this;exact this
   | cons _ _=>rfl
  cases h3:jf c && decide ((c.size:Int)≤160)
  ·go_in
   go_wp2_with (go_at_call 108;refine (HF c 160 ql _ h3 _).mono ?_;rintro e ah ⟨rfl,rfl⟩)
   go_ret
   exact⟨ed (by simp only [Bool.and_eq_false_iff,decide_eq_false_iff_not] at h3;rcases h3 with h3 | h3 <;> simp [kR,eT,h3] <;> omega),bT _ _⟩
  cases h4:zV c 64
  ·go_in
   go_wp2_with fail
   refine (HF c 160 ql _ h3 _).mono ?_
   rintro e ah ⟨rfl,rfl⟩
   go_wp2_with fail
   refine (Ur c 64 ql _ h4 _).mono ?_
   rintro e ah ⟨rfl,rfl⟩
   go_wp2_with fail
   refine (HF r 200 oA _ rfl _).mono ?_
   rintro e ah ⟨rfl,rfl⟩
   go_wp2
   go_ret
   simp only [Bool.and_eq_true,decide_eq_true_eq] at h3
   have e1:eT (c.size:Int) 1 160= true:=qt.2 (by omega)
   exact⟨ed (by cases aN:jf r <;> simp [kR,e1,h3.1,h4,aN] <;> omega),bT _ _⟩
  ·go_in
   go_wp2_with fail
   refine (HF c 160 ql _ h3 _).mono ?_
   rintro e ah ⟨rfl,rfl⟩
   go_wp2_with fail
   refine (Ur c 64 ql _ h4 _).mono ?_
   exact ZT
end Go.Proofs.YtlaaemmmbodaaaaGreatDoor
namespace Go.G9
open Go.RowKit
abbrev ca:=List UInt8
def bs (l:ca):ByteArray:=⟨l.toArray⟩
theorem uk (l:ca):(bs l).data.toList= l:=by simp [bs]
theorem CY (s:ByteArray):bs s.data.toList= s:=wY (uk _)
theorem fB (l:ca):(bs l).size= l.length:=by show l.toArray.size= _;simp
theorem mP (a b:ca):bs a ++ bs b= bs (a ++ b):=wY (by simp [bs])
theorem QE {a b:ca} (h:bs a= bs b):a= b:=by have:=congrArg (fun s:ByteArray=>s.data.toList) h;simpa [uk] using this
def cR (c:UInt8) (l:ca):ca:=l.takeWhile (fun x=>!(x == c))
def gi (c:UInt8) (l:ca):ca:=(l.dropWhile (fun x=>!(x == c))).drop 1
theorem CV {c:UInt8} {a b:ca} (h:c ∉ a):cR c (a ++ c ::b)= a:=by
 unfold cR
 rw [List.takeWhile_append_of_pos (fun x aw=>by simp;rintro rfl;exact h aw)]
 simp
theorem Qs {c:UInt8} {a b:ca} (h:c ∉ a):gi c (a ++ c ::b)= b:=by
 unfold gi
 rw [List.dropWhile_append_of_pos (fun x aw=>by simp;rintro rfl;exact h aw)]
 simp
theorem Gr {c:UInt8}:∀{a:ca},c ∉ a→cR c a= a
 | [],_=>rfl
 | x ::a,h=>by
  simp only [List.mem_cons,not_or] at h
  have er:=Gr h.2
  unfold cR at er ⊢
  have aw:(!(x == c))= true:=by simp;exact fun e=>h.1 e.symm
  simp [aw,er]
theorem Qu {c:UInt8}:∀{a:ca},c ∉ a→gi c a= []
 | [],_=>rfl
 | x ::a,h=>by
  simp only [List.mem_cons,not_or] at h
  have er:=Qu h.2
  unfold gi at er ⊢
  have aw:(!(x == c))= true:=by simp;exact fun e=>h.1 e.symm
  simp [aw]
  simpa using er
theorem QB {c:UInt8}:∀(a:ca),c ∉ cR c a
 | []=>by simp [cR]
 | x ::a=>by
  have er:=QB (c:=c) a
  unfold cR at er ⊢
  by_cases aw:x= c
  ·simp [aw]
  ·simp [aw,er,Ne.symm aw]
theorem Oi {c:UInt8}:∀{l:ca},c ∈ l→l= cR c l ++ c ::gi c l
 | [],h=>by simp at h
 | x ::l,h=>by
  by_cases aw:x= c
  ·subst aw;simp [cR,gi]
  ·have aT:c ∈ l:=by simpa [Ne.symm aw] using h
   have er:=Oi aT
   have e1:cR c (x ::l)= x ::cR c l:=by simp [cR,aw]
   have e2:gi c (x ::l)= gi c l:=by simp [gi,aw]
   rw [e1,e2,List.cons_append,← er]
theorem AD (c:UInt8) (l:ca):(cR c l).length≤l.length:=by
 unfold cR;exact (List.takeWhile_sublist _).length_le
theorem Qt (c:UInt8) (l:ca):(gi c l).length≤l.length:=by
 unfold gi;exact (List.Sublist.trans (List.drop_sublist _ _) (List.dropWhile_sublist _)).length_le
def iW (c:UInt8) (l:ca):Bool:=l.contains c
theorem AX {c:UInt8} {l:ca}:iW c l= true↔c ∈ l:=List.contains_iff_mem
theorem DO {c:UInt8} {l:ca}:iW c l= false↔c ∉ l:=by rw [← Bool.not_eq_true,AX]
def nX (l:ca):Nat:=l.foldl (fun h c=>(41 * h + c.toNat + 1) % 999979) 7
def qw (n:Int):ca:=Lib.itoa n
def wz (l:ca):ca:=l ++ 35 ::qw (nX l)
def mO (k:Int) (c r:ca):ca:=qw k ++ 32 ::(c ++ 64 ::r)
def fj (k:Int) (c r:ca):ca:=wz (mO k c r)
theorem IB (l:ca):nX l < 999979:=by
 unfold nX
 have:∀(l:ca) (h:Nat),h < 999979→l.foldl (fun h c=>(41 * h + c.toNat + 1) % 999979) h < 999979:=by
  intro l
  induction l with
  | nil=>intro h fc;exact fc
  | cons c l er=>intro h _;exact er _ (Nat.mod_lt _ (by omega))
 exact this l 7 (by omega)
theorem adG (u:Nat):∀x ∈ Lib.decDigits u,48≤x.toNat∧x.toNat≤57:=by
 induction u using Nat.strongRecOn with
 | _ u er=>
  intro x aw
  rw [Lib.decDigits] at aw
  split at aw
  ·simp at aw;subst aw
   rename_i h
   simp;omega
  ·rw [List.mem_append] at aw
   rcases aw with aw | aw
   ·exact er (u / 10) (by omega) x aw
   ·simp at aw;subst aw
    simp;omega
theorem Nn {n:Int} (h:0≤n):qw n= Lib.decDigits n.toNat:=by unfold qw Lib.itoa;rw [if_neg (by omega)]
theorem Ie {n:Int} (h:0≤n) {c:UInt8} (aH:c.toNat < 48):c ∉ qw n:=by
 rw [Nn h]
 intro hm
 have:=adG _ _ hm
 omega
theorem aki {n:Int} (h:0≤n) (h2:n < 1000000):(qw n).length≤6:=by
 rw [Nn h];exact we 5 _ (by omega)
theorem Vw {n:Int} (h:0≤n) (h2:n < 100):(qw n).length≤2:=by
 rw [Nn h];exact we 1 _ (by omega)
end Go.G9
namespace Go.Proofs.YtlaaemmmbodaaaaGreatDoor
open Go.RowKit Go.G9
def jV (c r:ca):Bool:=kR (bs c) (bs r)
theorem zC {c r:ca} (h:jV c r= true):1≤c.length∧c.length≤160∧r.length≤200∧(35:UInt8) ∉ c∧(35:UInt8) ∉ r∧(64:UInt8) ∉ c∧(10:UInt8) ∉ c∧(10:UInt8) ∉ r:=by
 simp only [jV,kR,eT,jf,zV,uk,fB,Bool.and_eq_true,decide_eq_true_eq,Bool.not_eq_true',List.all_eq_true,List.any_eq_false] at h
 obtain⟨⟨h1,h2⟩,h3,h4,h5,h6⟩:=h
 have aN:∀x,nC x= true→x≠35∧x≠10:=by
  intro x aw
  constructor
  ·rintro rfl;simp [nC] at aw
  ·rintro rfl;revert aw;decide
 refine⟨by omega,by omega,by omega,fun hm=>(aN _ (h4 _ hm)).1 rfl,fun hm=>(aN _ (h5 _ hm)).1 rfl,fun hm=>by have:=h6 _ hm;simp at this,fun hm=>(aN _ (h4 _ hm)).2 rfl,fun hm=>(aN _ (h5 _ hm)).2 rfl⟩
theorem Gs {k:Int} (aD:0≤k) {c r:ca} (h:jV c r= true):(35:UInt8) ∉ mO k c r∧(10:UInt8) ∉ fj k c r∧cR 35 (fj k c r)= mO k c r∧gi 32 (mO k c r)= c ++ 64 ::r∧cR 64 (c ++ 64 ::r)= c∧gi 64 (c ++ 64 ::r)= r:=by
 obtain⟨_,_,_,h1,h2,h3,h4,h5⟩:=zC h
 have n35:=Ie aD (c:=35) (by decide);have n32:=Ie aD (c:=32) (by decide);have n10:=Ie aD (c:=10) (by decide)
 have aF:(35:UInt8) ∉ mO k c r:=by
  unfold mO;simp [n35,h1,h2]
 have alM:=Ie (n:=(nX (mO k c r):Nat)) (by omega) (c:=10) (by decide)
 refine⟨aF,?_,?_,?_,CV h3,Qs h3⟩
 ·unfold fj wz
  simp only [List.mem_append,List.mem_cons,not_or]
  refine⟨?_,by decide,alM⟩
  unfold mO;simp [n10,h4,h5]
 ·unfold fj wz;exact CV aF
 ·unfold mO;exact Qs n32
theorem Bz {k:Int} (aD:0≤k) (kP:k < 100) {c r:ca} (h:jV c r= true):(fj k c r).length≤371:=by
 obtain⟨h1,h2,h3,_⟩:=zC h
 have a:=Vw aD kP;have b:=aki (n:=(nX (mO k c r):Nat)) (by omega) (by have:=IB (mO k c r);omega)
 unfold fj wz
 simp only [List.length_append,List.length_cons]
 unfold mO
 simp only [List.length_append,List.length_cons]
 unfold mO at b
 omega
def rD (line:ca) (k:Nat):Option (ca×ca):=
 let rest:=gi 32 (cR 35 line)
 if jV (cR 64 rest) (gi 64 rest) && decide (fj k (cR 64 rest) (gi 64 rest)= line) then some (cR 64 rest,gi 64 rest) else none
def tM (line:ca) (k:Nat):Option (ca×ca):=
 let text:=cR 35 line;let ahead:=qw k ++ [32]
 if text.take ahead.length= ahead then
  let rest:=text.drop ahead.length;let ask:=cR 64 rest
  if ask.length= rest.length then none
  else if jV ask (rest.drop (ask.length + 1)) && decide (fj k ask (rest.drop (ask.length + 1))= line) then some (ask,rest.drop (ask.length + 1)) else none
 else none
theorem Yw {p:Prop} (h:p:=by
 split at h
 ·rename_i aH
  simp only [Bool.and_eq_true,decide_eq_true_eq] at aH
  simp only [Option.some.injEq,Prod.mk.injEq] at h
  obtain⟨rfl,rfl⟩:=h
  exact⟨aH.1,aH.2.symm⟩
 ·cases h):p:=h
theorem Wd {line:ca} {k:Nat} {c r:ca} (h:rD line k= some (c,r)):jV c r= true∧line= fj k c r:=by
 unfold rD at h
 simp only at h
 exact Yw
theorem akP {line:ca} {k:Nat} {c r:ca} (h:tM line k= some (c,r)):jV c r= true∧line= fj k c r:=by
 unfold tM at h
 simp only at h
 split at h
 ·split at h
  ·cases h
  ·exact Yw
 ·cases h
theorem Wc {k:Nat} {c r:ca} (h:jV c r= true):rD (fj k c r) k= some (c,r):=by
 obtain⟨_,_,h1,h2,h3,h4⟩:=Gs (k:=(k:Int)) (by omega) h
 unfold rD
 simp only [h1,h2,h3,h4,h,decide_true,Bool.and_self,if_true]
theorem akO {k:Nat} {c r:ca} (h:jV c r= true):tM (fj k c r) k= some (c,r):=by
 obtain⟨_,_,h1,_,h3,_⟩:=Gs (k:=(k:Int)) (by omega) h
 have e1:mO k c r= (qw k ++ [32]) ++ (c ++ 64 ::r):=by simp [mO]
 unfold tM
 simp only [h1]
 rw [e1,List.take_left' rfl,if_pos rfl,List.drop_left' rfl,h3,if_neg (by simp)]
 have e2:(c ++ 64 ::r).drop (c.length + 1)= r:=by rw [List.drop_append];simp
 rw [e2,h]
 simp
theorem Wg (line:ca) (k:Nat):tM line k= rD line k:=by
 cases h:rD line k with
 | some x=>
  obtain⟨c,r⟩:=x
  obtain⟨h1,rfl⟩:=Wd h
  exact akO h1
 | none=>
  cases h2:tM line k with
  | none=>rfl
  | some x=>
   obtain⟨c,r⟩:=x
   obtain⟨h3,rfl⟩:=akP h2
   rw [Wc h3] at h;cases h
def iJ (l:ca) (k:Nat):Option (ca×ca×Nat):=
 if iW 10 l && decide (k < 60) then (rD (cR 10 l) k).map fun x=>(x.1,x.2,(cR 10 l).length + 1) else none
theorem BH {l:ca} {k:Nat} {c r:ca} {n:Nat} (h:iJ l k= some (c,r,n)):k < 60∧jV c r= true∧n= (fj k c r).length + 1∧l= fj k c r ++ 10 ::gi 10 l:=by
 unfold iJ at h
 split at h
 ·rename_i aH
  simp only [Bool.and_eq_true,decide_eq_true_eq,AX] at aH
  cases aw:rD (cR 10 l) k with
  | none=>rw [aw] at h;cases h
  | some x=>
   obtain⟨cM,fX⟩:=x
   rw [aw] at h
   simp only [Option.map_some,Option.some.injEq,Prod.mk.injEq] at h
   obtain⟨rfl,rfl,rfl⟩:=h
   obtain⟨h1,h2⟩:=Wd aw
   refine⟨aH.2,h1,by rw [h2],?_⟩
   have:=Oi aH.1
   rw [h2] at this
   exact this
 ·cases h
theorem VV {k:Nat} (aD:k < 60) {c r t:ca} (h:jV c r= true):iJ (fj k c r ++ 10 ::t) k= some (c,r,(fj k c r).length + 1):=by
 have aY:=(Gs (k:=(k:Int)) (by omega) h).2.1
 unfold iJ
 rw [CV aY,Wc h,if_pos (by simp [aD,AX])]
 rfl
theorem BG {l:ca} {k:Nat} {c r:ca} {n:Nat} (h:iJ l k= some (c,r,n)):n≤l.length∧1≤n∧n≤372:=by
 obtain⟨h0,h1,rfl,h2⟩:=BH h
 have:=Bz (k:=(k:Int)) (by omega) (by omega) h1
 refine⟨?_,by omega,by omega⟩
 have e:=congrArg List.length h2
 simp at e;omega
def hQ:Nat→Nat→ca→Nat→List (ca×ca×Nat)
 | 0,_,_,_=>[]
 | f + 1,k,l,a=>match iJ l k with
  | none=>[]
  | some (c,r,n)=>(c,r,a + n) ::hQ f (k + 1) (l.drop n) (a + n)
def gT (l:ca):List (ca×ca×Nat):=hQ 61 0 l 0
end Go.Proofs.YtlaaemmmbodaaaaGreatDoor
namespace Go.G9
open Go.RowKit
theorem TY (c:UInt8) (l:ca):-1≤Lib.indexByte l c:=(Go.Proofs.YtlaaemmmbodaaaaGreatDoor.indexByte_ge c l).1
theorem Ua {c:UInt8}:∀(l:ca),0≤Lib.indexByte l c→∃i:Nat,Lib.indexByte l c= i∧i < l.length∧cR c l= l.take i∧gi c l= l.drop (i + 1)
 | [],h=>by simp [Lib.indexByte] at h
 | b ::l,h=>by
  unfold Lib.indexByte at h ⊢
  by_cases aF:b == c
  ·refine⟨0,by simp [aF],by simp,?_,?_⟩
   ·simp [cR,aF]
   ·simp [gi,aF]
  ·by_cases h2:Lib.indexByte l c= -1
   ·simp [aF,h2] at h
   ·have h3:-1≤Lib.indexByte l c:=TY c l
    obtain⟨i,e,hi,e1,e2⟩:=Ua (c:=c) l (by omega)
    refine⟨i + 1,by simp [aF,h2];omega,by simp;omega,?_,?_⟩
    ·have:cR c (b ::l)= b ::cR c l:=by simp [cR,aF]
     rw [this,e1];simp
    ·have:gi c (b ::l)= gi c l:=by simp [gi,aF]
     rw [this,e2];simp
theorem TZ {c:UInt8}:∀(l:ca),Lib.indexByte l c < 0→c ∉ l
 | [],_=>by simp
 | b ::l,h=>by
  unfold Lib.indexByte at h
  by_cases aF:b == c
  ·simp [aF] at h
  ·have h3:=TY c l
   by_cases h2:Lib.indexByte l c= -1
   ·have:=TZ (c:=c) l (by omega)
    simp at aF
    simp [this,Ne.symm aF]
   ·simp [aF,h2] at h;omega
theorem uj (l:ca) (a b:Nat):(bs l).extract a b= bs ((l.drop a).take (b - a)):=wY (by
 rw [uk]
 show ((⟨l.toArray⟩ :ByteArray).extract a b).data.toList= _
 simp [ByteArray.extract,ByteArray.copySlice,List.take_drop])
end Go.G9
namespace Go.Proofs.YtlaaemmmbodaaaaGreatDoor
open Go.RowKit Go.G9
theorem WH (l:ca) (c:UInt8) (w:World):Calls Tryz.prog 246 #[.string (bs l),.string ⟨#[c]⟩] w fun e ah=>e= .returned (.int .i64 (Lib.indexByte l c))∧ah= w:=by
 have:=WG (bs l) c w
 rwa [uk] at this
theorem ama (l:ca) (c:UInt8) (aT:l.length≤1073741824) (w:World):Calls Tryz.prog 273 #[.string (bs l),.string ⟨#[c]⟩] w fun e ah=>e= .returned (.tuple #[.string (bs (cR c l)),.string (bs (gi c l)),.bool (iW c l)])∧Below w w ah:=by
 by_cases aH:0≤Lib.indexByte l c
 ·obtain⟨i,e,bu,e1,e2⟩:=Ua (c:=c) l aH
  have hm:iW c l= true:=by
   rw [AX]
   refine Classical.byContradiction fun aY=>?_
   have:=Gr aY
   rw [e1] at this
   have:=congrArg List.length this
   simp at this;omega
  have dT:(bs l).extract 0 i= bs (cR c l):=by rw [uj,e1];simp
  have dN:(bs l).extract (i + 1) (bs l).size= bs (gi c l):=by rw [uj,e2,fB,List.take_of_length_le (by simp)]
  have dP:=J hm;have jM:=J dT;have Kg:=J dN;clear hm e1 e2 dT dN
  have hi:∀W,Calls Tryz.prog 246 #[.string (bs l),.string ⟨#[c]⟩] W fun e ah=>e= .returned i∧ah= W:=fun W=>by
   have:=WH l c W
   rwa [e] at this
  have hT:=J hi;clear hi e aH;have aV:=fB l
  have vT:i≤(bs l).size:=by omega
  have xw:i + 1≤(bs l).size:=by omega
  have Hn:(bs l).size≤1073741824:=by omega
  clear aV;have hw:IntKind.i64.wrap ((i:Int) + 1)= (i:Int) + 1:=IntWalk.i64_in _ (by omega)
  go_in
  go_wp2_with fail
  refine (hT.out _).mono ?_
  rintro e _ ⟨rfl,rfl⟩
  go_wp2
  refine eK (by kernel_rfl) (by kernel_rfl) ?_
  repeat (go_big_quiet_step ((fail)))
  refine wpQuiet_nil ?_
  intro K
  go_wp2
  go_ret3
  exact⟨by rw [dP.out,← jM.out,← Kg.out];rfl,K.ae⟩
 ·have aY:=TZ (c:=c) l (by omega)
  have hm:iW c l= false:=DO.2 aY;have dT:=Gr aY;have dN:=Qu aY;have dP:=J hm;have jM:=J dT;have Kg:=J dN;clear hm dT dN aY
  have Mf:Lib.indexByte l c < 0:=by omega
  clear aH
  go_in
  go_wp2_with fail
  refine (WH l c _).mono ?_
  rintro e _ ⟨rfl,rfl⟩
  go_wp2
  go_ret3
  exact⟨by rw [dP.out,jM.out,Kg.out];rfl,Below.refl _ _⟩
theorem oT (l:ca) (c:UInt8) (aT:l.length≤1073741824) (w:World):Calls Tryz.prog 205 #[.string (bs l),.string ⟨#[c]⟩] w fun e ah=>e= .returned (.tuple #[.string (bs (cR c l)),.string (bs (gi c l)),.bool (iW c l)])∧Below w w ah:=by
 go_in
 go_wp2_with fail
 refine (ama l c aT _).mono ?_
 rintro e bh ⟨rfl,br⟩
 have au:=be w br;have I:Below w w bh:=au
 go_wp2
 go_ret3
 exact⟨rfl,(aj I az)⟩
theorem anz (l:ca) (k:Nat) (h:k < l.length):nX (l.take (k + 1))= (41 * nX (l.take k) + (l[k]).toNat + 1) % 999979:=by
 unfold nX
 rw [List.take_succ_eq_append_getElem h,List.foldl_append]
 rfl
theorem CX (l:ca) (k:Nat) (h:k < (bs l).size):(bs l)[k]= l[k]'(by rw [fB] at h;exact h):=by
 show (bs l).data[k]'(h)= _
 simp [bs]
theorem Zj {p:Prop} (h:p:=by
 have aV:=fB l
 have vT:(bs l).size≤1073741824:=by omega
 have dU:=J aV;clear aV
 go_in
 go_wp2
 go_loop [3,4] (fun h i=>∃(k:Nat) (q:Int),k≤(bs l).size∧i= .int .i64 k∧h= .int .i64 q∧q= (nX (l.take k):Nat)) (fun _ i=>(bs l).size - (intOf i).toNat)
 case atStart=>exact⟨0,7,Nat.zero_le _,rfl,rfl,rfl⟩
 case round=>
  obtain⟨k,q,aD,rfl,rfl,bj⟩:=hrel
  have al:=IB (l.take k)
  have aP:0≤q:=by omega
  have bN:q < 999979:=by omega
  have dH:=J bj;clear bj al
  by_cases bu:k < (bs l).size
  ·have aF:(bs l)[k].toNat < 256:=(bs l)[k].toNat_lt
   have aH:((bs l)[k].toNat:Int) < 256:=by omega
   have iF:((41 * q + ((bs l)[k].toNat:Int) + 1) % 999979:Int)= (nX (l.take (k + 1)):Nat):=by
    rw [anz l k (by rw [← dU.out];exact bu),dH.out,CX]
    omega
   have bO:=J iF;clear iF
   go_wp2
   go_round
   case rel=>exact⟨k + 1,_,by omega,by go_num,rfl,bO.out⟩
   case measure=>simp [intOf];omega
  ·obtain rfl:k= (bs l).size:=by omega
   go_wp2
   go_ret
   have:=dH.out
   rw [dU.out,List.take_length] at this
   exact⟨BJ this,rfl⟩):p:=h
theorem adu (l:ca) (aT:l.length≤1073741824) (w:World):Calls Tryz.prog 263 #[.string (bs l)] w fun e ah=>e= .returned (.int .i64 (nX l:Nat))∧ah= w:=by
 exact Zj
theorem Vx (n:Int):eN n= bs (qw n):=rfl
theorem QD {k:Int} (aD:0≤k) (kP:k < 100) {c r:ca} (h:jV c r= true):(mO k c r).length≤364:=by
 obtain⟨h1,h2,h3,_⟩:=zC h
 have a:=Vw aD kP
 unfold mO
 simp only [List.length_append,List.length_cons]
 omega
theorem ZS {p:Prop} (h:p:=by
 rw [Vx,show (⟨#[35]⟩ :ByteArray)= bs [35] from rfl,mP,mP];simp [wz]):p:=h
theorem adf (l:ca) (aT:l.length≤3000) (aY:(35:UInt8) ∉ l) (w:World) (db:jF w):Calls Tryz.prog 182 #[.string (bs l)] w fun e ah=>e= .returned (.tuple #[.string (bs (wz l)),true])∧Below w w ah:=by
 have iF:zV (bs l) 35= false:=by
  unfold zV;rw [uk,List.any_eq_false];intro x aw;simp;rintro rfl;exact aY aw
 have vT:(bs l).size≤3000:=by rw [fB];exact aT
 have bj:=IB l;have hm:=wm (nX l:Nat) (by omega)
 have tk:(bs l ++⟨#[35]⟩) ++ eN (nX l:Nat)= bs (wz l):=by
  exact ZS
 have gp:=J tk;clear tk aY
 go_in
 go_wp2_with fail
 refine (QS (bs l) 35 _ iF _).mono ?_
 rintro e _ ⟨rfl,rfl⟩
 go_wp2_with fail
 refine (adu l (by omega) _).mono ?_
 rintro e _ ⟨rfl,rfl⟩
 go_wp2_with fail
 refine (zq (nX l:Nat) (by omega) (by omega) _ db).mono ?_
 rintro e bh ⟨rfl,br⟩
 go_wp2
 go_ret2
 exact⟨by rw [← gp.out];rfl,br⟩
theorem YP {p:Prop} (h:p:=by
 rw [Vx,show (⟨#[32]⟩ :ByteArray)= bs [32] from rfl,show (⟨#[64]⟩ :ByteArray)= bs [64] from rfl,mP,mP,mP,mP];simp [mO]):p:=h
theorem ZG {p:Prop} (h:p:=by
 refine wpQuiet_nil ?_
 intro K
 go_wp2
 go_ret
 exact⟨by rw [← gp.out];rfl,aj (bT _ _) K.ae⟩):p:=h
theorem Rl (k:Int) (aD:0≤k) (kP:k < 100) (c r:ca) (h:jV c r= true) (w:World) (db:jF w):Calls Tryz.prog 105 #[k,.agg #[.string (bs c),.string (bs r)]] w fun e ah=>e= .returned (.string (bs (fj k c r ++ [10])))∧Below w w ah:=by
 obtain⟨av,c2,c3,_⟩:=zC h
 have ew:=QD aD kP h;have aY:=(Gs aD h).1
 have e1:eN k ++⟨#[32]⟩ ++ bs c ++⟨#[64]⟩ ++ bs r= bs (mO k c r):=by
  exact YP
 have aX:∀W,jF W→Calls Tryz.prog 182 #[.string (eN k ++⟨#[32]⟩ ++ bs c ++⟨#[64]⟩ ++ bs r)] W fun e ah=>e= .returned (.tuple #[.string (bs (fj k c r)),true])∧Below W W ah:=fun W bL=>by
  rw [e1];exact adf _ (by omega) aY W bL
 have aT:=Bz aD kP h
 have s1:(bs c).size≤160:=by rw [fB];exact c2
 have s2:(bs r).size≤200:=by rw [fB];exact c3
 have nD:(bs (fj k c r)).size≤371:=by rw [fB];exact aT
 have BM:=wm k (by omega);have tk:bs (fj k c r) ++⟨#[10]⟩ =bs (fj k c r ++ [10]):=mP _ _;have jD:=J aX;have gp:=J tk;clear aX tk e1 aY ew h;have bO:=J (db.ae (bT w (.cells #[.string (bs c),.string (bs r)] 56)));have eu:=boxed w #[.string (bs c),.string (bs r)] 56 0 (.string (bs c)) rfl;have dF:=boxed w #[.string (bs c),.string (bs r)] 56 1 (.string (bs r)) rfl
 go_in
 go_wp2
 refine eK (by kernel_rfl) (by kernel_rfl) ?_
 repeat (go_big_quiet_step ((first
  | (go_at_call 70;exact ay.call _ (by first | exact Nat.le_refl _ | omega) (zq _ (by omega) (by omega) _ (bO.out.ae (ay.ae _))))
  | (go_at_call 182;exact ay.call _ (by first | exact Nat.le_refl _ | omega) (jD.out _ (bO.out.ae (ay.ae _)))))))
 exact ZG
def jA (l:ca) (k:Nat):Value:=match iJ l k with
 | some (c,r,n)=> .tuple #[.agg #[.string (bs c),.string (bs r)],.int .i64 n,.bool true]
 | none=> .tuple #[.agg #[.string (bs []),.string (bs [])],.int .i64 0,.bool false]
theorem akN (l:ca) (k:Nat) (fc:iW 10 l= true) (aD:k < 60) (line cmd rep:ca) (h1:cR 10 l= line) (h2:cR 64 (gi 32 (cR 35 line))= cmd) (h3:gi 64 (gi 32 (cR 35 line))= rep):
  jA l k= if jV cmd rep && decide (fj k cmd rep= line) then .tuple #[.agg #[.string (bs cmd),.string (bs rep)],.int .i64 (line.length + 1:Nat),true] else .tuple #[.agg #[.string (bs []),.string (bs [])],(0:Int),false]:=by
 subst h1 h2 h3
 unfold jA iJ
 rw [fc,if_pos (by simp [aD])]
 unfold rD
 simp only
 generalize (jV (cR 64 (gi 32 (cR 35 (cR 10 l)))) (gi 64 (gi 32 (cR 35 (cR 10 l)))) && decide (fj k (cR 64 (gi 32 (cR 35 (cR 10 l)))) (gi 64 (gi 32 (cR 35 (cR 10 l))))= cR 10 l))= b
 cases b <;> rfl
theorem ala (l:ca) (aT:l.length≤1048576) (k:Nat) (aD:k≤60) (v:Value) (ax:jA l k= v) (w:World) (db:jF w):Calls Tryz.prog 125 #[.string (bs l),k] w fun e ah=>e= .returned v∧Below w w ah:=by
 subst ax
 have g1:=AD 10 l;have g2:=AD 35 (cR 10 l);have g3:=Qt 32 (cR 35 (cR 10 l))
 cases fc:iW 10 l
 ·have cG:jA l k= .tuple #[.agg #[.string (bs []),.string (bs [])],(0:Int),false]:=by simp [jA,iJ,fc]
  have dm:=J cG;clear cG
  go_in
  go_wp2_with fail
  refine (oT l 10 (by omega) _).mono ?_
  rintro e bh ⟨rfl,br⟩
  have au:=be w br;have I:Below w w bh:=au;have U:aB bh (w.heap.size) 56 #[.string ⟨#[]⟩,.string ⟨#[]⟩]:=aB.dY br;have z0:=(U.cell 0).trans (show _= some (.string ⟨#[]⟩) from rfl);have bW:=(U.cell 1).trans (show _= some (.string ⟨#[]⟩) from rfl)
  go_wp2_with fail
  refine (oT (cR 10 l) 35 (by omega) _).mono ?_
  rintro e aJ ⟨rfl,aL⟩
  have al:=be bh aL;replace I:=aj I al;replace U:=U.to al;replace z0:=(U.cell 0).trans (show _= some (.string ⟨#[]⟩) from rfl);replace bW:=(U.cell 1).trans (show _= some (.string ⟨#[]⟩) from rfl)
  go_wp2_with fail
  refine (oT (cR 35 (cR 10 l)) 32 (by omega) _).mono ?_
  rintro e bB ⟨rfl,bx⟩
  have aP:=be aJ bx;replace I:=aj I aP;replace U:=U.to aP;replace z0:=(U.cell 0).trans (show _= some (.string ⟨#[]⟩) from rfl);replace bW:=(U.cell 1).trans (show _= some (.string ⟨#[]⟩) from rfl)
  go_wp2_with fail
  refine (oT (gi 32 (cR 35 (cR 10 l))) 64 (by omega) _).mono ?_
  rintro e bU ⟨rfl,cY⟩
  have bN:=be bB cY;replace I:=aj I bN;replace U:=U.to bN;replace z0:=(U.cell 0).trans (show _= some (.string ⟨#[]⟩) from rfl);replace bW:=(U.cell 1).trans (show _= some (.string ⟨#[]⟩) from rfl)
  have lq:=U.vD;have lV:=U.lt;have ai:=((U.gE 0 (.string ⟨#[]⟩)).gE 1 (.string ⟨#[]⟩)).alloc (.cells #[.string (bs (cR 64 (gi 32 (cR 35 (cR 10 l))))),.string (bs (gi 64 (gi 32 (cR 35 (cR 10 l)))))] 56);have fX:=ai.kY
  go_wp2
  refine bodyPost_ret (v:= .tuple #[.agg #[.string ⟨#[]⟩,.string ⟨#[]⟩],(0:Int),false]) (by simp [results,Tryz.results125,go_sem,fX]) rfl ?_
  exact⟨by rw [dm.out];rfl,(by repeat (first | exact I | exact Below.refl _ _ | refine Below.alloc ?_ (by first | exact Nat.le_refl _ | (have gN:=I.size;simp;omega) | (simp <;> omega)) _ | refine Below.setCell ?_ (by first | exact Nat.le_refl _ | (simp <;> omega)) _))⟩
 by_cases kP:k < 60
 case neg=>
  have cG:jA l k= .tuple #[.agg #[.string (bs []),.string (bs [])],(0:Int),false]:=by simp [jA,iJ,kP]
  have dm:=J cG;clear cG
  have agi:60≤k:=by omega
  clear kP
  go_in
  go_wp2_with fail
  refine (oT l 10 (by omega) _).mono ?_
  rintro e bh ⟨rfl,br⟩
  have au:=be w br;have I:Below w w bh:=au;have U:aB bh (w.heap.size) 56 #[.string ⟨#[]⟩,.string ⟨#[]⟩]:=aB.dY br;have z0:=(U.cell 0).trans (show _= some (.string ⟨#[]⟩) from rfl);have bW:=(U.cell 1).trans (show _= some (.string ⟨#[]⟩) from rfl)
  go_wp2_with fail
  refine (oT (cR 10 l) 35 (by omega) _).mono ?_
  rintro e aJ ⟨rfl,aL⟩
  have al:=be bh aL;replace I:=aj I al;replace U:=U.to al;replace z0:=(U.cell 0).trans (show _= some (.string ⟨#[]⟩) from rfl);replace bW:=(U.cell 1).trans (show _= some (.string ⟨#[]⟩) from rfl)
  go_wp2_with fail
  refine (oT (cR 35 (cR 10 l)) 32 (by omega) _).mono ?_
  rintro e bB ⟨rfl,bx⟩
  have aP:=be aJ bx;replace I:=aj I aP;replace U:=U.to aP;replace z0:=(U.cell 0).trans (show _= some (.string ⟨#[]⟩) from rfl);replace bW:=(U.cell 1).trans (show _= some (.string ⟨#[]⟩) from rfl)
  go_wp2_with fail
  refine (oT (gi 32 (cR 35 (cR 10 l))) 64 (by omega) _).mono ?_
  rintro e bU ⟨rfl,cY⟩
  have bN:=be bB cY;replace I:=aj I bN;replace U:=U.to bN;replace z0:=(U.cell 0).trans (show _= some (.string ⟨#[]⟩) from rfl);replace bW:=(U.cell 1).trans (show _= some (.string ⟨#[]⟩) from rfl)
  have lq:=U.vD;have lV:=U.lt;have ai:=((U.gE 0 (.string ⟨#[]⟩)).gE 1 (.string ⟨#[]⟩)).alloc (.cells #[.string (bs (cR 64 (gi 32 (cR 35 (cR 10 l))))),.string (bs (gi 64 (gi 32 (cR 35 (cR 10 l)))))] 56);have fX:=ai.kY
  go_wp2
  refine bodyPost_ret (v:= .tuple #[.agg #[.string ⟨#[]⟩,.string ⟨#[]⟩],(0:Int),false]) (by simp [results,Tryz.results125,go_sem,fX]) rfl ?_
  exact⟨by rw [dm.out];rfl,(by repeat (first | exact I | exact Below.refl _ _ | refine Below.alloc ?_ (by first | exact Nat.le_refl _ | (have gN:=I.size;simp;omega) | (simp <;> omega)) _ | refine Below.setCell ?_ (by first | exact Nat.le_refl _ | (simp <;> omega)) _))⟩
 have g4:=AD 64 (gi 32 (cR 35 (cR 10 l)));have g5:=Qt 64 (gi 32 (cR 35 (cR 10 l)));have xm:=akN l k fc kP _ _ _ rfl rfl rfl
 generalize LC:cR 64 (gi 32 (cR 35 (cR 10 l)))= cmd at *
 generalize zc:gi 64 (gi 32 (cR 35 (cR 10 l)))= rep at *
 generalize Ma:cR 10 l= line at *
 have hcut:∀W,Calls Tryz.prog 205 #[.string (bs (gi 32 (cR 35 line))),.string ⟨#[64]⟩] W fun e ah=>e= .returned (.tuple #[.string (bs cmd),.string (bs rep),.bool (iW 64 (gi 32 (cR 35 line)))])∧Below W W ah:=fun W=>by
  have:=oT (gi 32 (cR 35 line)) 64 (by omega) W
  rwa [LC,zc] at this
 have SA:∀W,Calls Tryz.prog 205 #[.string (bs l),.string ⟨#[10]⟩] W fun e ah=>e= .returned (.tuple #[.string (bs line),.string (bs (gi 10 l)),true])∧Below W W ah:=fun W=>by
  have:=oT l 10 (by omega) W
  rwa [Ma,fc] at this
 have Jo:=J hcut;have Jp:=J SA;have FM:=J Ma;have Ch:=J LC;have Am:=J zc;have lI:=J fc;clear Ma LC zc hcut SA fc
 have s1:(bs cmd).size≤1048576:=by rw [fB];omega
 have s2:(bs rep).size≤1048576:=by rw [fB];omega
 cases ga:jV cmd rep
 ·rw [ga] at xm
  have cG:jA l k= .tuple #[.agg #[.string (bs []),.string (bs [])],(0:Int),false]:=by rw [xm];rfl
  have dm:=J cG;have ir:=J ga;clear cG xm ga
  go_in
  go_wp2_with fail
  refine (Jp.out _).mono ?_
  rintro e bh ⟨rfl,br⟩
  have au:=be w br;have I:Below w w bh:=au;have U:aB bh (w.heap.size) 56 #[.string ⟨#[]⟩,.string ⟨#[]⟩]:=aB.dY br;have z0:=(U.cell 0).trans (show _= some (.string ⟨#[]⟩) from rfl);have bW:=(U.cell 1).trans (show _= some (.string ⟨#[]⟩) from rfl)
  go_wp2_with fail
  refine (oT line 35 (by omega) _).mono ?_
  rintro e aJ ⟨rfl,aL⟩
  have al:=be bh aL;replace I:=aj I al;replace U:=U.to al;replace z0:=(U.cell 0).trans (show _= some (.string ⟨#[]⟩) from rfl);replace bW:=(U.cell 1).trans (show _= some (.string ⟨#[]⟩) from rfl)
  go_wp2_with fail
  refine (oT (cR 35 line) 32 (by omega) _).mono ?_
  rintro e bB ⟨rfl,bx⟩
  have aP:=be aJ bx;replace I:=aj I aP;replace U:=U.to aP;replace z0:=(U.cell 0).trans (show _= some (.string ⟨#[]⟩) from rfl);replace bW:=(U.cell 1).trans (show _= some (.string ⟨#[]⟩) from rfl)
  go_wp2_with fail
  refine (Jo.out _).mono ?_
  rintro e bU ⟨rfl,cY⟩
  have bN:=be bB cY;replace I:=aj I bN;replace U:=U.to bN;replace z0:=(U.cell 0).trans (show _= some (.string ⟨#[]⟩) from rfl);replace bW:=(U.cell 1).trans (show _= some (.string ⟨#[]⟩) from rfl)
  go_wp2_with fail
  refine (vY (bs cmd) (bs rep) s1 s2 _ ir.out _).mono ?_
  rintro e dB ⟨rfl,eD⟩
  have cK:=be bU eD;replace I:=aj I cK;replace U:=U.to cK;replace z0:=(U.cell 0).trans (show _= some (.string ⟨#[]⟩) from rfl);replace bW:=(U.cell 1).trans (show _= some (.string ⟨#[]⟩) from rfl)
  have lq:=U.vD;have lV:=U.lt;have ai:=((U.gE 0 (.string ⟨#[]⟩)).gE 1 (.string ⟨#[]⟩));have fX:=ai.kY
  go_wp2
  refine bodyPost_ret (v:= .tuple #[.agg #[.string ⟨#[]⟩,.string ⟨#[]⟩],(0:Int),false]) (by simp [results,Tryz.results125,go_sem,fX]) rfl ?_
  exact⟨by rw [dm.out];rfl,(by repeat (first | exact I | exact Below.refl _ _ | refine Below.alloc ?_ (by first | exact Nat.le_refl _ | (have gN:=I.size;simp;omega) | (simp <;> omega)) _ | refine Below.setCell ?_ (by first | exact Nat.le_refl _ | (simp <;> omega)) _))⟩
 ·rw [ga] at xm
  obtain⟨av,c2,c3,_⟩:=zC ga
  have hlen:=Bz (k:=(k:Int)) (by omega) (by omega) ga
  have nD:(bs line).size≤1048576:=by rw [fB];omega
  have Af:=J (fB line)
  have SK:∀W,jF W→Calls Tryz.prog 105 #[k,.agg #[.string (bs cmd),.string (bs rep)]] W fun e ah=>e= .returned (.string (bs (fj k cmd rep ++ [10])))∧Below W W ah:=fun W bL=>Rl k (by omega) (by omega) cmd rep ga W bL
  have PB:=J SK;clear SK
  by_cases heq:fj k cmd rep= line
  ·have cG:jA l k= .tuple #[.agg #[.string (bs cmd),.string (bs rep)],.int .i64 (line.length + 1:Nat),true]:=by rw [xm,heq];simp
   have xl:∀W,jF W→Calls Tryz.prog 105 #[k,.agg #[.string (bs cmd),.string (bs rep)]] W fun e ah=>e= .returned (.string (bs line ++⟨#[10]⟩))∧Below W W ah:=fun W bL=>by
    have:=PB.out W bL
    rwa [heq,← mP] at this
   have dm:=J cG;have ir:=J ga;have dH:=J xl;clear cG xm ga heq xl
   go_in
   go_wp2_with fail
   refine (Jp.out _).mono ?_
   rintro e bh ⟨rfl,br⟩
   have au:=be w br;have I:Below w w bh:=au;have U:aB bh (w.heap.size) 56 #[.string ⟨#[]⟩,.string ⟨#[]⟩]:=aB.dY br;have z0:=(U.cell 0).trans (show _= some (.string ⟨#[]⟩) from rfl);have bW:=(U.cell 1).trans (show _= some (.string ⟨#[]⟩) from rfl)
   go_wp2_with fail
   refine (oT line 35 (by omega) _).mono ?_
   rintro e aJ ⟨rfl,aL⟩
   have al:=be bh aL;replace I:=aj I al;replace U:=U.to al;replace z0:=(U.cell 0).trans (show _= some (.string ⟨#[]⟩) from rfl);replace bW:=(U.cell 1).trans (show _= some (.string ⟨#[]⟩) from rfl)
   go_wp2_with fail
   refine (oT (cR 35 line) 32 (by omega) _).mono ?_
   rintro e bB ⟨rfl,bx⟩
   have aP:=be aJ bx;replace I:=aj I aP;replace U:=U.to aP;replace z0:=(U.cell 0).trans (show _= some (.string ⟨#[]⟩) from rfl);replace bW:=(U.cell 1).trans (show _= some (.string ⟨#[]⟩) from rfl)
   go_wp2_with fail
   refine (Jo.out _).mono ?_
   rintro e bU ⟨rfl,cY⟩
   have bN:=be bB cY;replace I:=aj I bN;replace U:=U.to bN;replace z0:=(U.cell 0).trans (show _= some (.string ⟨#[]⟩) from rfl);replace bW:=(U.cell 1).trans (show _= some (.string ⟨#[]⟩) from rfl)
   go_wp2_with fail
   refine (vY (bs cmd) (bs rep) s1 s2 _ ir.out _).mono ?_
   rintro e dB ⟨rfl,eD⟩
   have cK:=be bU eD;replace I:=aj I cK;replace U:=U.to cK;replace z0:=(U.cell 0).trans (show _= some (.string ⟨#[]⟩) from rfl);replace bW:=(U.cell 1).trans (show _= some (.string ⟨#[]⟩) from rfl);have eG:aB dB (bU.heap.size) 56 #[.string (bs cmd),.string (bs rep)]:=aB.dY eD
   have gz:=eG.kY
   go_wp2_with fail
   refine (dH.out _ (db.ae I)).mono ?_
   rintro e ju ⟨rfl,ou⟩
   have eQ:=be dB ou;replace I:=aj I eQ;replace U:=U.to eQ;replace z0:=(U.cell 0).trans (show _= some (.string ⟨#[]⟩) from rfl);replace bW:=(U.cell 1).trans (show _= some (.string ⟨#[]⟩) from rfl);replace eG:=eG.to eQ;clear gz;have gz:=eG.kY;have lq:=U.vD;have lV:=U.lt;have aop:=eG.lt;have ai:=((U.gE 0 (.string (bs cmd))).gE 1 (.string (bs rep)))
   have fX:=ai.kY
   go_wp2
   refine bodyPost_ret (v:= .tuple #[.agg #[.string (bs cmd),.string (bs rep)],.int .i64 ((bs line).size + 1),true]) (by simp [results,Tryz.results125,go_sem,fX]) rfl ?_
   exact⟨by rw [dm.out,Af.out];rfl,(by repeat (first | exact I | exact Below.refl _ _ | refine Below.alloc ?_ (by first | exact Nat.le_refl _ | (have gN:=I.size;simp;omega) | (simp <;> omega)) _ | refine Below.setCell ?_ (by first | exact Nat.le_refl _ | (simp <;> omega)) _))⟩
  ·have cG:jA l k= .tuple #[.agg #[.string (bs []),.string (bs [])],(0:Int),false]:=by rw [xm];simp [heq]
   have eM:¬(bs (fj k cmd rep ++ [10])).toList= (bs line ++⟨#[10]⟩).toList:=by
    intro h
    rw [ByteArray.toList_eq,ByteArray.toList_eq,show (⟨#[10]⟩ :ByteArray)= bs [10] from rfl,mP,uk,uk] at h
    exact heq (List.append_cancel_right h)
   have aqa:((bs (fj k cmd rep ++ [10])).toList == (bs line ++⟨#[10]⟩).toList)= false:=beq_eq_false_iff_ne.2 eM;clear eM
   have BM:(bs (fj k cmd rep ++ [10])).size≤1048576:=by rw [fB];simp;omega
   have dm:=J cG;have ir:=J ga;clear cG xm ga heq
   go_in
   go_wp2_with fail
   refine (Jp.out _).mono ?_
   rintro e bh ⟨rfl,br⟩
   have au:=be w br;have I:Below w w bh:=au;have U:aB bh (w.heap.size) 56 #[.string ⟨#[]⟩,.string ⟨#[]⟩]:=aB.dY br;have z0:=(U.cell 0).trans (show _= some (.string ⟨#[]⟩) from rfl);have bW:=(U.cell 1).trans (show _= some (.string ⟨#[]⟩) from rfl)
   go_wp2_with fail
   refine (oT line 35 (by omega) _).mono ?_
   rintro e aJ ⟨rfl,aL⟩
   have al:=be bh aL;replace I:=aj I al;replace U:=U.to al;replace z0:=(U.cell 0).trans (show _= some (.string ⟨#[]⟩) from rfl);replace bW:=(U.cell 1).trans (show _= some (.string ⟨#[]⟩) from rfl)
   go_wp2_with fail
   refine (oT (cR 35 line) 32 (by omega) _).mono ?_
   rintro e bB ⟨rfl,bx⟩
   have aP:=be aJ bx;replace I:=aj I aP;replace U:=U.to aP;replace z0:=(U.cell 0).trans (show _= some (.string ⟨#[]⟩) from rfl);replace bW:=(U.cell 1).trans (show _= some (.string ⟨#[]⟩) from rfl)
   go_wp2_with fail
   refine (Jo.out _).mono ?_
   rintro e bU ⟨rfl,cY⟩
   have bN:=be bB cY;replace I:=aj I bN;replace U:=U.to bN;replace z0:=(U.cell 0).trans (show _= some (.string ⟨#[]⟩) from rfl);replace bW:=(U.cell 1).trans (show _= some (.string ⟨#[]⟩) from rfl)
   go_wp2_with fail
   refine (vY (bs cmd) (bs rep) s1 s2 _ ir.out _).mono ?_
   rintro e dB ⟨rfl,eD⟩
   have cK:=be bU eD;replace I:=aj I cK;replace U:=U.to cK;replace z0:=(U.cell 0).trans (show _= some (.string ⟨#[]⟩) from rfl);replace bW:=(U.cell 1).trans (show _= some (.string ⟨#[]⟩) from rfl);have eG:aB dB (bU.heap.size) 56 #[.string (bs cmd),.string (bs rep)]:=aB.dY eD
   have gz:=eG.kY
   go_wp2_with fail
   refine (PB.out _ (db.ae I)).mono ?_
   rintro e ju ⟨rfl,ou⟩
   have eQ:=be dB ou;replace I:=aj I eQ;replace U:=U.to eQ;replace z0:=(U.cell 0).trans (show _= some (.string ⟨#[]⟩) from rfl);replace bW:=(U.cell 1).trans (show _= some (.string ⟨#[]⟩) from rfl);replace eG:=eG.to eQ;clear gz;have gz:=eG.kY
   have lq:=U.vD;have lV:=U.lt;have aop:=eG.lt;have ai:=((U.gE 0 (.string ⟨#[]⟩)).gE 1 (.string ⟨#[]⟩));have fX:=ai.kY
   go_wp2
   refine bodyPost_ret (v:= .tuple #[.agg #[.string ⟨#[]⟩,.string ⟨#[]⟩],(0:Int),false]) (by simp [results,Tryz.results125,go_sem,fX]) rfl ?_
   exact⟨by rw [dm.out];rfl,(by repeat (first | exact I | exact Below.refl _ _ | refine Below.alloc ?_ (by first | exact Nat.le_refl _ | (have gN:=I.size;simp;omega) | (simp <;> omega)) _ | refine Below.setCell ?_ (by first | exact Nat.le_refl _ | (simp <;> omega)) _))⟩
open Go.RowKit Go.G9
structure eB where
 cmd:ByteArray
 rep:ByteArray
def eB.cells (x:eB):List Value:=[.string x.cmd,.string x.rep]
theorem eB.rR (y:eB):y.cells.length= 2:=rfl
theorem eB.cells_one (y:eB) (u:Value) (h:u ∈ y.cells):u.oneCell'= true:=by simp [eB.cells] at h;rcases h with rfl | rfl <;> rfl
def pA (x:ca×ca×Nat):eB:=⟨bs x.1,bs x.2.1⟩
def vx (x:ca×ca×Nat):Int:=(x.2.2:Nat)
def gn (l:ca):List eB:=(gT l).map pA
def lM (l:ca):List Int:=0 ::(gT l).map vx
theorem SJ (w:World) (a b:Obj):((w.alloc a).alloc b).heap.size= w.heap.size + 2:=by simp
theorem Wa:∀(f k:Nat) (l:ca) (a:Nat),k≤60→(hQ f k l a).length + k≤60
 | 0,k,_,_,h=>by simpa [hQ] using h
 | f + 1,k,l,a,h=>by
  unfold hQ
  cases aw:iJ l k with
  | none=>simpa using h
  | some x=>
   obtain⟨c,r,n⟩:=x
   have aD:=(BH aw).1;have:=Wa f (k + 1) (l.drop n) (a + n) (by omega)
   simp;omega
theorem ND (l:ca):(gT l).length≤60:=Wa 61 0 l 0 (by omega)
theorem Uc:(Tryz.prog.info? 56).map (fun i=>(i.zero,i.size,i.bytes))= some (some (.agg #[.string ⟨#[]⟩,.string ⟨#[]⟩]),2,32):=by kernel_rfl
theorem ZI {p:Prop} (h:p:=by
 rw [aw];exact ala (l.drop a) (by simp;omega) xs.length zi _ (by rw [jA,bp]) wr afo):p:=h
theorem Wh (l:ca) (aT:l.length≤1048576) (w:World) (db:jF w):Calls Tryz.prog 65 #[.string (bs l)] w fun e ah=>∃A c kS cM,e= .returned (.tuple #[.slice A (gn l).length c,.slice kS (lM l).length cM])∧
  bd w 56 2 eB.cells ah (.slice A (gn l).length c) (gn l)∧bd w 3 1 bV ah (.slice kS (lM l).length cM) (lM l)∧Below w w ah:=by
 obtain⟨i0,hi,dn,dC,dz⟩:=info_parts Uc
 obtain⟨i1,LN,Hu,ahc,sh⟩:=info_parts rr
 have gN:=fB l
 have vT:(bs l).size≤1048576:=by omega
 have dU:=J gN;clear gN;have nP:=bd.built (B:=w.heap.size) (f:=eB.cells) w ([]:List eB) 56 (Nat.le_refl _) (by simp) eB.rR;have KT:=bd.built (B:=w.heap.size) (f:=bV) (w.alloc (.cells #[] 56)) ([0]:List Int) 3 (by simp) (by simp [maxLen]) fW
 simp only [List.flatMap_cons,List.flatMap_nil,bV,List.append_nil] at KT
 have eL:=J (nP.alloc (.cells #[(0:Int)] 3));have vp:=J KT;clear nP KT
 go_in
 go_wp2
 go_loopw [4,5,6] (fun v4 v5 v6 wr=>∃(xs:List (ca×ca×Nat)) (a:Nat),gT l= xs ++ hQ (61 - xs.length) xs.length (l.drop a) a∧xs.length≤60∧a≤(bs l).size∧v6= .int .i64 a∧
   bd w 56 2 eB.cells wr v4 (xs.map pA)∧bd w 3 1 bV wr v5 (0 ::xs.map vx)∧px v4 v5∧Below w w wr) (fun _ _ v6 _=>1048577 - (intOf v6).toNat)
 case atStart=>
  refine⟨[],0,?_,by simp,Nat.zero_le _,rfl,by simpa using eL.out,by simpa using vp.out,?_,CW _ _ _⟩
  ·rfl
  ·intro k h1 h2
   simp [Value.ownBlock] at h1 h2
   omega
 case round=>
  obtain⟨xs,a,lf,zi,cS,rfl,bM,eG,eM,aF⟩:=hrel
  obtain⟨aA,c4,rfl,mg,_,_⟩:=bM.form eB.rR
  obtain⟨oc,c5,rfl,rb,_,_⟩:=eG.form fW
  simp only [List.length_map,List.length_cons] at bM eG eM mg rb ⊢
  have agm:a≤l.length:=by rw [← dU.out];exact cS
  have aw:(bs l).extract a (bs l).size= bs (l.drop a):=by rw [uj,fB,List.take_of_length_le (by simp)]
  have hf:∃f,61 - xs.length= f + 1∧f= 61 - (xs.length + 1):=⟨60 - xs.length,by omega,by omega⟩
  obtain⟨f,Bd,Eb⟩:=hf
  have afo:=db.ae aF;have z0:=aF.size;have uG:=J bM.lt;have UA:=J eG.lt
  cases bp:iJ (l.drop a) xs.length with
  | none=>
   have bj:Calls Tryz.prog 125 #[.string ((bs l).extract a (bs l).size),xs.length] wr fun e ah=>e= .returned (.tuple #[.agg #[.string (bs []),.string (bs [])],(0:Int),false])∧Below wr wr ah:=by
    exact ZI
   have tl:gT l= xs:=by rw [lf,Bd,hQ,bp];simp
   have dH:=J bj;have fz:=J tl;have dm:=J bM;have cW:=J eG;clear bj tl lf aw bp bM eG Bd Eb
   go_wp2_with fail
   refine dH.out.mono ?_
   rintro e bh ⟨rfl,br⟩
   go_wp2
   go_ret2
   have e1:gn l= xs.map pA:=by rw [gn,fz.out]
   have e2:lM l= 0 ::xs.map vx:=by rw [lM,fz.out]
   rw [e1,e2]
   simp only [List.length_map,List.length_cons]
   exact⟨aA,c4,oc,c5,rfl,(dm.out.bm br).alloc _,(cW.out.bm br).alloc _,(aj aF br).alloc (by have:=br.size;omega) _⟩
  | some x=>
   obtain⟨c,r,n⟩:=x
   have aY:=BG bp
   simp only [List.length_drop] at aY
   have bj:Calls Tryz.prog 125 #[.string ((bs l).extract a (bs l).size),xs.length] wr fun e ah=>e= .returned (.tuple #[.agg #[.string (bs c),.string (bs r)],n,true])∧Below wr wr ah:=by
    exact ZI
   have aD:=(BH bp).1
   have Ej:gT l= (xs ++ [(c,r,a + n)]) ++ hQ (61 - (xs ++ [(c,r,a + n)]).length) (xs ++ [(c,r,a + n)]).length (l.drop (a + n)) (a + n):=by
    rw [lf,Bd,hQ,bp]
    simp [Eb,List.drop_drop]
   have dH:=J bj;have eZ:=J Ej;have dm:=J bM;have cW:=J eG;clear bj Ej lf aw bp bM eG Bd Eb
   go_wp2_with fail
   refine dH.out.mono ?_
   rintro e bh ⟨rfl,br⟩
   have bW:=br.size;have gY:=J (((dm.out.bm br).alloc (.cells #[.string (bs c),.string (bs r)] 56)).alloc (.cells #[.string (bs c),.string (bs r)] 56));have aeW:=J (((cW.out.bm br).alloc (.cells #[.string (bs c),.string (bs r)] 56)).alloc (.cells #[.string (bs c),.string (bs r)] 56))
   have jR:aS 2 eB.cells ((bh.alloc (.cells #[.string (bs c),.string (bs r)] 56)).alloc (.cells #[.string (bs c),.string (bs r)] 56)) (some ⟨bh.heap.size + 1,0,none⟩) [pA (c,r,a + n)]:=by
    have h:=aS.one (sz:=2) (f:=eB.cells) (w:=bh.alloc (.cells #[.string (bs c),.string (bs r)] 56)) (pA (c,r,a + n)) 56
    rw [show (bh.alloc (.cells #[.string (bs c),.string (bs r)] 56)).heap.size= bh.heap.size + 1 from by simp] at h
    exact h
   have qN:=J jR;clear jR
   go_upto_region 7 with (at_builtin;refine kC rfl _ _ 52 rfl w.heap.size 56 i0 _ 2 32 Tryz.underlying52 hi dn dC dz rfl (by decide) eB.cells eB.rR eB.cells_one (.slice aA xs c4) (xs.map pA) rfl gY.out ⟨bh.heap.size + 1,0,none⟩ 1 (pA (c,r,a + n)) rfl qN.out (by unfold maxLen;simp;omega) (by simp;omega) (by simp;omega) ?_;intro ln bU fb gq ld)
   have z4:=gq.size
   simp only [SJ] at z4
   have vG:=aeW.out.ne gq eM;have Tm:px ln (.slice oc (xs.length + 1) c5):=eM.step (fun k aD=>by have:=(UA.out k aD).2;simp;omega) ld;have ajp:=J fb.lt;have gS:Below w w bU:=(((aj aF br).alloc (by omega) _).alloc (by simp;omega) _).grown gq (by simp;omega) (fun k aD=>(uG.out k aD).1);have kp:=J fb;have abO:=J (vG.alloc (.cells #[.int .i64 ((a:Int) + n)] 3))
   have nH:=J Tm;clear fb vG Tm gq ld
   go_wp2_with (at_builtin;refine kC rfl _ _ 38 rfl w.heap.size 3 i1 _ 1 8 Tryz.underlying38 LN Hu ahc sh rfl (by decide) bV fW nS (.slice oc (xs.length + 1) c5) (0 ::xs.map vx) rfl abO.out ⟨bU.heap.size,0,none⟩ 1 ((a:Int) + n) rfl (aS.one _ _) (by unfold maxLen;simp;omega) (by simp;omega) (by simp;omega) ?_;intro v5 dB tc qn afs)
   have z5:=qn.size;have afl:=(kp.out.alloc (.cells #[.int .i64 ((a:Int) + n)] 3)).ne qn nH.out.symm;have agu:px ln v5:=(nH.out.symm.step (fun k aD=>by have:=(ajp.out k aD).2;simp;omega) afs).symm;have la:Below w w dB:=(gS.alloc (by omega) _).grown qn (by simp;omega) (fun k aD=>(UA.out k aD).1)
   go_roundw
   case rel=>
    refine⟨xs ++ [(c,r,a + n)],a + n,eZ.out,by simp;omega,by rw [dU.out];omega,by go_num,?_,?_,agu,la⟩
    ·rw [List.map_append];exact afl
    ·rw [List.map_append]
     have e:((a:Int) + n)= vx (c,r,a + n):=by simp [vx]
     rw [e] at tc
     exact tc
   case measure=>simp [intOf];omega
open Go.RowKit Go.G9
theorem ajf (l:ca) (aT:l.length≤1073741824) (w:World):Calls Tryz.prog 244 #[.string (bs l)] w fun e ah=>e= .returned (.int .i64 (nX l:Nat))∧ah= w:=by
 exact Zj
theorem ajc (l:ca) (aT:l.length≤1073741824) (w:World):Calls Tryz.prog 161 #[.string (bs l)] w fun e ah=>e= .returned (.string (bs (wz l)))∧Below w w ah:=by
 have vT:(bs l).size≤1073741824:=by rw [fB];exact aT
 have bj:=IB l;have hm:=wm (nX l:Nat) (by omega)
 have tk:(bs l ++⟨#[35]⟩) ++ eN (nX l:Nat)= bs (wz l):=by
  exact ZS
 have gp:=J tk;clear tk
 go_in
 go_wp2_with fail
 refine (ajf l aT _).mono ?_
 rintro e ah ⟨rfl,tC⟩
 have TC:=tC.symm
 subst TC
 go_wp2_with fail
 refine (pT (nX l:Nat) (by omega) (by omega) _).mono ?_
 rintro e bh ⟨rfl,br⟩
 have au:=be w br;have I:Below w w bh:=au
 go_wp2
 go_ret
 exact⟨by rw [← gp.out];rfl,(aj I az)⟩
theorem Ut (k:Int) (aD:0≤k) (kP:k < 100) (c r:ca) (h:jV c r= true) (w:World):Calls Tryz.prog 91 #[k,.agg #[.string (bs c),.string (bs r)]] w fun e ah=>e= .returned (.string (bs (fj k c r ++ [10])))∧Below w w ah:=by
 obtain⟨av,c2,c3,_⟩:=zC h
 have ew:=QD aD kP h
 have e1:eN k ++⟨#[32]⟩ ++ bs c ++⟨#[64]⟩ ++ bs r= bs (mO k c r):=by
  exact YP
 have aX:∀W,Calls Tryz.prog 161 #[.string (eN k ++⟨#[32]⟩ ++ bs c ++⟨#[64]⟩ ++ bs r)] W fun e ah=>e= .returned (.string (bs (fj k c r)))∧Below W W ah:=fun W=>by
  rw [e1];exact ajc _ (by omega) W
 have aT:=Bz aD kP h
 have s1:(bs c).size≤160:=by rw [fB];exact c2
 have s2:(bs r).size≤200:=by rw [fB];exact c3
 have nD:(bs (fj k c r)).size≤371:=by rw [fB];exact aT
 have BM:=wm k (by omega);have tk:bs (fj k c r) ++⟨#[10]⟩ =bs (fj k c r ++ [10]):=mP _ _;have jD:=J aX;have gp:=J tk;clear aX tk e1 ew h;have eu:=boxed w #[.string (bs c),.string (bs r)] 56 0 (.string (bs c)) rfl;have dF:=boxed w #[.string (bs c),.string (bs r)] 56 1 (.string (bs r)) rfl
 go_in
 go_wp2
 refine eK (by kernel_rfl) (by kernel_rfl) ?_
 repeat (go_big_quiet_step ((first
  | (go_at_call 73;exact ay.call _ (by first | exact Nat.le_refl _ | omega) (pT _ (by omega) (by omega) _))
  | (go_at_call 161;exact ay.call _ (by first | exact Nat.le_refl _ | omega) (jD.out _)))))
 exact ZG
structure Splits (c:UInt8) (l:ca) (ys:List ByteArray):Prop where
 ne:ys.length≠0
 first:ys[0]? =some (bs (cR c l))
 two:(2≤ys.length)↔iW c l= true
 len:ys.length≤l.length + 1
def sw (s:ByteArray):List Value:=[.string s]
theorem BS (y:ByteArray):(sw y).length= 1:=rfl
theorem Xx (y:ByteArray) (u:Value) (h:u ∈ sw y):u.oneCell'= true:=by simp [sw] at h;subst h;rfl
theorem aiF:(Tryz.prog.info? 9).map (fun i=>(i.zero,i.size,i.bytes))= some (some (.string ⟨#[]⟩),1,16):=by kernel_rfl
theorem adr {c:UInt8} {l:ca} {k:Nat} (h:iW c (l.take k)= false) (aD:k < l.length) (aH:l[k]= c):cR c l= l.take k∧iW c l= true:=by
 have aY:=DO.1 h
 have e:l= l.take k ++ c ::l.drop (k + 1):=by
  rw [← aH];simp
 refine⟨?_,?_⟩
 ·conv=>lhs;rw [e]
  exact CV aY
 ·rw [AX];rw [← aH];exact List.getElem_mem aD
theorem afz {c:UInt8} {l:ca} {k:Nat} (aD:k < l.length) (h:iW c (l.take k)= false) (aH:l[k]≠c):iW c (l.take (k + 1))= false:=by
 rw [DO] at *
 rw [List.take_succ_eq_append_getElem aD]
 simp only [List.mem_append,List.mem_singleton,not_or]
 exact⟨h,fun e=>aH e.symm⟩
theorem aje (l:ca) (c:UInt8) (aT:l.length≤1048576) (w:World):Calls Tryz.prog 67 #[.string (bs l),.int .u8 (c.toNat:Int)] w fun e ah=>∃A n ys,e= .returned (.slice A ys.length n)∧bd w.heap.size 9 1 sw ah (.slice A ys.length n) ys∧Splits c l ys∧Below w.heap.size w ah:=by
 obtain⟨i0,hi,dn,dC,dz⟩:=info_parts aiF
 have gN:=fB l
 have vT:(bs l).size≤1048576:=by omega
 have dU:=J gN;clear gN;have nP:=bd.built (B:=w.heap.size) (f:=sw) w ([]:List ByteArray) 9 (Nat.le_refl _) (by simp) BS
 simp only [List.flatMap_nil] at nP
 have eL:=J nP;clear nP;have jw:c.toNat < 256:=c.toNat_lt
 have afG:(c.toNat:Int) < 256:=by omega
 go_in
 go_wp2
 go_loopw [5,6,7] (fun v5 v6 lp wr=>∃(xs:List ByteArray) (a k:Nat),k≤(bs l).size∧a≤k∧v6= .int .i64 a∧lp= .int .i64 k∧xs.length≤k∧(xs.length= 0→a= 0∧iW c (l.take k)= false)∧(xs.length≠0→xs[0]? =some (bs (cR c l))∧iW c l= true)∧
   bd w.heap.size 9 1 sw wr v5 xs∧Below w.heap.size w wr) (fun _ _ lp _=>1048577 - (intOf lp).toNat)
 case atStart=>
  exact⟨[],0,0,Nat.zero_le _,Nat.le_refl _,rfl,rfl,Nat.le_refl _,fun _=>⟨rfl,by simp [iW]⟩,fun h=>absurd rfl h,eL.out,bT _ _⟩
 case round=>
  obtain⟨xs,a,k,aD,cS,rfl,rfl,pc,pb,Ew,bM,aF⟩:=hrel
  obtain⟨oc,c5,rfl,rb,_,_⟩:=bM.form BS
  have z0:=aF.size;have uG:=J bM.lt;have ua:=J pb;have H1:=J Ew;have dm:=J bM;clear pb Ew bM
  by_cases bu:k < (bs l).size
  ·have kt:(bs l)[k].toNat < 256:=(bs l)[k].toNat_lt
   by_cases aH:(bs l)[k]= c
   ·have jn:(((bs l)[k].toNat:Int) == (c.toNat:Int))= true:=by rw [aH];exact beq_iff_eq.2 rfl
    have hex:(bs l).extract a k= bs ((l.drop a).take (k - a)):=uj l a k
    have oy:(xs ++ [(bs l).extract a k])[0]? =some (bs (cR c l))∧iW c l= true:=by
     rcases Nat.eq_zero_or_pos xs.length with h | h
     ·obtain⟨rfl,h2⟩:=ua.out h
      obtain rfl:xs= []:=List.eq_nil_of_length_eq_zero h
      have aL:=adr h2 (by rw [← dU.out];exact bu) (by rw [← CX l k bu];exact aH)
      refine⟨?_,aL.2⟩
      rw [hex,aL.1];simp
     ·have:=H1.out (by omega)
      refine⟨?_,this.2⟩
      rw [List.getElem?_append_left h];exact this.1
    have eZ:=J oy;clear oy hex aH;have jR:aS 1 sw (wr.alloc (.cells #[.string ((bs l).extract a k)] 9)) (some ⟨wr.heap.size,0,none⟩) [(bs l).extract a k]:=aS.one (sz:=1) (f:=sw) _ _;have qN:=J jR;clear jR;have kG:=J (dm.out.alloc (.cells #[.string ((bs l).extract a k)] 9))
    go_wp2_with (at_builtin;refine kC rfl _ _ 57 rfl w.heap.size 9 i0 _ 1 16 Tryz.underlying57 hi dn dC dz rfl (by decide) sw BS Xx (.slice oc xs.length c5) xs rfl kG.out ⟨wr.heap.size,0,none⟩ 1 ((bs l).extract a k) rfl qN.out (by unfold maxLen;omega) (by omega) (by simp;omega) ?_;intro v4 bU fb gq ld)
    have z4:=gq.size;have gS:Below w.heap.size w bU:=(aF.alloc (by omega) _).grown gq (by simp;omega) (fun q bj=>(uG.out q bj).1)
    go_roundw
    case rel=>
     refine⟨xs ++ [(bs l).extract a k],k + 1,k + 1,by omega,Nat.le_refl _,by go_num,by go_num,by simp;omega,fun h=>?_,fun _=>eZ.out,fb,gS⟩
     simp at h
    case measure=>simp [intOf];omega
   ·have jn:(((bs l)[k].toNat:Int) == (c.toNat:Int))= false:=by
     rw [beq_eq_false_iff_ne]
     intro e
     exact aH (UInt8.toNat_inj.1 (by omega))
    have oy:xs.length= 0→a= 0∧iW c (l.take (k + 1))= false:=fun h=>
     ⟨(ua.out h).1,afz (by rw [← dU.out];exact bu) (ua.out h).2 (by rw [← CX l k bu];exact aH)⟩
    have eZ:=J oy;clear oy aH
    go_wp2
    go_roundw
    case rel=>exact⟨xs,a,k + 1,by omega,by omega,rfl,by go_num,by omega,eZ.out,H1.out,dm.out,aF⟩
    case measure=>simp [intOf];omega
  ·obtain rfl:k= (bs l).size:=by omega
   have hex:(bs l).extract a (bs l).size= bs (l.drop a):=by rw [uj,fB,List.take_of_length_le (by simp)]
   have ov:Splits c l (xs ++ [(bs l).extract a (bs l).size]):=by
    rw [hex]
    rcases Nat.eq_zero_or_pos xs.length with h | h
    ·obtain⟨rfl,h2⟩:=ua.out h
     obtain rfl:xs= []:=List.eq_nil_of_length_eq_zero h
     rw [dU.out,List.take_length] at h2
     refine⟨by simp,?_,by simp [h2],by simp⟩
     rw [Gr (DO.1 h2)];simp
    ·have:=H1.out (by omega)
     refine⟨by simp,?_,?_,?_⟩
     ·rw [List.getElem?_append_left h];exact this.1
     ·rw [this.2];simp;omega
     ·have:=dU.out;simp;omega
   have cC:=J ov;clear ov hex;have jR:aS 1 sw (wr.alloc (.cells #[.string ((bs l).extract a (bs l).size)] 9)) (some ⟨wr.heap.size,0,none⟩) [(bs l).extract a (bs l).size]:=aS.one (sz:=1) (f:=sw) _ _;have qN:=J jR;clear jR;have kG:=J (dm.out.alloc (.cells #[.string ((bs l).extract a (bs l).size)] 9))
   go_wp2_with (at_builtin;refine kC rfl _ _ 57 rfl w.heap.size 9 i0 _ 1 16 Tryz.underlying57 hi dn dC dz rfl (by decide) sw BS Xx (.slice oc xs.length c5) xs rfl kG.out ⟨wr.heap.size,0,none⟩ 1 ((bs l).extract a (bs l).size) rfl qN.out (by unfold maxLen;omega) (by omega) (by simp;omega) ?_;intro v4 bU fb gq ld)
   have z4:=gq.size;have gS:Below w.heap.size w bU:=(aF.alloc (by omega) _).grown gq (by simp;omega) (fun q bj=>(uG.out q bj).1)
   obtain⟨Je,sU,rfl,_,_,_⟩:=fb.form BS
   go_ret
   exact⟨Je,sU,xs ++ [(bs l).extract a (bs l).size],rfl,fb,cC.out,gS⟩
end Go.Proofs.YtlaaemmmbodaaaaGreatDoor
namespace Go.G9
open Go.RowKit
theorem aB.drew {w:World} {g:Nat} {t:TypeId} {cs:Array Value} (h:aB w g t cs):aB w.drew g t cs:=h
end Go.G9
namespace Go.Proofs.YtlaaemmmbodaaaaGreatDoor
open Go.RowKit Go.G9
theorem MU (l:ca) (c:UInt8) (aT:l.length≤1048576) (w:World):Calls Tryz.prog 67 #[.string (bs l),.int .u8 (c.toNat:Int)] w fun e ah=>∃g m n,e= .returned (.slice (some ⟨g,0,none⟩) m n)∧1≤m∧m≤l.length + 1∧((2≤m)↔iW c l= true)∧ah.cell? ⟨g,0,none⟩ =some (.string (bs (cR c l)))∧w.heap.size≤g∧g < ah.heap.size∧Below w.heap.size w ah:=by
 refine (aje l c aT w).mono ?_
 rintro e ah ⟨A,n,ys,rfl,bM,bH,aF⟩
 have aN:0 < ys.length:=by have:=bH.ne;omega
 obtain⟨g,cap,cur,ax,bG,fc,qo,mh,lA⟩:=bM.block aN
 injection ax with h1 h2 h3
 subst h1 h3
 obtain⟨b,off,aX,bu,aH⟩:=bM.hj (hf:=BS) aN
 injection aX with aX
 injection aX with hA1 hA2
 subst hA1 hA2
 refine⟨g,ys.length,n,rfl,by omega,bH.len,bH.two,?_,bG,bu,aF⟩
 exact aH 0 _ bH.first 0 _ rfl
theorem Xz {a b:ByteArray} (h:a≠b):(a.toList == b.toList)= false:=beq_eq_false_iff_ne.2 (by rw [ByteArray.toList_eq,ByteArray.toList_eq];exact fun e=>h (wY e))
theorem Xy {a b:ByteArray} (h:a= b):(a.toList == b.toList)= true:=beq_iff_eq.2 (by rw [h])
theorem ajh (l t rest ask rep:ca) (k:Nat) (aD:k < 100) (Sa:(eN (k:Int)).size≤10)
  (pw:Hid (∀W,Calls Tryz.prog 67 #[.string (bs l),.int .u8 35] W fun e ah=>∃g m n,e= .returned (.slice (some ⟨g,0,none⟩) m n)∧1≤m∧m≤l.length + 1∧((2≤m)↔iW 35 l= true)∧ah.cell? ⟨g,0,none⟩ =some (.string (bs t))∧W.heap.size≤g∧g < ah.heap.size∧Below W W ah)) (PS:Hid (∀W,Calls Tryz.prog 67 #[.string (bs rest),.int .u8 64] W fun e ah=>∃g m n,e= .returned (.slice (some ⟨g,0,none⟩) m n)∧1≤m∧m≤rest.length + 1∧((2≤m)↔iW 64 rest= true)∧ah.cell? ⟨g,0,none⟩ =some (.string (bs ask))∧W.heap.size≤g∧g < ah.heap.size∧Below W W ah))
  (heq:((((bs t).extract 0 ((eN (k:Int)).size + 1))).toList == (eN (k:Int) ++ (⟨#[32]⟩ :ByteArray)).toList)= true) (uA:(eN (k:Int)).size + 1≤(bs t).size) (Tx:(bs t).size≤1048576)
  (iQ:(bs t).extract ((eN (k:Int)).size + 1) (bs t).size= bs rest) (zc:(bs rest).extract ((bs ask).size + 1) (bs rest).size= bs rep)
  (aF:(((bs ask).size:Int) == ((bs rest).size:Int))= false) (uC:(bs ask).size + 1≤(bs rest).size) (Eh:(bs rest).size≤1048576) (yU:(bs rep).size≤1048576) (Ei:(bs l).size≤1048576)
  (v:Bool) (ax:(jV ask rep && decide (fj k ask rep= l))= v) (w:World):
  Calls Tryz.prog 153 #[.string (bs l),k] w fun e ah=>e= .returned (.tuple #[.agg #[.string (bs ask),.string (bs rep)],v])∧Below w w ah:=by
 have SP:∀W,Calls Tryz.prog 60 #[.agg #[.string (bs ask),.string (bs rep)]] W fun e ah=>e= .returned (.bool (jV ask rep))∧Below W W ah:=fun W=>zt (bs ask) (bs rep) (by omega) (by omega) _ rfl W
 have kF:=J SP;clear SP
 cases ga:jV ask rep
 ·have oB:v= false:=by rw [← ax,ga];rfl
  subst oB
  rw [ga] at kF
  clear ga ax
  go_in
  go_wp2_with fail
  refine (pT k (by omega) (by omega) _).mono ?_
  rintro e bh ⟨rfl,br⟩
  have au:=be w br;have I:Below w w bh:=au;have U:aB bh (w.heap.size) 56 #[.string ⟨#[]⟩,.string ⟨#[]⟩]:=aB.dY br;have z0:=(U.cell 0).trans (show _= some (.string ⟨#[]⟩) from rfl);have bW:=(U.cell 1).trans (show _= some (.string ⟨#[]⟩) from rfl)
  go_wp2_with fail
  refine (pw.out _).mono ?_
  rintro e aJ ⟨g,m2,n,rfl,yW,Bk,sc,aH,cT,hN,aL⟩
  have al:=be bh aL;replace I:=aj I al;replace U:=U.to al;replace z0:=(U.cell 0).trans (show _= some (.string ⟨#[]⟩) from rfl);replace bW:=(U.cell 1).trans (show _= some (.string ⟨#[]⟩) from rfl)
  go_wp2_with fail
  refine (PS.out _).mono ?_
  rintro e bB ⟨bA,m3,nB,rfl,Td,Te,Tf,ql,Ed,SM,bx⟩
  have aP:=be aJ bx;replace I:=aj I aP;replace U:=U.to aP;replace z0:=(U.cell 0).trans (show _= some (.string ⟨#[]⟩) from rfl);replace bW:=(U.cell 1).trans (show _= some (.string ⟨#[]⟩) from rfl)
  go_wp2
  have eG:aB (bB.alloc (.cells #[.string (bs ask),.string (bs rep)] 56)) bB.heap.size 56 #[.string (bs ask),.string (bs rep)]:=aB.new _ _ _;have DJ:=U.alloc (.cells #[.string (bs ask),.string (bs rep)] 56)
  haveI:Nonempty (cH fun V=>aB V bB.heap.size 56 #[.string (bs ask),.string (bs rep)]):=⟨⟨_,eG⟩⟩
  have gz:=aB.Gz (fun K:cH (fun V=>aB V bB.heap.size 56 #[.string (bs ask),.string (bs rep)])=>K.holds)
  refine nh (fun V=>aB V bB.heap.size 56 #[.string (bs ask),.string (bs rep)]) [([0,1],2),([3,4,5,7,8],6),([9,10],11)] [12] (by kernel_rfl) (by kernel_rfl) eG.drew ?_
  refine gr fun K gf=>?_
  change wpQuiet _ _ _ _ (_ ::_ ::[]) _
  repeat (go_big_quiet_step (fail))
  refine wpQuiet_nil ?_
  change wpList _ _ _ (_ ::[]) _ _
  go_wp2_with fail
  refine (kF.out _).mono ?_
  rintro e bU ⟨rfl,cY⟩
  have vG:=eG.drew.ae cY eG.lt;have DK:=DJ.drew.ae cY DJ.lt
  go_wp2
  refine gw vG (gf _ _ ?_)
  refine gr fun fT dv=>?_
  change wpQuiet _ _ _ _ (_ ::_ ::_ ::_ ::_ ::[]) _
  repeat (go_big_quiet_step (fail))
  refine wpQuiet_nil ?_
  change wpList _ _ _ (_ ::[]) _ _
  go_wp2
  refine gw vG (dv _ _ ?_)
  refine gr fun CF tb=>?_
  change wpQuiet _ _ _ _ (_ ::_ ::[]) _
  repeat (go_big_quiet_step (fail))
  refine wpQuiet_nil ?_
  change wpList _ _ _ (_ ::[]) _ _
  clear z0 bW
  obtain⟨z0,bW⟩:=DK.kY
  obtain⟨kE,zZ⟩:=DK.vD
  go_wp2
  refine gw ((vG.ur (by have:=bx.size;have:=U.lt;simp;omega) _).ur (by have:=bx.size;have:=U.lt;simp;omega) _) (tb _ _ ?_)
  refine kD ?_
  change wpQuiet _ _ _ _ (_ ::[]) _
  repeat (go_big_quiet_step (fail))
  refine wpQuiet_nil ?_
  have ai:=((DK.gE 0 (.string (bs ask))).gE 1 (.string (bs rep)));have fX:=ai.kY
  go_wp2
  have gS:Below w w bU:=aj (aj I (bT _ _)).drew cY
  refine bodyPost_ret (v:= .tuple #[.agg #[.string (bs ask),.string (bs rep)],false]) (by simp [results,Tryz.results153,go_sem,fX]) rfl ?_
  exact⟨rfl,(gS.setCell (Nat.le_refl _) _).setCell (Nat.le_refl _) _⟩
 ·have gK:∀W,Calls Tryz.prog 91 #[k,.agg #[.string (bs ask),.string (bs rep)]] W fun e ah=>e= .returned (.string (bs (fj k ask rep ++ [10])))∧Below W W ah:=fun W=>Ut k (by omega) (by omega) ask rep ga W
  have Bb:((bs (fj k ask rep ++ [10])).toList == (bs l ++ (⟨#[10]⟩ :ByteArray)).toList)= v:=by
   rw [← ax,ga,Bool.true_and]
   by_cases he:fj k ask rep= l
   ·rw [decide_eq_true he,he];exact Xy (mP l [10]).symm
   ·rw [decide_eq_false he]
    refine Xz fun h=>he ?_
    rw [show (⟨#[10]⟩ :ByteArray)= bs [10] from rfl,mP] at h
    exact List.append_cancel_right (QE h)
  rw [ga] at kF
  have cB:=J gK;clear gK ga ax
  go_in
  go_wp2_with fail
  refine (pT k (by omega) (by omega) _).mono ?_
  rintro e bh ⟨rfl,br⟩
  have au:=be w br;have I:Below w w bh:=au;have U:aB bh (w.heap.size) 56 #[.string ⟨#[]⟩,.string ⟨#[]⟩]:=aB.dY br;have z0:=(U.cell 0).trans (show _= some (.string ⟨#[]⟩) from rfl);have bW:=(U.cell 1).trans (show _= some (.string ⟨#[]⟩) from rfl)
  go_wp2_with fail
  refine (pw.out _).mono ?_
  rintro e aJ ⟨g,m2,n,rfl,yW,Bk,sc,aH,cT,hN,aL⟩
  have al:=be bh aL;replace I:=aj I al;replace U:=U.to al;replace z0:=(U.cell 0).trans (show _= some (.string ⟨#[]⟩) from rfl);replace bW:=(U.cell 1).trans (show _= some (.string ⟨#[]⟩) from rfl)
  go_wp2_with fail
  refine (PS.out _).mono ?_
  rintro e bB ⟨bA,m3,nB,rfl,Td,Te,Tf,ql,Ed,SM,bx⟩
  have aP:=be aJ bx;replace I:=aj I aP;replace U:=U.to aP;replace z0:=(U.cell 0).trans (show _= some (.string ⟨#[]⟩) from rfl);replace bW:=(U.cell 1).trans (show _= some (.string ⟨#[]⟩) from rfl)
  go_wp2
  have eG:aB (bB.alloc (.cells #[.string (bs ask),.string (bs rep)] 56)) bB.heap.size 56 #[.string (bs ask),.string (bs rep)]:=aB.new _ _ _;have DJ:=U.alloc (.cells #[.string (bs ask),.string (bs rep)] 56)
  haveI:Nonempty (cH fun V=>aB V bB.heap.size 56 #[.string (bs ask),.string (bs rep)]):=⟨⟨_,eG⟩⟩
  have gz:=aB.Gz (fun K:cH (fun V=>aB V bB.heap.size 56 #[.string (bs ask),.string (bs rep)])=>K.holds)
  refine nh (fun V=>aB V bB.heap.size 56 #[.string (bs ask),.string (bs rep)]) [([0,1],2),([3,4,5,7,8],6),([9,10],11)] [12] (by kernel_rfl) (by kernel_rfl) eG.drew ?_
  refine gr fun K gf=>?_
  change wpQuiet _ _ _ _ (_ ::_ ::[]) _
  repeat (go_big_quiet_step (fail))
  refine wpQuiet_nil ?_
  change wpList _ _ _ (_ ::[]) _ _
  go_wp2_with fail
  refine (kF.out _).mono ?_
  rintro e bU ⟨rfl,cY⟩
  have vG:=eG.drew.ae cY eG.lt;have DK:=DJ.drew.ae cY DJ.lt
  go_wp2
  refine gw vG (gf _ _ ?_)
  refine gr fun fT dv=>?_
  change wpQuiet _ _ _ _ (_ ::_ ::_ ::_ ::_ ::[]) _
  repeat (go_big_quiet_step (fail))
  refine wpQuiet_nil ?_
  change wpList _ _ _ (_ ::[]) _ _
  go_wp2_with fail
  refine (cB.out _).mono ?_
  rintro e dB ⟨rfl,eD⟩
  have RQ:=vG.to eD;have cE:=DK.to eD
  go_wp2
  refine gw RQ (dv _ _ ?_)
  refine gr fun CF tb=>?_
  change wpQuiet _ _ _ _ (_ ::_ ::[]) _
  repeat (go_big_quiet_step (fail))
  refine wpQuiet_nil ?_
  change wpList _ _ _ (_ ::[]) _ _
  clear z0 bW
  obtain⟨z0,bW⟩:=cE.kY
  obtain⟨kE,zZ⟩:=cE.vD
  go_wp2
  refine gw ((RQ.ur (by have:=bx.size;have:=U.lt;simp;omega) _).ur (by have:=bx.size;have:=U.lt;simp;omega) _) (tb _ _ ?_)
  refine kD ?_
  change wpQuiet _ _ _ _ (_ ::[]) _
  repeat (go_big_quiet_step (fail))
  refine wpQuiet_nil ?_
  have ai:=((cE.gE 0 (.string (bs ask))).gE 1 (.string (bs rep)));have fX:=ai.kY
  go_wp2
  have la:Below w w dB:=aj (aj (aj I (bT _ _)).drew cY) eD
  exact hD ⟨rfl,(la.setCell (Nat.le_refl _) _).setCell (Nat.le_refl _) _⟩ (by simp [results,Tryz.results153,go_sem,fX])
end Go.Proofs.YtlaaemmmbodaaaaGreatDoor
