/- Parts. -/
import Derived.Test.YtlaaemmmbodaaaaGreatDoorRs7
import Derived.Carry
import Derived.Deep.Slices
import Derived.ProofKit
import Derived.Lib.Bytealg
import Derived.IntWalk
set_option maxHeartbeats 16000000
set_option maxRecDepth 100000
set_option linter.unnecessarySimpa false
set_option linter.unusedSimpArgs false
set_option linter.unusedVariables false
namespace Go.Proofs.YtlaaemmmbodaaaaGreatDoor
open Go.RowKit Go.G9
theorem Re {p:Prop} (h:p:=by
 rintro e bA ⟨oU,pg,rfl,fB,bC⟩
 have aL:=be kr bC;replace I:=ai I aL;replace aj:=aj.to aL;clear aF;have aF:=aj.aI;clear a';replace ae:=ae.to aL;clear aq;have aq:=ae.aI;have vp:=I.size
 go_wp2_with fail
 refine (Xn an ar ak al aA c0 au c2 c3 c4 rs qs ag af sp ws ad os bj.out oU ps.length pg _ (bL.out.U (ai I aw))).mono ?_
 rintro e cf ⟨cl,d0,cn,d4,rfl,cq,cz,cZ⟩
 have bV:=be bA cZ;replace I:=ai I bV;replace fB:=fB.bh bV;clear aF;replace ae:=ae.to bV;clear aq;have aq:=ae.aI;have fC:=cq.cH ae;have sG:=fB.cH ae;have fH:=cz.cH ae;have ez:=ae.jb
 go_wp2
 clear aq
 refine iE 0 fun cQ aD=>?_
 replace I:=aD.aG I;replace ae:=aD.ja ae;replace fB:=fB.bY aD sG;replace cq:=cq.bY aD fC;replace cz:=cz.bY aD fH;have aq:=ae.aI
 refine bodyPost_ret (v:= .tuple #[.agg #[.slice cl rs d0,.slice oU ps pg,ag,af,(0:Int),.slice none 0 0,.slice none 0 0,.slice cn os d4],true]) (by simp [results,Tryz.results154,go_sem,aq]) rfl ?_
 exact⟨cl,d0,oU,pg,none,0,none,0,cn,d4,rfl,⟨cq.base (by omega),fB.base (by omega),aX.nil,aX.nil,cz.base (by omega)⟩,I⟩):p:=h
theorem apW (an ar ak al aA:Option Addr) (c0 au c2 c3 c4:Nat) (rs:List aM) (qs:List aN) (ag af sp:Int) (ws:List Int) (ad:List aK) (os:List Out) (Z:ed an ar ak al aA c0 au c2 c3 c4 rs qs ws ad os) (mem val yes no bB:Int) (ps:List aN) (az:jD rs qs val mem= some ps) (aZ:(sp == 0)= true) (w:World) (R:dL w an ar ak al aA rs qs ws ad os):
 Calls Tryz.prog 154 #[.agg #[.slice an rs c0,.slice ar qs au,ag,af,sp,.slice ak ws c2,.slice al ad c3,.slice aA os c4],.agg #[(1:Int),mem,val,yes,no,bB]] w (hq (some ⟨rs,ps,ag,af,0,[],[],os⟩) w):=by
 have bL:=J R;have bj:=J Z;clear R Z;have bD:=J az;clear az
 go_in
 go_upto_region 1 with fail
 refine fv fun aH av aj aU ae=>?_
 have I:=av;have aF:=aj.aI;have a':=aU.df;have aq:=ae.aI;have gv:=ae.lt
 go_upto_region 2 with fail
 refine cR fun kr ao eJ=>?_
 replace I:=ai I ao;clear aF;replace aj:=aj.to ao;have aF:=aj.aI;clear a';replace aU:=aU.to ao;have a':=aU.df;clear aq;replace ae:=ae.to ao;have aq:=ae.aI;have Gl:=eJ.lt
 go_wp2_with fail
 refine (Zo an c0 rs bj.out.h0 ar au qs bj.out.h1 bj.out.n1 val mem ps bD.out _ (bL.out.ft.U (ai I aw)) (bL.out.dz.U (ai I aw))).mono ?_
 exact Re
theorem Rr {p:Prop} (h:p:=by
 rintro e bA ⟨oU,pg,rfl,bC⟩
 have aL:=be kr bC;replace I:=ai I aL;clear aF;clear a';replace ae:=ae.to aL;clear aq;have aq:=ae.aI;have ez:=ae.jb
 go_wp2
 clear aq
 refine iE 0 fun cQ aD=>?_
 replace I:=aD.aG I;replace ae:=aD.ja ae;have aq:=ae.aI
 refine bodyPost_ret (v:= .tuple #[.agg #[.slice none 0 0,.slice none 0 0,(0:Int),(0:Int),(0:Int),.slice none 0 0,.slice none 0 0,.slice none 0 0],false]) (by simp [results,Tryz.results154,go_sem,aq]) rfl ?_
 exact⟨rfl,I⟩):p:=h
theorem Zl (an ar ak al aA:Option Addr) (c0 au c2 c3 c4:Nat) (rs:List aM) (qs:List aN) (ag af sp:Int) (ws:List Int) (ad:List aK) (os:List Out) (Z:ed an ar ak al aA c0 au c2 c3 c4 rs qs ws ad os) (mem val yes no bB:Int) (az:jD rs qs val mem= none) (w:World) (R:dL w an ar ak al aA rs qs ws ad os):
 Calls Tryz.prog 154 #[.agg #[.slice an rs c0,.slice ar qs au,ag,af,sp,.slice ak ws c2,.slice al ad c3,.slice aA os c4],.agg #[(1:Int),mem,val,yes,no,bB]] w (hq none w):=by
 have bL:=J R;have bj:=J Z;clear R Z;have bD:=J az;clear az
 go_in
 go_upto_region 1 with fail
 refine fv fun aH av aj aU ae=>?_
 have I:=av;have aF:=aj.aI;have a':=aU.df;have aq:=ae.aI
 go_upto_region 2 with fail
 refine cR fun kr ao eJ=>?_
 replace I:=ai I ao;clear aF;replace aj:=aj.to ao;have aF:=aj.aI;clear a';replace aU:=aU.to ao;have a':=aU.df;clear aq;replace ae:=ae.to ao;have aq:=ae.aI
 go_wp2_with fail
 refine (aqf an c0 rs bj.out.h0 ar au qs bj.out.h1 bj.out.n1 val mem bD.out _ (bL.out.ft.U (ai I aw)) (bL.out.dz.U (ai I aw))).mono ?_
 exact Rr
theorem acY {p:Prop} (h:p:=by
 rintro e bA ⟨oU,pg,rfl,fB,bC⟩
 have aL:=be kr bC;replace I:=ai I aL;clear aF;clear a';replace ae:=ae.to aL;clear aq;have aq:=ae.aI;clear fB;have ez:=ae.jb
 go_wp2
 clear aq
 refine iE 0 fun cQ aD=>?_
 replace I:=aD.aG I;replace ae:=aD.ja ae;have aq:=ae.aI
 refine bodyPost_ret (v:= .tuple #[.agg #[.slice none 0 0,.slice none 0 0,(0:Int),(0:Int),(0:Int),.slice none 0 0,.slice none 0 0,.slice none 0 0],false]) (by simp [results,Tryz.results154,go_sem,aq]) rfl ?_
 exact⟨rfl,I⟩):p:=h
theorem apV (an ar ak al aA:Option Addr) (c0 au c2 c3 c4:Nat) (rs:List aM) (qs:List aN) (ag af sp:Int) (ws:List Int) (ad:List aK) (os:List Out) (Z:ed an ar ak al aA c0 au c2 c3 c4 rs qs ws ad os) (mem val yes no bB:Int) (ps:List aN) (az:jD rs qs val mem= some ps) (aZ:(sp == 0)= false) (w:World) (R:dL w an ar ak al aA rs qs ws ad os):
 Calls Tryz.prog 154 #[.agg #[.slice an rs c0,.slice ar qs au,ag,af,sp,.slice ak ws c2,.slice al ad c3,.slice aA os c4],.agg #[(1:Int),mem,val,yes,no,bB]] w (hq none w):=by
 have bL:=J R;have bj:=J Z;clear R Z;have bD:=J az;clear az
 go_in
 go_upto_region 1 with fail
 refine fv fun aH av aj aU ae=>?_
 have I:=av;have aF:=aj.aI;have a':=aU.df;have aq:=ae.aI
 go_upto_region 2 with fail
 refine cR fun kr ao eJ=>?_
 replace I:=ai I ao;clear aF;replace aj:=aj.to ao;have aF:=aj.aI;clear a';replace aU:=aU.to ao;have a':=aU.df;clear aq;replace ae:=ae.to ao;have aq:=ae.aI
 go_wp2_with fail
 refine (Zo an c0 rs bj.out.h0 ar au qs bj.out.h1 bj.out.n1 val mem ps bD.out _ (bL.out.ft.U (ai I aw)) (bL.out.dz.U (ai I aw))).mono ?_
 exact acY
theorem aqb (an ar ak al aA:Option Addr) (c0 au c2 c3 c4:Nat) (rs:List aM) (qs:List aN) (ag af sp:Int) (ws:List Int) (ad:List aK) (os:List Out) (Z:ed an ar ak al aA c0 au c2 c3 c4 rs qs ws ad os) (mem val yes no bB:Int) (ps:List aN) (az:ks rs qs mem= some ps) (aZ:(sp == 0)= true) (w:World) (R:dL w an ar ak al aA rs qs ws ad os):
 Calls Tryz.prog 154 #[.agg #[.slice an rs c0,.slice ar qs au,ag,af,sp,.slice ak ws c2,.slice al ad c3,.slice aA os c4],.agg #[(8:Int),mem,val,yes,no,bB]] w (hq (some ⟨rs,ps,ag,af,0,[],[],os⟩) w):=by
 have bL:=J R;have bj:=J Z;clear R Z;have bD:=J az;clear az
 go_in
 go_upto_region 1 with fail
 refine fv fun aH av aj aU ae=>?_
 have I:=av;have aF:=aj.aI;have a':=aU.df;have aq:=ae.aI;have gv:=ae.lt
 go_upto_region 2 with fail
 refine cR fun kr ao eJ=>?_
 replace I:=ai I ao;clear aF;replace aj:=aj.to ao;have aF:=aj.aI;clear a';replace aU:=aU.to ao;have a':=aU.df;clear aq;replace ae:=ae.to ao;have aq:=ae.aI;have Gl:=eJ.lt
 go_wp2_with fail
 refine (Zr an c0 rs bj.out.h0 ar au qs bj.out.h1 bj.out.eh mem ps bD.out _ (bL.out.ft.U (ai I aw)) (bL.out.dz.U (ai I aw))).mono ?_
 exact Re
theorem Zn (an ar ak al aA:Option Addr) (c0 au c2 c3 c4:Nat) (rs:List aM) (qs:List aN) (ag af sp:Int) (ws:List Int) (ad:List aK) (os:List Out) (Z:ed an ar ak al aA c0 au c2 c3 c4 rs qs ws ad os) (mem val yes no bB:Int) (az:ks rs qs mem= none) (w:World) (R:dL w an ar ak al aA rs qs ws ad os):
 Calls Tryz.prog 154 #[.agg #[.slice an rs c0,.slice ar qs au,ag,af,sp,.slice ak ws c2,.slice al ad c3,.slice aA os c4],.agg #[(8:Int),mem,val,yes,no,bB]] w (hq none w):=by
 have bL:=J R;have bj:=J Z;clear R Z;have bD:=J az;clear az
 go_in
 go_upto_region 1 with fail
 refine fv fun aH av aj aU ae=>?_
 have I:=av;have aF:=aj.aI;have a':=aU.df;have aq:=ae.aI
 go_upto_region 2 with fail
 refine cR fun kr ao eJ=>?_
 replace I:=ai I ao;clear aF;replace aj:=aj.to ao;have aF:=aj.aI;clear a';replace aU:=aU.to ao;have a':=aU.df;clear aq;replace ae:=ae.to ao;have aq:=ae.aI
 go_wp2_with fail
 refine (aqv an c0 rs bj.out.h0 ar au qs bj.out.h1 bj.out.eh mem bD.out _ (bL.out.ft.U (ai I aw)) (bL.out.dz.U (ai I aw))).mono ?_
 exact Rr
theorem aqa (an ar ak al aA:Option Addr) (c0 au c2 c3 c4:Nat) (rs:List aM) (qs:List aN) (ag af sp:Int) (ws:List Int) (ad:List aK) (os:List Out) (Z:ed an ar ak al aA c0 au c2 c3 c4 rs qs ws ad os) (mem val yes no bB:Int) (ps:List aN) (az:ks rs qs mem= some ps) (aZ:(sp == 0)= false) (w:World) (R:dL w an ar ak al aA rs qs ws ad os):
 Calls Tryz.prog 154 #[.agg #[.slice an rs c0,.slice ar qs au,ag,af,sp,.slice ak ws c2,.slice al ad c3,.slice aA os c4],.agg #[(8:Int),mem,val,yes,no,bB]] w (hq none w):=by
 have bL:=J R;have bj:=J Z;clear R Z;have bD:=J az;clear az
 go_in
 go_upto_region 1 with fail
 refine fv fun aH av aj aU ae=>?_
 have I:=av;have aF:=aj.aI;have a':=aU.df;have aq:=ae.aI
 go_upto_region 2 with fail
 refine cR fun kr ao eJ=>?_
 replace I:=ai I ao;clear aF;replace aj:=aj.to ao;have aF:=aj.aI;clear a';replace aU:=aU.to ao;have a':=aU.df;clear aq;replace ae:=ae.to ao;have aq:=ae.aI
 go_wp2_with fail
 refine (Zr an c0 rs bj.out.h0 ar au qs bj.out.h1 bj.out.eh mem ps bD.out _ (bL.out.ft.U (ai I aw)) (bL.out.dz.U (ai I aw))).mono ?_
 exact acY
theorem aqd (an ar ak al aA:Option Addr) (c0 au c2 c3 c4:Nat) (rs:List aM) (qs:List aN) (ag af sp:Int) (ws:List Int) (ad:List aK) (os:List Out) (Z:ed an ar ak al aA c0 au c2 c3 c4 rs qs ws ad os) (mem val yes no bB:Int) (ps:List aN) (az:lB rs qs= some ps) (aT:ps.length < qs.length) (w:World) (R:dL w an ar ak al aA rs qs ws ad os):
 Calls Tryz.prog 154 #[.agg #[.slice an rs c0,.slice ar qs au,ag,af,sp,.slice ak ws c2,.slice al ad c3,.slice aA os c4],.agg #[(9:Int),mem,val,yes,no,bB]] w (hq (some ⟨rs,ps,ag,af,0,[],[],os⟩) w):=by
 have bL:=J R;have bj:=J Z;clear R Z;have bD:=J az;clear az
 go_in
 go_upto_region 1 with fail
 refine fv fun aH av aj aU ae=>?_
 have I:=av;have aF:=aj.aI;have a':=aU.df;have aq:=ae.aI;have gv:=ae.lt
 go_upto_region 2 with fail
 refine cR fun kr ao eJ=>?_
 replace I:=ai I ao;clear aF;replace aj:=aj.to ao;have aF:=aj.aI;clear a';replace aU:=aU.to ao;have a':=aU.df;clear aq;replace ae:=ae.to ao;have aq:=ae.aI;have Gl:=eJ.lt
 go_wp2_with fail
 refine (Zh an c0 rs bj.out.h0 ar au qs bj.out.h1 bj.out.n1 bj.out.eh ps bD.out _ (bL.out.ft.U (ai I aw)) (bL.out.dz.U (ai I aw))).mono ?_
 exact Re
theorem aqc (an ar ak al aA:Option Addr) (c0 au c2 c3 c4:Nat) (rs:List aM) (qs:List aN) (ag af sp:Int) (ws:List Int) (ad:List aK) (os:List Out) (Z:ed an ar ak al aA c0 au c2 c3 c4 rs qs ws ad os) (mem val yes no bB:Int) (ps:List aN) (az:lB rs qs= some ps) (aT:¬ps.length < qs.length) (w:World) (R:dL w an ar ak al aA rs qs ws ad os):
 Calls Tryz.prog 154 #[.agg #[.slice an rs c0,.slice ar qs au,ag,af,sp,.slice ak ws c2,.slice al ad c3,.slice aA os c4],.agg #[(9:Int),mem,val,yes,no,bB]] w (hq none w):=by
 have bL:=J R;have bj:=J Z;clear R Z;have bD:=J az;clear az
 go_in
 go_upto_region 1 with fail
 refine fv fun aH av aj aU ae=>?_
 have I:=av;have aF:=aj.aI;have a':=aU.df;have aq:=ae.aI
 go_upto_region 2 with fail
 refine cR fun kr ao eJ=>?_
 replace I:=ai I ao;clear aF;replace aj:=aj.to ao;have aF:=aj.aI;clear a';replace aU:=aU.to ao;have a':=aU.df;clear aq;replace ae:=ae.to ao;have aq:=ae.aI
 go_wp2_with fail
 refine (Zh an c0 rs bj.out.h0 ar au qs bj.out.h1 bj.out.n1 bj.out.eh ps bD.out _ (bL.out.ft.U (ai I aw)) (bL.out.dz.U (ai I aw))).mono ?_
 rintro e bA ⟨oU,pg,rfl,fB,bC⟩
 have aL:=be kr bC;replace I:=ai I aL;replace aj:=aj.to aL;clear aF;have aF:=aj.aI;clear a';replace ae:=ae.to aL;clear aq;have aq:=ae.aI;clear fB;have ez:=ae.jb
 go_wp2
 clear aF aq
 refine iE 0 fun cQ aD=>?_
 replace I:=aD.aG I;replace ae:=aD.ja ae;have aq:=ae.aI
 refine bodyPost_ret (v:= .tuple #[.agg #[.slice none 0 0,.slice none 0 0,(0:Int),(0:Int),(0:Int),.slice none 0 0,.slice none 0 0,.slice none 0 0],false]) (by simp [results,Tryz.results154,go_sem,aq]) rfl ?_
 exact⟨rfl,I⟩
theorem acg {p:Prop} (h:p:=by
 rintro e bA ⟨cl,d0,cN,d1,bk,d2,bo,d3,cn,d4,rfl,dr,bC⟩
 have aL:=be kr bC;replace I:=ai I aL;clear aF;clear a';replace ae:=ae.to aL;clear aq;have aq:=ae.aI;have cq:=dr.kp;have cv:=dr.hO;have bF:=dr.fg;have bw:=dr.fF;have cz:=dr.lE;clear dr;have fC:=cq.cH ae;have ih:=cv.cH ae;have en:=bF.cH ae;have dI:=bw.cH ae;have fH:=cz.cH ae;have ez:=ae.jb
 go_wp2
 clear aq
 refine iE 0 fun cQ aD=>?_
 replace I:=aD.aG I;replace ae:=aD.ja ae;replace cq:=cq.bY aD fC;replace cv:=cv.bY aD ih;replace bF:=bF.bY aD en;replace bw:=bw.bY aD dI;replace cz:=cz.bY aD fH;have aq:=ae.aI
 refine bodyPost_ret (v:= .tuple #[.agg #[.slice cl n.bx d0,.slice cN n.bH d1,n.de,n.cU,n.dH,.slice bk n.bJ d2,.slice bo n.bM d3,.slice cn n.bt d4],true]) (by simp [results,Tryz.results154,go_sem,aq]) rfl ?_
 exact⟨cl,d0,cN,d1,bk,d2,bo,d3,cn,d4,rfl,⟨cq.base (by omega),cv.base (by omega),bF.base (by omega),bw.base (by omega),cz.base (by omega)⟩,I⟩):p:=h
theorem apZ (an ar ak al aA:Option Addr) (c0 au c2 c3 c4:Nat) (rs:List aM) (qs:List aN) (ag af sp:Int) (ws:List Int) (ad:List aK) (os:List Out) (Z:ed an ar ak al aA c0 au c2 c3 c4 rs qs ws ad os) (mem val yes no bB:Int) (aZ:(sp != 0)= false) (n:cF) (az:pk ⟨rs,qs,ag,af,sp,ws,ad,os⟩ ⟨7,mem,val,yes,no,bB⟩ =some n) (aR:dF rs qs= true) (dd:os.length≤12) (w:World) (R:dL w an ar ak al aA rs qs ws ad os):
 Calls Tryz.prog 154 #[.agg #[.slice an rs c0,.slice ar qs au,ag,af,sp,.slice ak ws c2,.slice al ad c3,.slice aA os c4],.agg #[(7:Int),mem,val,yes,no,bB]] w (hq (some n) w):=by
 have bL:=J R;have bj:=J Z;clear R Z;have bD:=J az;clear az
 go_in
 go_upto_region 1 with fail
 refine fv fun aH av aj aU ae=>?_
 have I:=av;have aF:=aj.aI;have a':=aU.df;have aq:=ae.aI;have gv:=ae.lt
 go_upto_region 2 with fail
 refine cR fun kr ao eJ=>?_
 replace I:=ai I ao;clear aF;replace aj:=aj.to ao;have aF:=aj.aI;clear a';replace aU:=aU.to ao;have a':=aU.df;clear aq;replace ae:=ae.to ao;have aq:=ae.aI;have Gl:=eJ.lt
 go_wp2_with fail
 refine (aqu an ar ak al aA c0 au c2 c3 c4 rs qs ag af sp ws ad os bj.out mem val yes no bB aZ n bD.out aR dd _ (bL.out.U (ai I aw))).mono ?_
 exact acg
theorem ade {p:Prop} (h:p:=by
 rintro e bA ⟨rfl,bC⟩
 have aL:=be kr bC;replace I:=ai I aL;clear aF;clear a';replace ae:=ae.to aL;clear aq;have aq:=ae.aI;have ez:=ae.jb
 go_wp2
 clear aq
 refine iE 0 fun cQ aD=>?_
 replace I:=aD.aG I;replace ae:=aD.ja ae;have aq:=ae.aI
 refine bodyPost_ret (v:= .tuple #[.agg #[.slice none 0 0,.slice none 0 0,(0:Int),(0:Int),(0:Int),.slice none 0 0,.slice none 0 0,.slice none 0 0],false]) (by simp [results,Tryz.results154,go_sem,aq]) rfl ?_
 exact⟨rfl,I⟩):p:=h
theorem Zm (an ar ak al aA:Option Addr) (c0 au c2 c3 c4:Nat) (rs:List aM) (qs:List aN) (ag af sp:Int) (ws:List Int) (ad:List aK) (os:List Out) (Z:ed an ar ak al aA c0 au c2 c3 c4 rs qs ws ad os) (mem val yes no bB:Int) (az:sp≠0∨pk ⟨rs,qs,ag,af,sp,ws,ad,os⟩ ⟨7,mem,val,yes,no,bB⟩ =none) (w:World) (R:dL w an ar ak al aA rs qs ws ad os):
 Calls Tryz.prog 154 #[.agg #[.slice an rs c0,.slice ar qs au,ag,af,sp,.slice ak ws c2,.slice al ad c3,.slice aA os c4],.agg #[(7:Int),mem,val,yes,no,bB]] w (hq none w):=by
 have bL:=J R;have bj:=J Z;clear R Z;have bD:=J az;clear az
 go_in
 go_upto_region 1 with fail
 refine fv fun aH av aj aU ae=>?_
 have I:=av;have aF:=aj.aI;have a':=aU.df;have aq:=ae.aI
 go_upto_region 2 with fail
 refine cR fun kr ao eJ=>?_
 replace I:=ai I ao;clear aF;replace aj:=aj.to ao;have aF:=aj.aI;clear a';replace aU:=aU.to ao;have a':=aU.df;clear aq;replace ae:=ae.to ao;have aq:=ae.aI
 go_wp2_with fail
 refine (aqs an ar ak al aA c0 au c2 c3 c4 rs qs ag af sp ws ad os bj.out mem val yes no bB bD.out _ (bL.out.U (ai I aw))).mono ?_
 exact ade
theorem HF (an ar ak al aA:Option Addr) (c0 au c2 c3 c4:Nat) (rs:List aM) (qs:List aN) (ag af sp:Int) (ws:List Int) (ad:List aK) (os:List Out) (Z:ed an ar ak al aA c0 au c2 c3 c4 rs qs ws ad os) (kind mem val yes no bB:Int) (g1:(kind == 1)= false) (g2:(kind == 2)= false) (g7:(kind == 7)= false) (g8:(kind == 8)= false) (g9:(kind == 9)= false) (o:Option cF) (w:World) (R:dL w an ar ak al aA rs qs ws ad os) (H:∀W,Below w w W→Calls Tryz.prog 235 #[.agg #[.slice an rs c0,.slice ar qs au,ag,af,sp,.slice ak ws c2,.slice al ad c3,.slice aA os c4],.agg #[kind,mem,val,yes,no,bB]] W (hq o W)):
 Calls Tryz.prog 154 #[.agg #[.slice an rs c0,.slice ar qs au,ag,af,sp,.slice ak ws c2,.slice al ad c3,.slice aA os c4],.agg #[kind,mem,val,yes,no,bB]] w (hq o w):=by
 have mo:=J H;clear H R Z
 cases o with
 | none=>
  go_in
  go_upto_region 1 with fail
  refine fv fun aH av aj aU ae=>?_
  have I:=av;have aF:=aj.aI;have a':=aU.df;have aq:=ae.aI
  go_upto_region 2 with fail
  refine cR fun kr ao eJ=>?_
  replace I:=ai I ao;clear aF;replace aj:=aj.to ao;have aF:=aj.aI;clear a';replace aU:=aU.to ao;have a':=aU.df;clear aq;replace ae:=ae.to ao;have aq:=ae.aI
  go_wp2_with fail
  refine (mo.out _ (ai I aw)).mono ?_
  exact ade
 | some n=>
  go_in
  go_upto_region 1 with fail
  refine fv fun aH av aj aU ae=>?_
  have I:=av;have aF:=aj.aI;have a':=aU.df;have aq:=ae.aI;have gv:=ae.lt
  go_upto_region 2 with fail
  refine cR fun kr ao eJ=>?_
  replace I:=ai I ao;clear aF;replace aj:=aj.to ao;have aF:=aj.aI;clear a';replace aU:=aU.to ao;have a':=aU.df;clear aq;replace ae:=ae.to ao;have aq:=ae.aI;have Gl:=eJ.lt
  go_wp2_with fail
  refine (mo.out _ (ai I aw)).mono ?_
  exact acg
theorem apY (an ar ak al aA:Option Addr) (c0 au c2 c3 c4:Nat) (rs:List aM) (qs:List aN) (ag af sp:Int) (ws:List Int) (ad:List aK) (os:List Out) (Z:ed an ar ak al aA c0 au c2 c3 c4 rs qs ws ad os) (mem val yes no bB:Int) (ps:List aN) (az:jS rs qs mem= some ps) (w:World) (R:dL w an ar ak al aA rs qs ws ad os):
 Calls Tryz.prog 154 #[.agg #[.slice an rs c0,.slice ar qs au,ag,af,sp,.slice ak ws c2,.slice al ad c3,.slice aA os c4],.agg #[(2:Int),mem,val,yes,no,bB]] w (hq (some ⟨rs,ps,ag,af,sp,ws,ad,os⟩) w):=by
 have bL:=J R;have bj:=J Z;clear R Z;have bD:=J az;clear az
 go_in
 go_upto_region 1 with fail
 refine fv fun aH av aj aU ae=>?_
 have I:=av;have aF:=aj.aI;have a':=aU.df;have aq:=ae.aI;have gv:=ae.lt
 go_upto_region 2 with fail
 refine cR fun kr ao eJ=>?_
 replace I:=ai I ao;clear aF;replace aj:=aj.to ao;have aF:=aj.aI;clear a';replace aU:=aU.to ao;have a':=aU.df;clear aq;replace ae:=ae.to ao;have aq:=ae.aI;have Gl:=eJ.lt
 go_wp2_with fail
 refine (aqn an c0 rs bj.out.h0 ar au qs bj.out.h1 bj.out.n1 mem ps bD.out _ (bL.out.ft.U (ai I aw)) (bL.out.dz.U (ai I aw))).mono ?_
 rintro e bA ⟨oU,pg,rfl,fB,bC⟩
 have aL:=be kr bC;replace I:=ai I aL;replace aj:=aj.to aL;clear aF;have aF:=aj.aI;clear a';replace ae:=ae.to aL;clear aq;have aq:=ae.aI;have QC:=aL.size;have vp:=I.size
 go_wp2_with fail
 refine (Ha an ar ak al aA c0 au c2 c3 c4 rs qs ag af sp ws ad os bj.out _ (bL.out.U (ai I aw))).mono ?_
 rintro e cf ⟨cI,e0,cC,e1,cV,e2,cW,e3,cL,e4,rfl,dr,cZ⟩
 have bV:=be bA cZ;replace I:=ai I bV;replace fB:=fB.bh bV;clear aF;replace ae:=ae.to bV;clear aq;have aq:=ae.aI;have aac:=bV.size;have KQ:=I.size
 go_upto_region 13 with fail
 have lv:=dr.bh (ca cf (.cells #[.slice cI rs e0,.slice cC qs e1,ag,af,sp,.slice cV ws e2,.slice cW ad e3,.slice cL os e4] 44));clear dr;have cG:Below cf cf (World.alloc cf (.cells #[.slice cI rs e0,.slice cC qs e1,ag,af,sp,.slice cV ws e2,.slice cW ad e3,.slice cL os e4] 44)):=ca cf _
 have aO:=aC.new cf 44 #[.slice cI rs e0,.slice cC qs e1,ag,af,sp,.slice cV ws e2,.slice cW ad e3,.slice cL os e4]
 replace fB:=fB.bh cG
 generalize World.alloc cf (.cells #[.slice cI rs e0,.slice cC qs e1,ag,af,sp,.slice cV ws e2,.slice cW ad e3,.slice cL os e4] 44)= tI at *
 replace I:=ai I cG;have bG:=aO.aI;clear aq;replace ae:=ae.to cG;have aq:=ae.aI;have cq:=lv.kp;have bF:=lv.fg;have bw:=lv.fF;have cz:=lv.lE;clear lv;have Ag:=aO.frozen 1;have fC:=cq.cH aO;have sG:=fB.cH aO;have en:=bF.cH aO;have dI:=bw.cH aO;have fH:=cz.cH aO
 go_upto_region 14 with fail
 clear aq bG
 refine kG 1 fun mb eQ=>?_
 replace I:=eQ.aG I;replace ae:=eQ.dJ ae;replace aO:=eQ.Ht aO;replace fB:=fB.bY eQ sG;replace cq:=cq.bY eQ fC;replace bF:=bF.bY eQ en;replace bw:=bw.bY eQ dI;replace cz:=cz.bY eQ fH
 have aq:=ae.aI;have bG:=aO.aI;clear fC sG en dI fH Ag;have fC:=cq.cH ae;have sG:=fB.cH ae;have en:=bF.cH ae;have dI:=bw.cH ae;have fH:=cz.cH ae;have ez:=ae.jb
 go_wp2
 clear aq bG
 refine iE 0 fun cQ aD=>?_
 replace I:=aD.aG I;replace ae:=aD.ja ae;replace fB:=fB.bY aD sG;replace cq:=cq.bY aD fC;replace bF:=bF.bY aD en;replace bw:=bw.bY aD dI;replace cz:=cz.bY aD fH;have aq:=ae.aI
 refine bodyPost_ret (v:= .tuple #[.agg #[.slice cI rs e0,.slice oU ps pg,ag,af,sp,.slice cV ws e2,.slice cW ad e3,.slice cL os e4],true]) (by simp [results,Tryz.results154,go_sem,aq]) rfl ?_
 exact abr
theorem apX (an ar ak al aA:Option Addr) (c0 au c2 c3 c4:Nat) (rs:List aM) (qs:List aN) (ag af sp:Int) (ws:List Int) (ad:List aK) (os:List Out) (Z:ed an ar ak al aA c0 au c2 c3 c4 rs qs ws ad os) (mem val yes no bB:Int) (az:jS rs qs mem= none) (w:World) (R:dL w an ar ak al aA rs qs ws ad os):
 Calls Tryz.prog 154 #[.agg #[.slice an rs c0,.slice ar qs au,ag,af,sp,.slice ak ws c2,.slice al ad c3,.slice aA os c4],.agg #[(2:Int),mem,val,yes,no,bB]] w (hq none w):=by
 have bL:=J R;have bj:=J Z;clear R Z;have bD:=J az;clear az
 go_in
 go_upto_region 1 with fail
 refine fv fun aH av aj aU ae=>?_
 have I:=av;have aF:=aj.aI;have a':=aU.df;have aq:=ae.aI
 go_upto_region 2 with fail
 refine cR fun kr ao eJ=>?_
 replace I:=ai I ao;clear aF;replace aj:=aj.to ao;have aF:=aj.aI;clear a';replace aU:=aU.to ao;have a':=aU.df;clear aq;replace ae:=ae.to ao;have aq:=ae.aI
 go_wp2_with fail
 refine (aqm an c0 rs bj.out.h0 ar au qs bj.out.h1 bj.out.n1 mem bD.out _ (bL.out.ft.U (ai I aw)) (bL.out.dz.U (ai I aw))).mono ?_
 exact Rr
open Go.RowKit Go.G9
theorem yo {sp:Int} (h:(sp != 0)= false):(sp == 0)= true:=by rw [bne] at h;simpa using h
theorem xZ {sp:Int} (h:(sp != 0)= true):(sp == 0)= false:=by rw [bne] at h;simpa using h
theorem Ja {rs:List aM} {qs:List aN} (h:dF rs qs= true):lB rs qs= some (vT rs qs):=by rw [lB,if_pos h]
theorem TQ {rs:List aM} {qs:List aN} (h:jC rs qs= true):(vT rs qs).length < qs.length:=by
 obtain⟨j,q,bI,_⟩:=He h
 rw [vT,if_pos h,List.length_take];omega
theorem TP {rs:List aM} {qs:List aN} (h:jC rs qs= false):¬(vT rs qs).length < qs.length:=by
 rw [vT,h];simp
theorem ZO (ag af sp:Int) (ws:List Int) (ad:List aK) (val:Int):∃dw bX cc,jw ⟨ag,af,sp,ws,ad⟩ val=⟨ag,af,dw,bX,cc⟩:=by
 unfold jw;split <;> exact⟨_,_,_,rfl⟩
theorem abR {p:Prop} (h:p:=by
 unfold gE tf;simp only [if_neg eh,if_neg cm,if_neg dS,if_neg gD,if_neg CS,if_neg CT,if_neg CU,if_neg CV,if_neg CW]):p:=h
theorem akW (an ar ak al aA:Option Addr) (c0 au c2 c3 c4:Nat) (rs:List aM) (qs:List aN) (ag af sp:Int) (ws:List Int) (ad:List aK) (os:List Out) (Z:ed an ar ak al aA c0 au c2 c3 c4 rs qs ws ad os) (kind mem val yes no bB:Int) (h:gP ⟨rs,qs,ag,af,sp,ws,ad,os⟩) (w:World) (R:dL w an ar ak al aA rs qs ws ad os):
 Calls Tryz.prog 103 #[.agg #[.slice an rs c0,.slice ar qs au,ag,af,sp,.slice ak ws c2,.slice al ad c3,.slice aA os c4],.agg #[kind,mem,val,yes,no,bB]] w (hq (gE ⟨rs,qs,ag,af,sp,ws,ad,os⟩ ⟨kind,mem,val,yes,no,bB⟩) w):=by
 have aR:dF rs qs= true:=h.ho
 by_cases eh:kind= 1
 ·subst eh
  refine akY an ar ak al aA c0 au c2 c3 c4 rs qs ag af sp ws ad os Z mem val yes no bB _ w R fun W aE=>?_
  have fr:=R.U aE
  unfold gE;rw [if_pos rfl];dsimp only
  cases aZ:(sp != 0)
  ·rw [if_pos (yo aZ)]
   cases az:jD rs qs val mem with
   | none=>exact akt an ar ak al aA c0 au c2 c3 c4 rs qs ag af sp ws ad os Z mem val yes no bB az aZ W fr
   | some ps=>exact aku an ar ak al aA c0 au c2 c3 c4 rs qs ag af sp ws ad os Z mem val yes no bB ps az aZ W fr
  ·rw [if_neg (by rw [xZ aZ];decide)]
   exact JM an ar ak al aA c0 au c2 c3 c4 rs qs ag af sp ws ad os Z 1 mem val yes no bB aZ W fr
 by_cases cm:kind= 2
 ·subst cm
  have fr:=R
  generalize bK:w= W at *
  unfold gE;rw [if_neg (by decide:¬(2:Int)= 1)];rw [if_pos rfl];dsimp only
  cases az:jS rs qs mem with
  | none=>exact akZ an ar ak al aA c0 au c2 c3 c4 rs qs ag af sp ws ad os Z mem val yes no bB az W fr
  | some ps=>exact ala an ar ak al aA c0 au c2 c3 c4 rs qs ag af sp ws ad os Z mem val yes no bB ps az W fr
 by_cases CU:kind= 7
 ·subst CU
  refine alf an ar ak al aA c0 au c2 c3 c4 rs qs ag af sp ws ad os Z mem val yes no bB _ w R fun W aE=>?_
  have fr:=R.U aE
  unfold gE;rw [if_neg (by decide:¬(7:Int)= 1)];rw [if_neg (by decide:¬(7:Int)= 2)];rw [if_pos rfl];dsimp only
  cases aZ:(sp != 0)
  ·rw [if_pos (yo aZ)]
   cases az:pk ⟨rs,qs,ag,af,sp,ws,ad,os⟩ ⟨7,mem,val,yes,no,bB⟩ with
   | none=>exact akv an ar ak al aA c0 au c2 c3 c4 rs qs ag af sp ws ad os Z mem val yes no bB aZ az W fr
   | some n=>exact akw an ar ak al aA c0 au c2 c3 c4 rs qs ag af sp ws ad os Z mem val yes no bB aZ n az aR h.ol W fr
  ·rw [if_neg (by rw [xZ aZ];decide)]
   exact JM an ar ak al aA c0 au c2 c3 c4 rs qs ag af sp ws ad os Z 7 mem val yes no bB aZ W fr
 by_cases CV:kind= 8
 ·subst CV
  refine alg an ar ak al aA c0 au c2 c3 c4 rs qs ag af sp ws ad os Z mem val yes no bB _ w R fun W aE=>?_
  have fr:=R.U aE
  unfold gE;rw [if_neg (by decide:¬(8:Int)= 1)];rw [if_neg (by decide:¬(8:Int)= 2)];rw [if_neg (by decide:¬(8:Int)= 7)];rw [if_pos rfl];dsimp only
  cases aZ:(sp != 0)
  ·rw [if_pos (yo aZ)]
   cases az:ks rs qs mem with
   | none=>exact akx an ar ak al aA c0 au c2 c3 c4 rs qs ag af sp ws ad os Z mem val yes no bB az aZ W fr
   | some ps=>exact aky an ar ak al aA c0 au c2 c3 c4 rs qs ag af sp ws ad os Z mem val yes no bB ps az aZ W fr
  ·rw [if_neg (by rw [xZ aZ];decide)]
   exact JM an ar ak al aA c0 au c2 c3 c4 rs qs ag af sp ws ad os Z 8 mem val yes no bB aZ W fr
 by_cases CW:kind= 9
 ·subst CW
  refine alh an ar ak al aA c0 au c2 c3 c4 rs qs ag af sp ws ad os Z mem val yes no bB _ w R fun W aE=>?_
  have fr:=R.U aE
  unfold gE;rw [if_neg (by decide:¬(9:Int)= 1)];rw [if_neg (by decide:¬(9:Int)= 2)];rw [if_neg (by decide:¬(9:Int)= 7)];rw [if_neg (by decide:¬(9:Int)= 8)];rw [if_pos rfl];dsimp only
  cases aZ:(sp != 0)
  ·cases aT:jC rs qs
   ·rw [if_neg (by simp)]
    exact akz an ar ak al aA c0 au c2 c3 c4 rs qs ag af sp ws ad os Z mem val yes no bB _ (Ja aR) aZ (TP aT) W fr
   ·rw [if_pos (by rw [yo aZ,aR];rfl)]
    exact akA an ar ak al aA c0 au c2 c3 c4 rs qs ag af sp ws ad os Z mem val yes no bB _ (Ja aR) aZ (TQ aT) W fr
  ·rw [if_neg (by rw [xZ aZ];simp)]
   exact JM an ar ak al aA c0 au c2 c3 c4 rs qs ag af sp ws ad os Z 9 mem val yes no bB aZ W fr
 by_cases dS:kind= 3
 ·subst dS
  refine alb an ar ak al aA c0 au c2 c3 c4 rs qs ag af sp ws ad os Z mem val yes no bB _ w R fun W aE=>?_
  have fr:=R.U aE
  unfold gE;rw [if_neg (by decide:¬(3:Int)= 1)];rw [if_neg (by decide:¬(3:Int)= 2)];rw [if_neg (by decide:¬(3:Int)= 7)];rw [if_neg (by decide:¬(3:Int)= 8)];rw [if_neg (by decide:¬(3:Int)= 9)];unfold tf;rw [if_pos rfl];dsimp only
  cases az:nP ⟨ag,af,sp,ws,ad⟩ mem
  ·rw [if_neg (by simp only [cF.gz,az,Bool.false_and];decide)]
   exact akG an ar ak al aA c0 au c2 c3 c4 rs qs ag af sp ws ad os Z mem val yes no bB az aR W fr
  ·cases bS:hk rs qs
   ·rw [if_neg (by simp only [bS,Bool.and_false];decide)]
    exact akF an ar ak al aA c0 au c2 c3 c4 rs qs ag af sp ws ad os Z mem val yes no bB az bS aR W fr
   ·rw [if_pos (by simp only [cF.gz,az,bS,Bool.and_self])]
    exact akH an ar ak al aA c0 au c2 c3 c4 rs qs ag af sp ws ad os Z mem val yes no bB _ _ _ az rfl aR bS W fr
 by_cases gD:kind= 4
 ·subst gD
  refine alc an ar ak al aA c0 au c2 c3 c4 rs qs ag af sp ws ad os Z mem val yes no bB _ w R fun W aE=>?_
  have fr:=R.U aE
  unfold gE;rw [if_neg (by decide:¬(4:Int)= 1)];rw [if_neg (by decide:¬(4:Int)= 2)];rw [if_neg (by decide:¬(4:Int)= 7)];rw [if_neg (by decide:¬(4:Int)= 8)];rw [if_neg (by decide:¬(4:Int)= 9)];unfold tf;rw [if_neg (by decide:¬(4:Int)= 3)];rw [if_pos rfl];dsimp only
  cases az:mK ⟨ag,af,sp,ws,ad⟩
  ·rw [if_neg (by simp only [cF.gz,az,Bool.false_and];decide)]
   exact akJ an ar ak al aA c0 au c2 c3 c4 rs qs ag af sp ws ad os Z mem val yes no bB az aR W fr
  ·cases bS:hk rs qs
   ·rw [if_neg (by simp only [bS,Bool.and_false];decide)]
    exact akI an ar ak al aA c0 au c2 c3 c4 rs qs ag af sp ws ad os Z mem val yes no bB az bS aR W fr
   ·rw [if_pos (by simp only [cF.gz,az,bS,Bool.and_self])]
    cases bf:sI ⟨ag,af,sp,ws,ad⟩ with
    | none=>exact absurd (PH (f:=⟨ag,af,sp,ws,ad⟩) (by simp only [mK,Bool.and_eq_true,decide_eq_true_eq] at az;exact az.2.2)) (by rw [bf];simp)
    | some q=>
     simp only [cF.gz,bf,Option.map_some]
     exact akK an ar ak al aA c0 au c2 c3 c4 rs qs ag af sp ws ad os Z mem val yes no bB q bf _ _ _ az rfl aR bS W fr
 by_cases CS:kind= 5
 ·subst CS
  refine ald an ar ak al aA c0 au c2 c3 c4 rs qs ag af sp ws ad os Z mem val yes no bB _ w R fun W aE=>?_
  have fr:=R.U aE
  unfold gE;rw [if_neg (by decide:¬(5:Int)= 1)];rw [if_neg (by decide:¬(5:Int)= 2)];rw [if_neg (by decide:¬(5:Int)= 7)];rw [if_neg (by decide:¬(5:Int)= 8)];rw [if_neg (by decide:¬(5:Int)= 9)];unfold tf;rw [if_neg (by decide:¬(5:Int)= 3)];rw [if_neg (by decide:¬(5:Int)= 4)];rw [if_pos rfl];dsimp only
  cases az:oj ⟨ag,af,sp,ws,ad⟩ val
  ·rw [if_neg (by simp only [cF.gz,az,Bool.false_and];decide)]
   exact akM an ar ak al aA c0 au c2 c3 c4 rs qs ag af sp ws ad os Z mem val yes no bB az aR W fr
  ·cases bS:hk rs qs
   ·rw [if_neg (by simp only [bS,Bool.and_false];decide)]
    exact akL an ar ak al aA c0 au c2 c3 c4 rs qs ag af sp ws ad os Z mem val yes no bB az bS aR W fr
   ·rw [if_pos (by simp only [cF.gz,az,bS,Bool.and_self])]
    obtain⟨dw,bX,cc,he⟩:=ZO ag af sp ws ad val
    simp only [cF.gz,he]
    exact akN an ar ak al aA c0 au c2 c3 c4 rs qs ag af sp ws ad os Z mem val yes no bB dw bX cc az he aR bS W fr
 by_cases CT:kind= 6
 ·subst CT
  refine ale an ar ak al aA c0 au c2 c3 c4 rs qs ag af sp ws ad os Z mem val yes no bB _ w R fun W aE=>?_
  have fr:=R.U aE
  unfold gE;rw [if_neg (by decide:¬(6:Int)= 1)];rw [if_neg (by decide:¬(6:Int)= 2)];rw [if_neg (by decide:¬(6:Int)= 7)];rw [if_neg (by decide:¬(6:Int)= 8)];rw [if_neg (by decide:¬(6:Int)= 9)];unfold tf;rw [if_neg (by decide:¬(6:Int)= 3)];rw [if_neg (by decide:¬(6:Int)= 4)];rw [if_neg (by decide:¬(6:Int)= 5)];rw [if_pos rfl];dsimp only
  cases az:mh ⟨ag,af,sp,ws,ad⟩
  ·rw [if_neg (by simp only [cF.gz,az,Bool.false_and];decide)]
   exact akP an ar ak al aA c0 au c2 c3 c4 rs qs ag af sp ws ad os Z mem val yes no bB az aR W fr
  ·cases bS:hk rs qs
   ·rw [if_neg (by simp only [bS,Bool.and_false];decide)]
    exact akO an ar ak al aA c0 au c2 c3 c4 rs qs ag af sp ws ad os Z mem val yes no bB az bS aR W fr
   ·rw [if_pos (by simp only [cF.gz,az,bS,Bool.and_self])]
    exact akQ an ar ak al aA c0 au c2 c3 c4 rs qs ag af sp ws ad os Z mem val yes no bB _ _ _ az rfl aR bS W fr
 have e:gE ⟨rs,qs,ag,af,sp,ws,ad,os⟩ ⟨kind,mem,val,yes,no,bB⟩ =none:=by
  exact abR
 rw [e]
 exact alj an ar ak al aA c0 au c2 c3 c4 rs qs ag af sp ws ad os Z kind mem val yes no bB (beq_eq_false_iff_ne.2 eh) (beq_eq_false_iff_ne.2 cm) (beq_eq_false_iff_ne.2 dS) (beq_eq_false_iff_ne.2 gD) (beq_eq_false_iff_ne.2 CS) (beq_eq_false_iff_ne.2 CT) (beq_eq_false_iff_ne.2 CU) (beq_eq_false_iff_ne.2 CV) (beq_eq_false_iff_ne.2 CW) w R
theorem ack {p:Prop} (h:p:=by
 exact apF an ar ak al aA c0 au c2 c3 c4 rs qs ag af sp ws ad os Z mem val yes no bB bS aR W fr):p:=h
theorem apS (an ar ak al aA:Option Addr) (c0 au c2 c3 c4:Nat) (rs:List aM) (qs:List aN) (ag af sp:Int) (ws:List Int) (ad:List aK) (os:List Out) (Z:ed an ar ak al aA c0 au c2 c3 c4 rs qs ws ad os) (kind mem val yes no bB:Int) (h:gP ⟨rs,qs,ag,af,sp,ws,ad,os⟩) (w:World) (R:dL w an ar ak al aA rs qs ws ad os):
 Calls Tryz.prog 154 #[.agg #[.slice an rs c0,.slice ar qs au,ag,af,sp,.slice ak ws c2,.slice al ad c3,.slice aA os c4],.agg #[kind,mem,val,yes,no,bB]] w (hq (gE ⟨rs,qs,ag,af,sp,ws,ad,os⟩ ⟨kind,mem,val,yes,no,bB⟩) w):=by
 have aR:dF rs qs= true:=h.ho
 by_cases eh:kind= 1
 ·subst eh
  have fr:=R
  generalize bK:w= W at *
  unfold gE;rw [if_pos rfl];dsimp only
  cases aZ:(sp != 0)
  ·rw [if_pos (yo aZ)]
   cases az:jD rs qs val mem with
   | none=>exact Zl an ar ak al aA c0 au c2 c3 c4 rs qs ag af sp ws ad os Z mem val yes no bB az W fr
   | some ps=>exact apW an ar ak al aA c0 au c2 c3 c4 rs qs ag af sp ws ad os Z mem val yes no bB ps az (yo aZ) W fr
  ·rw [if_neg (by rw [xZ aZ];decide)]
   cases az:jD rs qs val mem with
   | none=>exact Zl an ar ak al aA c0 au c2 c3 c4 rs qs ag af sp ws ad os Z mem val yes no bB az W fr
   | some ps=>exact apV an ar ak al aA c0 au c2 c3 c4 rs qs ag af sp ws ad os Z mem val yes no bB ps az (xZ aZ) W fr
 by_cases cm:kind= 2
 ·subst cm
  have fr:=R
  generalize bK:w= W at *
  unfold gE;rw [if_neg (by decide:¬(2:Int)= 1)];rw [if_pos rfl];dsimp only
  cases az:jS rs qs mem with
  | none=>exact apX an ar ak al aA c0 au c2 c3 c4 rs qs ag af sp ws ad os Z mem val yes no bB az W fr
  | some ps=>exact apY an ar ak al aA c0 au c2 c3 c4 rs qs ag af sp ws ad os Z mem val yes no bB ps az W fr
 by_cases CU:kind= 7
 ·subst CU
  have fr:=R
  generalize bK:w= W at *
  unfold gE;rw [if_neg (by decide:¬(7:Int)= 1)];rw [if_neg (by decide:¬(7:Int)= 2)];rw [if_pos rfl];dsimp only
  cases aZ:(sp != 0)
  ·rw [if_pos (yo aZ)]
   cases az:pk ⟨rs,qs,ag,af,sp,ws,ad,os⟩ ⟨7,mem,val,yes,no,bB⟩ with
   | none=>exact Zm an ar ak al aA c0 au c2 c3 c4 rs qs ag af sp ws ad os Z mem val yes no bB (Or.inr az) W fr
   | some n=>exact apZ an ar ak al aA c0 au c2 c3 c4 rs qs ag af sp ws ad os Z mem val yes no bB aZ n az aR h.ol W fr
  ·rw [if_neg (by rw [xZ aZ];decide)]
   exact Zm an ar ak al aA c0 au c2 c3 c4 rs qs ag af sp ws ad os Z mem val yes no bB (Or.inl (by simpa using aZ)) W fr
 by_cases CV:kind= 8
 ·subst CV
  have fr:=R
  generalize bK:w= W at *
  unfold gE;rw [if_neg (by decide:¬(8:Int)= 1)];rw [if_neg (by decide:¬(8:Int)= 2)];rw [if_neg (by decide:¬(8:Int)= 7)];rw [if_pos rfl];dsimp only
  cases aZ:(sp != 0)
  ·rw [if_pos (yo aZ)]
   cases az:ks rs qs mem with
   | none=>exact Zn an ar ak al aA c0 au c2 c3 c4 rs qs ag af sp ws ad os Z mem val yes no bB az W fr
   | some ps=>exact aqb an ar ak al aA c0 au c2 c3 c4 rs qs ag af sp ws ad os Z mem val yes no bB ps az (yo aZ) W fr
  ·rw [if_neg (by rw [xZ aZ];decide)]
   cases az:ks rs qs mem with
   | none=>exact Zn an ar ak al aA c0 au c2 c3 c4 rs qs ag af sp ws ad os Z mem val yes no bB az W fr
   | some ps=>exact aqa an ar ak al aA c0 au c2 c3 c4 rs qs ag af sp ws ad os Z mem val yes no bB ps az (xZ aZ) W fr
 by_cases CW:kind= 9
 ·subst CW
  have fr:=R
  generalize bK:w= W at *
  unfold gE;rw [if_neg (by decide:¬(9:Int)= 1)];rw [if_neg (by decide:¬(9:Int)= 2)];rw [if_neg (by decide:¬(9:Int)= 7)];rw [if_neg (by decide:¬(9:Int)= 8)];rw [if_pos rfl];dsimp only
  cases aT:jC rs qs
  ·rw [if_neg (by simp)]
   exact aqc an ar ak al aA c0 au c2 c3 c4 rs qs ag af sp ws ad os Z mem val yes no bB _ (Ja aR) (TP aT) W fr
  ·have h0:sp= 0:=aqM h aT
   rw [if_pos (by rw [h0,aR];rfl)]
   exact aqd an ar ak al aA c0 au c2 c3 c4 rs qs ag af sp ws ad os Z mem val yes no bB _ (Ja aR) (TQ aT) W fr
 by_cases dS:kind= 3
 ·subst dS
  refine HF an ar ak al aA c0 au c2 c3 c4 rs qs ag af sp ws ad os Z 3 mem val yes no bB (by decide) (by decide) (by decide) (by decide) (by decide) _ w R fun W aE=>?_
  have fr:=R.U aE
  unfold gE;rw [if_neg (by decide:¬(3:Int)= 1)];rw [if_neg (by decide:¬(3:Int)= 2)];rw [if_neg (by decide:¬(3:Int)= 7)];rw [if_neg (by decide:¬(3:Int)= 8)];rw [if_neg (by decide:¬(3:Int)= 9)];unfold tf;rw [if_pos rfl];dsimp only
  cases az:nP ⟨ag,af,sp,ws,ad⟩ mem
  ·rw [if_neg (by simp only [cF.gz,az,Bool.false_and];decide)]
   cases bS:hk rs qs
   ·exact ack
   ·exact apG an ar ak al aA c0 au c2 c3 c4 rs qs ag af sp ws ad os Z mem val yes no bB az bS aR W fr
  ·cases bS:hk rs qs
   ·rw [if_neg (by simp only [bS,Bool.and_false];decide)]
    exact ack
   ·rw [if_pos (by simp only [cF.gz,az,bS,Bool.and_self])]
    exact apH an ar ak al aA c0 au c2 c3 c4 rs qs ag af sp ws ad os Z mem val yes no bB _ _ _ az rfl aR bS W fr
 by_cases gD:kind= 4
 ·subst gD
  refine HF an ar ak al aA c0 au c2 c3 c4 rs qs ag af sp ws ad os Z 4 mem val yes no bB (by decide) (by decide) (by decide) (by decide) (by decide) _ w R fun W aE=>?_
  have fr:=R.U aE
  unfold gE;rw [if_neg (by decide:¬(4:Int)= 1)];rw [if_neg (by decide:¬(4:Int)= 2)];rw [if_neg (by decide:¬(4:Int)= 7)];rw [if_neg (by decide:¬(4:Int)= 8)];rw [if_neg (by decide:¬(4:Int)= 9)];unfold tf;rw [if_neg (by decide:¬(4:Int)= 3)];rw [if_pos rfl];dsimp only
  cases az:mK ⟨ag,af,sp,ws,ad⟩
  ·rw [if_neg (by simp only [cF.gz,az,Bool.false_and];decide)]
   exact apI an ar ak al aA c0 au c2 c3 c4 rs qs ag af sp ws ad os Z mem val yes no bB az aR W fr
  ·cases bS:hk rs qs
   ·rw [if_neg (by simp only [bS,Bool.and_false];decide)]
    exact absurd (agv h (by simp only [mK,Bool.and_eq_true,decide_eq_true_eq] at az;exact az.2.2)) (by show¬hk rs qs= true;rw [bS];decide)
   ·rw [if_pos (by simp only [cF.gz,az,bS,Bool.and_self])]
    cases bf:sI ⟨ag,af,sp,ws,ad⟩ with
    | none=>exact absurd (PH (f:=⟨ag,af,sp,ws,ad⟩) (by simp only [mK,Bool.and_eq_true,decide_eq_true_eq] at az;exact az.2.2)) (by rw [bf];simp)
    | some q=>
     simp only [cF.gz,bf,Option.map_some]
     exact apJ an ar ak al aA c0 au c2 c3 c4 rs qs ag af sp ws ad os Z mem val yes no bB q bf _ _ _ az rfl aR bS W fr
 by_cases CS:kind= 5
 ·subst CS
  refine HF an ar ak al aA c0 au c2 c3 c4 rs qs ag af sp ws ad os Z 5 mem val yes no bB (by decide) (by decide) (by decide) (by decide) (by decide) _ w R fun W aE=>?_
  have fr:=R.U aE
  unfold gE;rw [if_neg (by decide:¬(5:Int)= 1)];rw [if_neg (by decide:¬(5:Int)= 2)];rw [if_neg (by decide:¬(5:Int)= 7)];rw [if_neg (by decide:¬(5:Int)= 8)];rw [if_neg (by decide:¬(5:Int)= 9)];unfold tf;rw [if_neg (by decide:¬(5:Int)= 3)];rw [if_neg (by decide:¬(5:Int)= 4)];rw [if_pos rfl];dsimp only
  cases az:oj ⟨ag,af,sp,ws,ad⟩ val
  ·rw [if_neg (by simp only [cF.gz,az,Bool.false_and];decide)]
   exact apK an ar ak al aA c0 au c2 c3 c4 rs qs ag af sp ws ad os Z mem val yes no bB az aR W fr
  ·cases bS:hk rs qs
   ·rw [if_neg (by simp only [bS,Bool.and_false];decide)]
    exact absurd (TO h (HH az).2.1) (by show¬hk rs qs= true;rw [bS];decide)
   ·rw [if_pos (by simp only [cF.gz,az,bS,Bool.and_self])]
    obtain⟨dw,bX,cc,he⟩:=ZO ag af sp ws ad val
    simp only [cF.gz,he]
    exact apL an ar ak al aA c0 au c2 c3 c4 rs qs ag af sp ws ad os Z mem val yes no bB dw bX cc az he aR bS W fr
 by_cases CT:kind= 6
 ·subst CT
  refine HF an ar ak al aA c0 au c2 c3 c4 rs qs ag af sp ws ad os Z 6 mem val yes no bB (by decide) (by decide) (by decide) (by decide) (by decide) _ w R fun W aE=>?_
  have fr:=R.U aE
  unfold gE;rw [if_neg (by decide:¬(6:Int)= 1)];rw [if_neg (by decide:¬(6:Int)= 2)];rw [if_neg (by decide:¬(6:Int)= 7)];rw [if_neg (by decide:¬(6:Int)= 8)];rw [if_neg (by decide:¬(6:Int)= 9)];unfold tf;rw [if_neg (by decide:¬(6:Int)= 3)];rw [if_neg (by decide:¬(6:Int)= 4)];rw [if_neg (by decide:¬(6:Int)= 5)];rw [if_pos rfl];dsimp only
  cases az:mh ⟨ag,af,sp,ws,ad⟩
  ·rw [if_neg (by simp only [cF.gz,az,Bool.false_and];decide)]
   exact apM an ar ak al aA c0 au c2 c3 c4 rs qs ag af sp ws ad os Z mem val yes no bB az aR W fr
  ·cases bS:hk rs qs
   ·rw [if_neg (by simp only [bS,Bool.and_false];decide)]
    exact absurd (TO h (by simp only [mh,Bool.and_eq_true,Bool.not_eq_true',beq_eq_false_iff_ne] at az;exact az.2)) (by show¬hk rs qs= true;rw [bS];decide)
   ·rw [if_pos (by simp only [cF.gz,az,bS,Bool.and_self])]
    exact apN an ar ak al aA c0 au c2 c3 c4 rs qs ag af sp ws ad os Z mem val yes no bB _ _ _ az rfl aR bS W fr
 have e:gE ⟨rs,qs,ag,af,sp,ws,ad,os⟩ ⟨kind,mem,val,yes,no,bB⟩ =none:=by
  exact abR
 rw [e]
 refine HF an ar ak al aA c0 au c2 c3 c4 rs qs ag af sp ws ad os Z kind mem val yes no bB (beq_eq_false_iff_ne.2 eh) (beq_eq_false_iff_ne.2 cm) (beq_eq_false_iff_ne.2 CU) (beq_eq_false_iff_ne.2 CV) (beq_eq_false_iff_ne.2 CW) none w R fun W aE=>?_
 exact apO an ar ak al aA c0 au c2 c3 c4 rs qs ag af sp ws ad os Z kind mem val yes no bB (beq_eq_false_iff_ne.2 dS) (beq_eq_false_iff_ne.2 gD) (beq_eq_false_iff_ne.2 CS) (beq_eq_false_iff_ne.2 CT) aR W (R.U aE)
open Go.RowKit Go.G9
structure et where
 bx:List aM
 bH:List aN
 de:Int
 cU:Int
 dH:Int
 bJ:List Int
 bM:List aK
 bt:List Out
 ef:ByteArray
 eo:ByteArray
 dR:Int
def et.kX (c:et):cF:=⟨c.bx,c.bH,c.de,c.cU,c.dH,c.bJ,c.bM,c.bt⟩
def cF.Tn (m:cF) (d p:ByteArray) (n:Int):et:=⟨m.bx,m.bH,m.de,m.cU,m.dH,m.bJ,m.bM,m.bt,d,p,n⟩
theorem agP (d p:ByteArray) (n:Int) (w:World):Calls Tryz.prog 83 #[.agg #[d,p,n],.agg #[d,p,n]] w fun e ah=>e= .returned true∧Below w w ah:=by
 go_in
 go_wp2
 go_ret
 exact⟨rfl,xb _ _ _⟩
theorem agM (x:et) (an ar ak al aA cl cN bk bo cn:Option Addr) (c0 au c2 c3 c4 d0 d1 d2 d3 d4:Nat) (h0:x.bx.length≤1048576) (h1:x.bH.length≤1048576) (h2:x.bJ.length≤1048576) (h3:x.bM.length≤1048576) (h4:x.bt.length≤1048576) (w:World) (aW:aJ 7 aM.cells w an x.bx) (aV:aJ 3 aN.cells w ar x.bH) (bm:aJ 1 bU w ak x.bJ) (bl:aJ 3 aK.cells w al x.bM) (bZ:aJ 3 Out.cells w aA x.bt) (ni:aJ 7 aM.cells w cl x.bx) (lK:aJ 3 aN.cells w cN x.bH) (jJ:aJ 1 bU w bk x.bJ) (jK:aJ 3 aK.cells w bo x.bM) (ld:aJ 3 Out.cells w cn x.bt):
 Calls Tryz.prog 38 #[.agg #[.slice an x.bx c0,.slice ar x.bH au,x.de,x.cU,x.dH,.slice ak x.bJ c2,.slice al x.bM c3,.slice aA x.bt c4,x.ef,x.eo,x.dR],.agg #[.slice cl x.bx d0,.slice cN x.bH d1,x.de,x.cU,x.dH,.slice bk x.bJ d2,.slice bo x.bM d3,.slice cn x.bt d4,x.ef,x.eo,x.dR]] w fun e ah=>e= .returned true∧Below w w ah:=by
 go_in
 go_upto_region 1 with fail
 refine fp fun aH av aU bp=>?_
 replace aW:=aW.U av;replace aV:=aV.U av;replace bm:=bm.U av;replace bl:=bl.U av;replace bZ:=bZ.U av;replace ni:=ni.U av;replace lK:=lK.U av;replace jJ:=jJ.U av;replace jK:=jK.U av;replace ld:=ld.U av;have I:=av;have a':=aU.bQ;have cE:=bp.bQ;have DG:=aU.lt;have aaF:=bp.lt
 go_wp2_with fail
 refine (agR x.kX an ar ak al aA cl cN bk bo cn c0 au c2 c3 c4 d0 d1 d2 d3 d4 h0 h1 h2 h3 h4 _ (aW.U aw) (aV.U aw) (bm.U aw) (bl.U aw) (bZ.U aw) (ni.U aw) (lK.U aw) (jJ.U aw) (jK.U aw) (ld.U aw)).mono ?_
 rintro e aQ ⟨rfl,aP⟩
 have ao:=be aH aP;replace I:=ai I ao;replace aW:=aW.U ao;replace aV:=aV.U ao;replace bm:=bm.U ao;replace bl:=bl.U ao;replace bZ:=bZ.U ao;replace ni:=ni.U ao;replace lK:=lK.U ao;replace jJ:=jJ.U ao;replace jK:=jK.U ao;replace ld:=ld.U ao;replace aU:=aU.to ao;clear a';have a':=aU.bQ;replace bp:=bp.to ao
 clear cE;have cE:=bp.bQ;have DG:=aU.lt;have aaF:=bp.lt
 go_wp2_with fail
 refine (agP x.ef x.eo x.dR _).mono ?_
 rintro e bA ⟨rfl,bC⟩
 have aL:=be aQ bC;replace I:=ai I aL;replace aW:=aW.U aL;replace aV:=aV.U aL;replace bm:=bm.U aL;replace bl:=bl.U aL;replace bZ:=bZ.U aL;replace ni:=ni.U aL;replace lK:=lK.U aL;replace jJ:=jJ.U aL;replace jK:=jK.U aL;replace ld:=ld.U aL;replace aU:=aU.to aL;clear a';have a':=aU.bQ;replace bp:=bp.to aL
 clear cE;have cE:=bp.bQ;have DG:=aU.lt;have aaF:=bp.lt
 go_wp2
 go_ret
 exact⟨rfl,(ai I aw)⟩
theorem arc (d p:ByteArray) (n:Int) (bS:d.size≤maxLen) (aR:p.size≤maxLen) (l:Int) (h0:0≤l) (h1:l≤1048576) (w:World):
 Calls Tryz.prog 10 #[.agg #[d,p,n],l] w fun e ah=>∃q:Int,e= .returned q∧-1≤q∧q≤l∧(q < 0∨d.size + p.size≤l)∧Below w w ah:=by
 unfold maxLen at bS aR
 go_in
 go_wp2
 all_goals go_ret
 all_goals exact⟨_,rfl,by omega,by omega,by omega,ca _ _⟩
theorem aqZ (x:et) (an ar ak al aA:Option Addr) (c0 au c2 c3 c4:Nat) (h0:x.bx.length≤maxLen) (h1:x.bH.length≤maxLen) (h2:x.bJ.length≤maxLen) (h3:x.bM.length≤maxLen) (h4:x.bt.length≤maxLen) (iO:x.ef.size≤maxLen) (s1:x.eo.size≤maxLen) (l:Int) (km:0≤l) (jR:l≤1048576) (w:World) (aW:aJ 7 aM.cells w an x.bx):
 Calls Tryz.prog 35 #[.agg #[.slice an x.bx c0,.slice ar x.bH au,x.de,x.cU,x.dH,.slice ak x.bJ c2,.slice al x.bM c3,.slice aA x.bt c4,x.ef,x.eo,x.dR],l] w fun e ah=>∃r:Int,e= .returned r∧-1≤r∧r≤l∧(r < 0∨x.bx.length≤1048576∧x.bH.length≤1048576∧x.bJ.length≤1048576∧x.bM.length≤1048576∧x.bt.length≤1048576∧x.ef.size + x.eo.size≤1048576)∧Below w w ah:=by
 go_in
 go_upto_region 1 with fail
 refine cR fun aH av aU=>?_
 replace aW:=aW.U av;have I:=av;have a':=aU.bQ;have DG:=aU.lt
 go_wp2_with fail
 refine (are x.kX an ar ak al aA c0 au c2 c3 c4 h0 h1 h2 h3 h4 l km jR _ (aW.U aw)).mono ?_
 rintro e aQ ⟨dz,rfl,dj,kK,z0,aP⟩
 have ao:=be aH aP;replace I:=ai I ao;replace aW:=aW.U ao;replace aU:=aU.to ao;clear a';have a':=aU.bQ;have asm:=J z0;clear z0;have DG:=aU.lt
 by_cases n0:dz < 0
 ·go_wp2
  go_ret
  exact⟨_,rfl,by omega,by omega,.inl (by omega),(ai I aw)⟩
 go_wp2_with fail
 refine (arc x.ef x.eo x.dR iO s1 dz (by omega) (by omega) _).mono ?_
 rintro e bA ⟨r2,rfl,dY,yn,ch,bC⟩
 have aL:=be aQ bC;replace I:=ai I aL;replace aW:=aW.U aL;replace aU:=aU.to aL;clear a';have a':=aU.bQ;have asl:=J ch;clear ch;have DG:=aU.lt
 by_cases n1:r2 < 0
 ·go_wp2
  go_ret
  exact⟨_,rfl,by omega,by omega,.inl (by omega),(ai I aw)⟩
 go_wp2
 go_ret
 have z0:=asm.out;have ch:=asl.out
 rcases z0 with z0 | ⟨eb,ds,du,ew,fm⟩
 ·omega
 ·exact⟨_,rfl,by omega,by omega,.inr ⟨eb,ds,du,ew,fm,by omega⟩,(ai I aw)⟩
theorem aru (d p:ByteArray) (n:Int) (w:World):Calls Tryz.prog 13 #[.agg #[d,p,n]] w fun e ah=>e= .returned (.agg #[d,p,n])∧Below w w ah:=by
 go_in
 go_wp2
 exact bodyPost_ret (v:= .agg #[d,p,n]) (by simp [results,Tryz.results13,go_sem]) rfl ⟨rfl,MA _ _ _ _⟩
theorem arw (x:et) (an ar ak al aA:Option Addr) (c0 au c2 c3 c4:Nat) (h0:x.bx.length≤1048576) (h1:x.bH.length≤1048576) (h2:x.bJ.length≤1048576) (h3:x.bM.length≤1048576) (h4:x.bt.length≤1048576) (w:World) (aW:aJ 7 aM.cells w an x.bx) (aV:aJ 3 aN.cells w ar x.bH) (bm:aJ 1 bU w ak x.bJ) (bl:aJ 3 aK.cells w al x.bM) (bZ:aJ 3 Out.cells w aA x.bt):
 Calls Tryz.prog 81 #[.agg #[.slice an x.bx c0,.slice ar x.bH au,x.de,x.cU,x.dH,.slice ak x.bJ c2,.slice al x.bM c3,.slice aA x.bt c4]] w fun e ah=>∃nk ff fw kM nn,e= .returned (.agg #[.slice nk x.bx x.bx,.slice ff x.bH x.bH,x.de,x.cU,x.dH,.slice fw x.bJ x.bJ,.slice kM x.bM x.bM,.slice nn x.bt x.bt])∧aX w 89 7 aM.cells ah (.slice nk x.bx x.bx) x.bx∧aX w 115 3 aN.cells ah (.slice ff x.bH x.bH) x.bH∧aX w 3 1 bU ah (.slice fw x.bJ x.bJ) x.bJ∧aX w 214 3 aK.cells ah (.slice kM x.bM x.bM) x.bM∧aX w 163 3 Out.cells ah (.slice nn x.bt x.bt) x.bt∧rY [.slice nk x.bx x.bx,.slice ff x.bH x.bH,.slice fw x.bJ x.bJ,.slice kM x.bM x.bM,.slice nn x.bt x.bt]∧Below w w ah:=
 arx x.kX an ar ak al aA c0 au c2 c3 c4 h0 h1 h2 h3 h4 w aW aV bm bl bZ
theorem amX {yp yq DO DP DQ:Nat} (x:et) (an ar ak al aA:Option Addr) (c0 au c2 c3 c4:Nat) (h0:x.bx.length≤1048576) (h1:x.bH.length≤1048576) (h2:x.bJ.length≤1048576) (h3:x.bM.length≤1048576) (h4:x.bt.length≤1048576) (m:Int) (g0:0 < m) (g1:m≤9000000) (w:World) (cq:aX yp 89 7 aM.cells w (.slice an x.bx c0) x.bx) (cv:aX yq 115 3 aN.cells w (.slice ar x.bH au) x.bH) (bF:aX DO 3 1 bU w (.slice ak x.bJ c2) x.bJ) (bw:aX DP 214 3 aK.cells w (.slice al x.bM c3) x.bM) (cz:aX DQ 163 3 Out.cells w (.slice aA x.bt c4) x.bt) (ap:rY [.slice an x.bx c0,.slice ar x.bH au,.slice ak x.bJ c2,.slice al x.bM c3,.slice aA x.bt c4]):
 Calls Tryz.prog 39 #[.agg #[.slice an x.bx c0,.slice ar x.bH au,x.de,x.cU,x.dH,.slice ak x.bJ c2,.slice al x.bM c3,.slice aA x.bt c4,x.ef,x.eo,x.dR],m] w fun e ah=>e= .returned (.int .i64 (m + 7 * (x.bx.length:Int) + 3 * (x.bH.length:Int) + (x.bJ.length:Int) + 3 * (x.bM.length:Int) + 3 * (x.bt.length:Int)))∧aX yp 89 7 Be ah (.slice an x.bx c0) (gF (m) 7 x.bx.length)∧aX yq 115 3 Bd ah (.slice ar x.bH au) (gF (m + 7 * (x.bx.length:Int)) 3 x.bH.length)∧aX DO 3 1 zp ah (.slice ak x.bJ c2) (gF (m + 7 * (x.bx.length:Int) + 3 * (x.bH.length:Int)) 1 x.bJ.length)∧aX DP 214 3 zq ah (.slice al x.bM c3) (gF (m + 7 * (x.bx.length:Int) + 3 * (x.bH.length:Int) + (x.bJ.length:Int)) 3 x.bM.length)∧aX DQ 163 3 Bc ah (.slice aA x.bt c4) (gF (m + 7 * (x.bx.length:Int) + 3 * (x.bH.length:Int) + (x.bJ.length:Int) + 3 * (x.bM.length:Int)) 3 x.bt.length)∧oQ w ah [.slice an x.bx c0,.slice ar x.bH au,.slice ak x.bJ c2,.slice al x.bM c3,.slice aA x.bt c4]:=by
 go_in
 replace cq:=cq.alloc (.cells #[.slice an x.bx c0,.slice ar x.bH au,x.de,x.cU,x.dH,.slice ak x.bJ c2,.slice al x.bM c3,.slice aA x.bt c4,x.ef,x.eo,x.dR] 46);replace cv:=cv.alloc (.cells #[.slice an x.bx c0,.slice ar x.bH au,x.de,x.cU,x.dH,.slice ak x.bJ c2,.slice al x.bM c3,.slice aA x.bt c4,x.ef,x.eo,x.dR] 46)
 replace bF:=bF.alloc (.cells #[.slice an x.bx c0,.slice ar x.bH au,x.de,x.cU,x.dH,.slice ak x.bJ c2,.slice al x.bM c3,.slice aA x.bt c4,x.ef,x.eo,x.dR] 46);replace bw:=bw.alloc (.cells #[.slice an x.bx c0,.slice ar x.bH au,x.de,x.cU,x.dH,.slice ak x.bJ c2,.slice al x.bM c3,.slice aA x.bt c4,x.ef,x.eo,x.dR] 46)
 replace cz:=cz.alloc (.cells #[.slice an x.bx c0,.slice ar x.bH au,x.de,x.cU,x.dH,.slice ak x.bJ c2,.slice al x.bM c3,.slice aA x.bt c4,x.ef,x.eo,x.dR] 46)
 go_wp2_with fail
 refine (ana x.kX an ar ak al aA c0 au c2 c3 c4 h0 h1 h2 h3 h4 m g0 g1 _ cq cv bF bw cz ap).mono ?_
 rintro e bg ⟨rfl,se,wV,M2,EC,Mg,hx⟩
 go_wp2
 go_ret
 exact⟨rfl,se,wV,M2,EC,Mg,(oQ.PJ (vs:=[]) (ca w _)).trans hx⟩
end Go.Proofs.YtlaaemmmbodaaaaGreatDoor
namespace Go.G9
open Go.ChangeShapes Go.WideShapes Go.ChangeAt Go.RowKit Go.Deep
section
variable {H:Type} {enc:TypeId×Value→H} {P:Program}
theorem aai (aT:laidOutB P= true) {W eF:World} (aE:Below W W eF):∀{gU:List TypeId} {vs:List Value} {qE:List (DataW H)} {ps:List MemPlace},
  (∀t ∈ gU,P.readableRec t= true∧t < P.types.size)→(∀x ∈ ps,x.block < W.heap.size)→DataW.TrodAll enc P W 0 (fun _=>true) true gU vs qE ps→
  DataW.TrodAll enc P eF 0 (fun b=>decide (b < W.heap.size)) true gU vs qE ps
 | [],[],[],_,_,_,h=>h
 | t ::gU,v ::vs,d ::qE,ps,cA,bn,h=>by
  obtain⟨p,q,h1,h2,e⟩:=h
  have Wp:=cA t (List.mem_cons.2 (Or.inl rfl))
  exact⟨p,q,Below.trod aT Wp.1 Wp.2 h1 aE (fun x ay=>bn x (by rw [e];exact List.mem_append_left _ ay)),
   aai aT aE (fun fo dv=>cA fo (List.mem_cons.2 (Or.inr dv))) (fun x ay=>bn x (by rw [e];exact List.mem_append_right _ ay)) h2,e⟩
 | [],[],_ ::_,_,_,_,h=>h.elim
 | [],_ ::_,_,_,_,_,h=>h.elim
 | _ ::_,[],_,_,_,_,h=>h.elim
 | _ ::_,_ ::_,[],_,_,_,h=>h.elim
theorem aaj {w:World} {base:Nat} {sp:Nat→Bool} {bS:Bool}:∀{gU:List TypeId} {vs:List Value} {qE:List (DataW H)} {ps:List MemPlace},DataW.TrodAll enc P w base sp bS gU vs qE ps→qE.length= gU.length
 | [],[],[],_,_=>rfl
 | _ ::_,_ ::_,_ ::_,_,h=>by obtain⟨_,_,_,h2,_⟩:=h;simp [aaj h2]
 | [],[],_ ::_,_,h=>h.elim
 | [],_ ::_,_,_,h=>h.elim
 | _ ::_,[],_,_,h=>h.elim
 | _ ::_,_ ::_,[],_,h=>h.elim
variable {w:World} {base:Nat} {sp:Nat→Bool} {bS:Bool}
theorem Kz {jk:Array Field} {xs:List (DataW H×List MemPlace)} {n:Nat} {cs:List Value} (hlen:xs.length= jk.size)
  (ck:∀(i:Nat) (f:Field),jk[i]? =some f→DataW.trod enc P w base sp bS n f.type ((cs.drop f.offset).take (P.cellsOf f.type))= xs[i]?) (i:Nat) (f:Field) (hf:jk[i]? =some f):
  ∃y,DataW.trod enc P w base sp bS n f.type ((cs.drop f.offset).take (P.cellsOf f.type))= some y:=by
 have hi:i < xs.length:=by have:=(Array.getElem?_eq_some_iff.1 hf).1;omega
 exact⟨xs[i],(ck i f hf).trans (List.getElem?_eq_getElem hi)⟩
theorem zt {k:Nat} {jk:Array Field} {xs:List (DataW H×List MemPlace)} {n:Nat} {cs:List Value} (hlen:xs.length= jk.size)
  (ck:∀(i:Nat) (f:Field),jk[i]? =some f→DataW.trod enc P w base sp bS n f.type ((cs.drop f.offset).take (P.cellsOf f.type))= xs[i]?) (i:Nat) (f:Field) (hf:jk[i]? =some f)
  (ax:P.cellsOf f.type= k):∃y,DataW.trod enc P w base sp bS n f.type ((cs.drop f.offset).take k)= some y:=by
 obtain⟨y,h⟩:=Kz hlen ck i f hf
 rw [ax] at h
 exact⟨y,h⟩
theorem rS {k:IntKind} {jk:Array Field} {xs:List (DataW H×List MemPlace)} {n:Nat} {cs:List Value} (hlen:xs.length= jk.size)
  (ck:∀(i:Nat) (f:Field),jk[i]? =some f→DataW.trod enc P w base sp bS n f.type ((cs.drop f.offset).take (P.cellsOf f.type))= xs[i]?) (i:Nat) (f:Field) (hf:jk[i]? =some f)
  (hu:P.underlying f.type= some (.int k)) (h1:P.cellsOf f.type= 1):∃m:Int,(cs.drop f.offset).take 1= [.int k m]:=by
 obtain⟨_,h⟩:=Kz hlen ck i f hf
 rw [h1] at h
 obtain⟨m,e,_,_⟩:=DataW.trod_int hu h
 exact⟨m,e⟩
theorem Qd {jk:Array Field} {xs:List (DataW H×List MemPlace)} {n:Nat} {cs:List Value} (hlen:xs.length= jk.size)
  (ck:∀(i:Nat) (f:Field),jk[i]? =some f→DataW.trod enc P w base sp bS n f.type ((cs.drop f.offset).take (P.cellsOf f.type))= xs[i]?) (i:Nat) (f:Field) (hf:jk[i]? =some f)
  (hu:P.underlying f.type= some .string) (h1:P.cellsOf f.type= 1):∃s:ByteArray,(cs.drop f.offset).take 1= [.string s]∧s.size≤maxLen:=by
 obtain⟨_,h⟩:=Kz hlen ck i f hf
 rw [h1] at h
 obtain⟨m,e,_,hm⟩:=DataW.trod_string hu h
 exact⟨m,e,hm⟩
theorem Hz {jk:Array Field} {xs:List (DataW H×List MemPlace)} {n:Nat} {cs:List Value} (hlen:xs.length= jk.size)
  (ck:∀(i:Nat) (f:Field),jk[i]? =some f→DataW.trod enc P w base sp bS n f.type ((cs.drop f.offset).take (P.cellsOf f.type))= xs[i]?) (i:Nat) (f:Field) (hf:jk[i]? =some f)
  (hu:P.underlying f.type= some .bool) (h1:P.cellsOf f.type= 1):∃b:Bool,(cs.drop f.offset).take 1= [.bool b]:=by
 obtain⟨_,h⟩:=Kz hlen ck i f hf
 rw [h1] at h
 obtain⟨m,e,_⟩:=DataW.trod_bool hu h
 exact⟨m,e⟩
theorem aqQ {w:World} {a:Addr} {v:Value} (h:w.cell? a= some v):a.spot= none:=by
 unfold World.cell? at h
 split at h
 ·split at h
  ·cases h
  ·rename_i aZ;simpa using aZ
 ·cases h
theorem HA {T:Type} (f:T→List Value) (sz:Nat) (eW:0 < sz) {t e:TypeId} (cA:P.underlying t= some (.slice e)) (eS:P.cellsOf e= sz)
  (aiU:∀fuel cs x,DataW.trod enc P w base sp bS fuel e cs= some x→∃y:T,cs= f y) {fuel:Nat} {cs:List Value} {x:DataW H×List MemPlace} (h:DataW.trod enc P w base sp bS fuel t cs= some x):
  ∃(A:Option Addr) (c:Nat) (xs:List T),cs= [.slice A xs c]∧xs.length≤maxLen∧aJ sz f w A xs∧(A= none→xs= []∧c= 0):=by
 rcases open_slice cA h with ⟨rfl,_⟩ | ⟨a,len,cap,m,n,D,asx,rfl,_,VV,jQ,hm,_,hi⟩
 ·exact⟨none,0,[],rfl,by simp,aJ.nil,fun _=>⟨rfl,rfl⟩⟩
 ·have hle:len≤m:=by rw [hm];split <;> omega
  have hex:∀i,i < len→∃y:T,w.cells? base (a.add (i * sz)) sz= some (f y):=fun i atO=>by
   obtain⟨uo,hM,ajT⟩:=hi i (by omega)
   obtain⟨y,rfl⟩:=aiU _ _ _ ajT
   exact⟨y,by rw [eS] at hM;exact hM⟩
  have lP:∀k,k≤len→∃l:List T,l.length= k∧∀i y,l[i]? =some y→w.cells? base (a.add (i * sz)) sz= some (f y):=by
   intro k
   induction k with
   | zero=>intro _;exact⟨[],rfl,by simp⟩
   | succ k eP=>
    intro ax
    obtain⟨l,yY,VV⟩:=eP (by omega)
    obtain⟨y,hy⟩:=hex k (by omega)
    refine⟨l ++ [y],by simp [yY],fun i z cb=>?_⟩
    rw [List.getElem?_append] at cb
    split at cb
    ·exact VV i z cb
    ·have h0:i= k:=by have:=(List.getElem?_eq_some_iff.1 cb).1;simp at this;omega
     subst h0
     rw [yY] at cb;simp at cb;subst cb;exact hy
  obtain⟨l,yY,Vo⟩:=lP len (Nat.le_refl _)
  refine⟨some a,cap,l,by rw [yY],by omega,fun bd=>?_,fun h=>by cases h⟩
  have SV:∀i y,l[i]? =some y→∀j u,(f y)[j]? =some u→w.cell? ((a.add (i * sz)).add j)= some u:=fun i y hy j u hu=>by
   obtain⟨_,jA,Jr⟩:=World.cells?_some (Vo i y hy)
   have bI:j < sz:=by rw [← jA];exact (List.getElem?_eq_some_iff.1 hu).1
   rw [Jr j bI];exact hu
  obtain⟨kK,JJ⟩ :∃y,l[0]? =some y:=⟨_,List.getElem?_eq_getElem bd⟩
  obtain⟨_,atI,_⟩:=World.cells?_some (Vo 0 kK JJ)
  have ajU:(f kK)[0]? =some ((f kK)[0]'(by omega)):=List.getElem?_eq_getElem _;have c0:=SV 0 kK JJ 0 _ ajU
  rw [Nat.zero_mul,show (a.add 0).add 0= a from by simp [Addr.add]] at c0
  have aZ:=aqQ c0
  obtain⟨b,off,spot⟩:=a
  simp only at aZ;subst aZ
  refine⟨b,off,rfl,World.block_lt_of_cell? w _ c0,fun i x ay j u hu=>?_⟩
  have:=SV i x ay j u hu
  rw [add_add] at this
  rw [← this]
  congr 1
  unfold Addr.add
  split <;> simp_all [Nat.add_assoc]
theorem afB {cs:Array Value} {l:List Value} (h:cs.toList= l):Value.agg cs= .agg l.toArray:=by rw [← h]
end
end Go.G9
namespace Go.Proofs.YtlaaemmmbodaaaaGreatDoor
open Go.RowKit Go.G9
def Bq (s:ByteArray) (c:UInt8):Bool:=s.data.toList.any (· == c)
theorem indexByte_ge (c:UInt8):∀l:List UInt8,-1≤Lib.indexByte l c∧(decide (0≤Lib.indexByte l c))= l.any (· == c)
 | []=>by simp [Lib.indexByte]
 | b ::l=>by
  have eP:=indexByte_ge c l
  unfold Lib.indexByte
  by_cases h:b == c
  ·simp [h]
  ·by_cases h2:Lib.indexByte l c= -1
   ·have:=eP.2;rw [h2] at this;simp [h,h2] at this ⊢;exact this
   ·have h3:0≤Lib.indexByte l c:=by omega
    have:=eP.2
    simp [h,h2,h3] at this ⊢
    refine⟨by omega,?_⟩
    simp [show (0:Int)≤Lib.indexByte l c + 1 from by omega]
    exact this
def oL (c:UInt8):Bool:=decide (32≤c.toNat) && (decide (c.toNat≤126) && !(c == 35))
def jm (s:ByteArray):Bool:=s.data.toList.all oL
theorem Yy (s:ByteArray) (k:Nat) (h:k < s.size):(s.data.toList.take (k+1)).all oL= ((s.data.toList.take k).all oL && oL s[k]):=by
 rw [List.take_succ_eq_append_getElem (by simpa using h),List.all_append];simp;rfl
theorem Kr (s:ByteArray) (k:Nat) (h:k < s.size) (h1:oL s[k]= false):jm s= false:=by
 have:jm s= ((s.data.toList.take (k+1)).all oL && (s.data.toList.drop (k+1)).all oL):=by
  unfold jm;rw [← List.all_append,List.take_append_drop]
 rw [this,Yy s k h,h1];simp
def lG (c r:ByteArray):Bool:=fc c.size 1 160 && (decide (r.size≤200) && (jm c && (jm r && !Bq c 64)))
theorem Zi (s:ByteArray) (c:UInt8) (w:World):Calls Tryz.prog 246 #[s,.string ⟨#[c]⟩] w fun e ah=>e= .returned (.int .i64 (Lib.indexByte s.data.toList c))∧ah= w:=by
 have atN:∀W,(callFunc 317 #[s,.int .u8 (((⟨#[c]⟩ :ByteArray)[0]'(Nat.zero_lt_one)).toNat:Int)]).run Tryz.prog W= .ok (.value (.int .i64 (Lib.indexByte s.data.toList c))) W:=fun W=>by
  rw [run_callFunc_indexByte Tryz.func317 (by kernel_rfl) (by kernel_rfl) (by kernel_rfl) (by kernel_rfl),Lib.run_indexByteString]
  simp [Result.andThen];rfl
 by_cases h:([c] == s.toList)= true
 ·have da:=J (beq_iff_eq.1 h)
  go_in
  go_wp2
  go_ret
  have e:s.data.toList= [c]:=(ByteArray.toList_eq s).symm.trans da.out.symm
  exact⟨by rw [e];simp [Lib.indexByte],rfl⟩
 ·have dv:([c] == s.toList)= false:=by simpa using h
  clear h
  go_in
  go_wp2
  go_ret
  exact⟨rfl,rfl⟩
theorem Tw (s:ByteArray) (c:UInt8) (v:Bool) (az:Bq s c= v) (w:World):Calls Tryz.prog 98 #[s,.string ⟨#[c]⟩] w fun e ah=>e= .returned v∧ah= w:=by
 subst az
 have ck:=(indexByte_ge c s.data.toList).2;have hx:=J ck;clear ck
 go_in
 go_wp2_with (first | (go_at_call 246;refine (Zi s c _).mono ?_;rintro e ah ⟨rfl,rfl⟩) | go_in)
 go_ret
 exact⟨ep hx.out,rfl⟩
theorem acC {p:Prop} (h:p:=by
 go_wp2
 go_ret
 exact⟨ep (Kr s k bn (by simp [oL];omega)).symm,rfl⟩):p:=h
theorem abk {p:Prop} (h:p:=by
 go_round
 case rel=>exact⟨k + 1,by omega,by go_num,by rw [Yy s k bn,cJ.out];simp [oL,← UInt8.toNat_inj];omega⟩
 case measure=>simp [intOf];omega):p:=h
theorem abD {p:Prop} (h:p:=by
 obtain rfl:k= s.size:=by omega
 go_wp2
 go_ret
 have:=cJ.out
 rw [List.take_of_length_le (by simp)] at this
 exact⟨ep this.symm,rfl⟩):p:=h
theorem GX (s:ByteArray) (aZ:s.size≤maxLen) (v:Bool) (az:jm s= v) (w:World):Calls Tryz.prog 97 #[s] w fun e ah=>e= .returned v∧ah= w:=by
 subst az
 unfold maxLen at aZ
 go_in
 go_wp2
 go_loop [3] (fun i=>∃k:Nat,k≤s.size∧i= .int .i64 k∧(s.data.toList.take k).all oL= true) (fun i=>s.size - (intOf i).toNat)
 case atStart=>exact⟨0,Nat.zero_le _,rfl,rfl⟩
 case round=>
  obtain⟨k,ax,rfl,aT⟩:=hrel
  have cJ:=J aT;clear aT
  by_cases bn:k < s.size
  ·by_cases h1:s[k].toNat < 32
   ·exact acC
   ·by_cases h2:126 < s[k].toNat
    ·exact acC
    ·by_cases h3:s[k].toNat= 35
     ·have sr:(((s[k].toNat:Nat):Int) == 35)= true:=by rw [h3];rfl
      have hr:=J h3;clear h3
      go_wp2
      go_ret
      exact⟨ep (Kr s k bn (by have:=hr.out;simp [oL,← UInt8.toNat_inj,this])).symm,rfl⟩
     ·have sr:(((s[k].toNat:Nat):Int) == 35)= false:=beq_eq_false_iff_ne.2 (by omega)
      go_wp2
      exact abk
  ·exact abD
theorem JS (s:ByteArray) (m:Int) (aZ:s.size≤maxLen) (v:Bool) (az:(jm s && decide (s.size≤m))= v) (w:World):Calls Tryz.prog 108 #[s,m] w fun e ah=>e= .returned v∧ah= w:=by
 subst az
 unfold maxLen at aZ
 go_in
 go_wp2
 go_loop [5] (fun i=>∃k:Nat,k≤s.size∧i= .int .i64 k∧(s.data.toList.take k).all oL= true) (fun i=>s.size - (intOf i).toNat)
 case atStart=>exact⟨0,Nat.zero_le _,rfl,rfl⟩
 case round=>
  obtain⟨k,ax,rfl,aT⟩:=hrel
  have cJ:=J aT;clear aT
  by_cases bn:k < s.size
  ·have h256:s[k].toNat < 256:=UInt8.toNat_lt _
   cases h1:fc (s[k].toNat:Int) 32 126
   ·go_wp2_with (go_at_call 186;refine (jv _ _ _ _ h1 _).mono ?_;rintro e ah ⟨rfl,rfl⟩)
    go_ret
    exact⟨ep (by rw [Kr s k bn (by simp [oL,fc] at h1 ⊢;omega)];rfl),rfl⟩
   ·have qf:=rH.1 h1
    by_cases h3:s[k].toNat= 35
    ·have sr:(((s[k].toNat:Nat):Int) == 35)= true:=by rw [h3];rfl
     have hr:=J h3;clear h3
     go_wp2_with (go_at_call 186;refine (jv _ _ _ _ h1 _).mono ?_;rintro e ah ⟨rfl,rfl⟩)
     go_ret
     exact⟨ep (by rw [Kr s k bn (by have:=hr.out;simp [oL,← UInt8.toNat_inj,this])];rfl),rfl⟩
    ·have sr:(((s[k].toNat:Nat):Int) == 35)= false:=beq_eq_false_iff_ne.2 (by omega)
     go_wp2_with (go_at_call 186;refine (jv _ _ _ _ h1 _).mono ?_;rintro e ah ⟨rfl,rfl⟩)
     exact abk
  ·obtain rfl:k= s.size:=by omega
   go_wp2
   go_ret
   have:=cJ.out
   rw [List.take_of_length_le (by simp)] at this
   exact⟨ep (by rw [show jm s= true from this];simp),rfl⟩
theorem Xm (s:ByteArray) (c:UInt8) (aZ:s.size≤maxLen) (v:Bool) (az:Bq s c= v) (w:World):Calls Tryz.prog 109 #[s,.int .u8 (c.toNat:Int)] w fun e ah=>e= .returned v∧ah= w:=by
 subst az
 unfold maxLen at aZ
 go_in
 go_wp2
 go_loop [5] (fun i=>∃k:Nat,k≤s.size∧i= .int .i64 k∧(s.data.toList.take k).any (· == c)= false) (fun i=>s.size - (intOf i).toNat)
 case atStart=>exact⟨0,Nat.zero_le _,rfl,rfl⟩
 case round=>
  obtain⟨k,ax,rfl,aT⟩:=hrel
  have cJ:=J aT;clear aT
  by_cases bn:k < s.size
  ·by_cases h3:s[k]= c
   ·have sr:((s[k].toNat:Int) == (c.toNat:Int))= true:=by rw [h3];simp
    have hr:=J h3;clear h3
    go_wp2
    go_ret
    exact⟨ep (Eq.symm (List.any_eq_true.2 ⟨s[k],by exact List.getElem_mem (l:=s.data.toList) (by simpa using bn),by simp [hr.out]⟩)),rfl⟩
   ·have sr:((s[k].toNat:Int) == (c.toNat:Int))= false:=beq_eq_false_iff_ne.2 (fun h=>h3 (UInt8.toNat_inj.1 (by omega)))
    go_wp2
    go_round
    case rel=>exact⟨k + 1,by omega,by go_num,by rw [List.take_succ_eq_append_getElem (by simpa using bn),List.any_append,cJ.out];simp;exact h3⟩
    case measure=>simp [intOf];omega
  ·exact abD
theorem acz {p:Prop} (h:p:=by
 rintro e ah ⟨rfl,rfl⟩
 go_wp2
 go_ret
 exact⟨ep (by simp [lG,h4]),ca _ _⟩):p:=h
theorem xO (c r:ByteArray) (aG:c.size≤1048576) (bz:r.size≤1048576) (v:Bool) (az:lG c r= v) (w:World):Calls Tryz.prog 55 #[.agg #[c,r]] w fun e ah=>e= .returned v∧Below w w ah:=by
 subst az
 have rC:c.size≤maxLen:=by unfold maxLen;omega
 have pb:r.size≤maxLen:=by unfold maxLen;omega
 cases h1:fc (c.size:Int) 1 160
 ·go_in
  go_wp2_with (go_at_call 79;refine (je _ _ _ _ h1 _).mono ?_;rintro e ah ⟨rfl,rfl⟩)
  go_ret
  exact⟨ep (by simp [lG,h1]),ca _ _⟩
 by_cases h2:r.size≤200
 ·cases h3:jm c
  ·go_in
   go_wp2_with (first | (go_at_call 79;refine (je _ _ _ _ h1 _).mono ?_;rintro e ah ⟨rfl,rfl⟩) | (go_at_call 97;refine (GX c rC _ h3 _).mono ?_;rintro e ah ⟨rfl,rfl⟩))
   go_ret
   exact⟨ep (by simp [lG,h3]),ca _ _⟩
  cases h4:jm r
  ·go_in
   go_wp2_with fail
   refine (je _ _ _ _ h1 _).mono ?_
   rintro e ah ⟨rfl,rfl⟩
   go_wp2_with fail
   refine (GX c rC _ h3 _).mono ?_
   rintro e ah ⟨rfl,rfl⟩
   go_wp2_with fail
   refine (GX r pb _ h4 _).mono ?_
   exact acz
  ·go_in
   go_wp2_with fail
   refine (je _ _ _ _ h1 _).mono ?_
   rintro e ah ⟨rfl,rfl⟩
   go_wp2_with fail
   refine (GX c rC _ h3 _).mono ?_
   rintro e ah ⟨rfl,rfl⟩
   go_wp2_with fail
   refine (GX r pb _ h4 _).mono ?_
   rintro e ah ⟨rfl,rfl⟩
   go_wp2_with fail
   refine (Tw c 64 _ rfl _).mono ?_
   rintro e ah ⟨rfl,rfl⟩
   go_wp2
   go_ret
   exact⟨ep (by simp [lG,h1,h2,h3,h4]),ca _ _⟩
 ·go_in
  go_wp2_with (go_at_call 79;refine (je _ _ _ _ h1 _).mono ?_;rintro e ah ⟨rfl,rfl⟩)
  go_ret
  exact⟨ep (by simp [lG,h2]),ca _ _⟩
theorem AQ (c r:ByteArray) (aG:c.size≤1048576) (bz:r.size≤1048576) (v:Bool) (az:lG c r= v) (w:World):Calls Tryz.prog 60 #[.agg #[c,r]] w fun e ah=>e= .returned v∧Below w w ah:=by
 subst az
 have rC:c.size≤maxLen:=by unfold maxLen;omega
 have pb:r.size≤maxLen:=by unfold maxLen;omega
 by_cases h0:c.size= 0
 ·have Ur:c.toList.isEmpty= true:=by rw [ByteArray.toList_eq];exact List.isEmpty_iff.2 (List.length_eq_zero_iff.1 (by rw [Array.length_toList];exact h0))
  have atw:c.toList= []:=by simpa using Ur
  have vG:=J h0;clear h0
  go_in
  go_wp2
  go_ret
  exact⟨ep (by simp [lG,fc,vG.out]),ca _ _⟩
 ·have Ur:c.toList.isEmpty= false:=by rw [ByteArray.toList_eq];cases h:c.data.toList with
   | nil=>exfalso;apply h0;have:=congrArg List.length h;rw [Array.length_toList] at this;exact this
   | cons _ _=>rfl
  cases h3:jm c && decide ((c.size:Int)≤160)
  ·go_in
   go_wp2_with (go_at_call 108;refine (JS c 160 rC _ h3 _).mono ?_;rintro e ah ⟨rfl,rfl⟩)
   go_ret
   exact⟨ep (by simp only [Bool.and_eq_false_iff,decide_eq_false_iff_not] at h3;rcases h3 with h3 | h3 <;> simp [lG,fc,h3] <;> omega),ca _ _⟩
  cases h4:Bq c 64
  ·go_in
   go_wp2_with fail
   refine (JS c 160 rC _ h3 _).mono ?_
   rintro e ah ⟨rfl,rfl⟩
   go_wp2_with fail
   refine (Xm c 64 rC _ h4 _).mono ?_
   rintro e ah ⟨rfl,rfl⟩
   go_wp2_with fail
   refine (JS r 200 pb _ rfl _).mono ?_
   rintro e ah ⟨rfl,rfl⟩
   go_wp2
   go_ret
   simp only [Bool.and_eq_true,decide_eq_true_eq] at h3
   have e1:fc (c.size:Int) 1 160= true:=rH.2 (by omega)
   exact⟨ep (by cases aR:jm r <;> simp [lG,e1,h3.1,h4,aR] <;> omega),ca _ _⟩
  ·go_in
   go_wp2_with fail
   refine (JS c 160 rC _ h3 _).mono ?_
   rintro e ah ⟨rfl,rfl⟩
   go_wp2_with fail
   refine (Xm c 64 rC _ h4 _).mono ?_
   exact acz
end Go.Proofs.YtlaaemmmbodaaaaGreatDoor
namespace Go.G9
open Go.RowKit
abbrev cw:=List UInt8
def bs (l:cw):ByteArray:=⟨l.toArray⟩
theorem vR (l:cw):(bs l).data.toList= l:=by simp [bs]
theorem Fg (s:ByteArray):bs s.data.toList= s:=yG (vR _)
theorem fX (l:cw):(bs l).size= l.length:=by show l.toArray.size= _;simp
theorem oX (a b:cw):bs a ++ bs b= bs (a ++ b):=yG (by simp [bs])
theorem Tb {a b:cw} (h:bs a= bs b):a= b:=by have:=congrArg (fun s:ByteArray=>s.data.toList) h;simpa [vR] using this
def cT (c:UInt8) (l:cw):cw:=l.takeWhile (fun x=>!(x == c))
def gj (c:UInt8) (l:cw):cw:=(l.dropWhile (fun x=>!(x == c))).drop 1
theorem Fc {c:UInt8} {a b:cw} (h:c ∉ a):cT c (a ++ c ::b)= a:=by
 unfold cT
 rw [List.takeWhile_append_of_pos (fun x ay=>by simp;rintro rfl;exact h ay)]
 simp
theorem SN {c:UInt8} {a b:cw} (h:c ∉ a):gj c (a ++ c ::b)= b:=by
 unfold gj
 rw [List.dropWhile_append_of_pos (fun x ay=>by simp;rintro rfl;exact h ay)]
 simp
theorem IQ {c:UInt8}:∀{a:cw},c ∉ a→cT c a= a
 | [],_=>rfl
 | x ::a,h=>by
  simp only [List.mem_cons,not_or] at h
  have eP:=IQ h.2
  unfold cT at eP ⊢
  have ay:(!(x == c))= true:=by simp;exact fun e=>h.1 e.symm
  simp [ay,eP]
theorem SP {c:UInt8}:∀{a:cw},c ∉ a→gj c a= []
 | [],_=>rfl
 | x ::a,h=>by
  simp only [List.mem_cons,not_or] at h
  have eP:=SP h.2
  unfold gj at eP ⊢
  have ay:(!(x == c))= true:=by simp;exact fun e=>h.1 e.symm
  simp [ay]
  simpa using eP
theorem SX {c:UInt8}:∀(a:cw),c ∉ cT c a
 | []=>by simp [cT]
 | x ::a=>by
  have eP:=SX (c:=c) a
  unfold cT at eP ⊢
  by_cases ay:x= c
  ·simp [ay]
  ·simp [ay,eP,Ne.symm ay]
theorem QA {c:UInt8}:∀{l:cw},c ∈ l→l= cT c l ++ c ::gj c l
 | [],h=>by simp at h
 | x ::l,h=>by
  by_cases ay:x= c
  ·subst ay;simp [cT,gj]
  ·have aT:c ∈ l:=by simpa [Ne.symm ay] using h
   have eP:=QA aT
   have e1:cT c (x ::l)= x ::cT c l:=by simp [cT,ay]
   have e2:gj c (x ::l)= gj c l:=by simp [gj,ay]
   rw [e1,e2,List.cons_append,← eP]
theorem BV (c:UInt8) (l:cw):(cT c l).length≤l.length:=by
 unfold cT;exact (List.takeWhile_sublist _).length_le
theorem SO (c:UInt8) (l:cw):(gj c l).length≤l.length:=by
 unfold gj;exact (List.Sublist.trans (List.drop_sublist _ _) (List.dropWhile_sublist _)).length_le
def jd (c:UInt8) (l:cw):Bool:=l.contains c
theorem Cw {c:UInt8} {l:cw}:jd c l= true↔c ∈ l:=List.contains_iff_mem
theorem FZ {c:UInt8} {l:cw}:jd c l= false↔c ∉ l:=by rw [← Bool.not_eq_true,Cw]
def ph (l:cw):Nat:=l.foldl (fun h c=>(41 * h + c.toNat + 1) % 999979) 7
def rL (n:Int):cw:=Lib.itoa n
def yh (l:cw):cw:=l ++ 35 ::rL (ph l)
def nR (k:Int) (c r:cw):cw:=rL k ++ 32 ::(c ++ 64 ::r)
def fq (k:Int) (c r:cw):cw:=yh (nR k c r)
theorem KP (l:cw):ph l < 999979:=by
 unfold ph
 have:∀(l:cw) (h:Nat),h < 999979→l.foldl (fun h c=>(41 * h + c.toNat + 1) % 999979) h < 999979:=by
  intro l
  induction l with
  | nil=>intro h dM;exact dM
  | cons c l eP=>intro h _;exact eP _ (Nat.mod_lt _ (by omega))
 exact this l 7 (by omega)
theorem agx (u:Nat):∀x ∈ Lib.decDigits u,48≤x.toNat∧x.toNat≤57:=by
 induction u using Nat.strongRecOn with
 | _ u eP=>
  intro x ay
  rw [Lib.decDigits] at ay
  split at ay
  ·simp at ay;subst ay
   rename_i h
   simp;omega
  ·rw [List.mem_append] at ay
   rcases ay with ay | ay
   ·exact eP (u / 10) (by omega) x ay
   ·simp at ay;subst ay
    simp;omega
theorem PF {n:Int} (h:0≤n):rL n= Lib.decDigits n.toNat:=by unfold rL Lib.itoa;rw [if_neg (by omega)]
theorem Ko {n:Int} (h:0≤n) {c:UInt8} (aG:c.toNat < 48):c ∉ rL n:=by
 rw [PF h]
 intro hm
 have:=agx _ _ hm
 omega
theorem anu {n:Int} (h:0≤n) (h2:n < 1000000):(rL n).length≤6:=by
 rw [PF h];exact xT 5 _ (by omega)
theorem Yk {n:Int} (h:0≤n) (h2:n < 100):(rL n).length≤2:=by
 rw [PF h];exact xT 1 _ (by omega)
end Go.G9
namespace Go.Proofs.YtlaaemmmbodaaaaGreatDoor
open Go.RowKit Go.G9
def kD (c r:cw):Bool:=lG (bs c) (bs r)
theorem Df {c r:cw} (h:kD c r= true):1≤c.length∧c.length≤160∧r.length≤200∧(35:UInt8) ∉ c∧(35:UInt8) ∉ r∧(64:UInt8) ∉ c∧(10:UInt8) ∉ c∧(10:UInt8) ∉ r:=by
 simp only [kD,lG,fc,jm,Bq,vR,fX,Bool.and_eq_true,decide_eq_true_eq,Bool.not_eq_true',List.all_eq_true,List.any_eq_false] at h
 obtain⟨⟨h1,h2⟩,h3,h4,h5,h6⟩:=h
 have aR:∀x,oL x= true→x≠35∧x≠10:=by
  intro x ay
  constructor
  ·rintro rfl;simp [oL] at ay
  ·rintro rfl;revert ay;decide
 refine⟨by omega,by omega,by omega,fun hm=>(aR _ (h4 _ hm)).1 rfl,fun hm=>(aR _ (h5 _ hm)).1 rfl,fun hm=>by have:=h6 _ hm;simp at this,fun hm=>(aR _ (h4 _ hm)).2 rfl,fun hm=>(aR _ (h5 _ hm)).2 rfl⟩
theorem IS {k:Int} (ax:0≤k) {c r:cw} (h:kD c r= true):(35:UInt8) ∉ nR k c r∧(10:UInt8) ∉ fq k c r∧cT 35 (fq k c r)= nR k c r∧gj 32 (nR k c r)= c ++ 64 ::r∧cT 64 (c ++ 64 ::r)= c∧gj 64 (c ++ 64 ::r)= r:=by
 obtain⟨_,_,_,h1,h2,h3,h4,h5⟩:=Df h
 have n35:=Ko ax (c:=35) (by decide);have n32:=Ko ax (c:=32) (by decide);have n10:=Ko ax (c:=10) (by decide)
 have aE:(35:UInt8) ∉ nR k c r:=by
  unfold nR;simp [n35,h1,h2]
 have apl:=Ko (n:=(ph (nR k c r):Nat)) (by omega) (c:=10) (by decide)
 refine⟨aE,?_,?_,?_,Fc h3,SN h3⟩
 ·unfold fq yh
  simp only [List.mem_append,List.mem_cons,not_or]
  refine⟨?_,by decide,apl⟩
  unfold nR;simp [n10,h4,h5]
 ·unfold fq yh;exact Fc aE
 ·unfold nR;exact SN n32
theorem Da {k:Int} (ax:0≤k) (lC:k < 100) {c r:cw} (h:kD c r= true):(fq k c r).length≤371:=by
 obtain⟨h1,h2,h3,_⟩:=Df h
 have a:=Yk ax lC;have b:=anu (n:=(ph (nR k c r):Nat)) (by omega) (by have:=KP (nR k c r);omega)
 unfold fq yh
 simp only [List.length_append,List.length_cons]
 unfold nR
 simp only [List.length_append,List.length_cons]
 unfold nR at b
 omega
def sL (line:cw) (k:Nat):Option (cw×cw):=
 let rest:=gj 32 (cT 35 line)
 if kD (cT 64 rest) (gj 64 rest) && decide (fq k (cT 64 rest) (gj 64 rest)= line) then some (cT 64 rest,gj 64 rest) else none
def vm (line:cw) (k:Nat):Option (cw×cw):=
 let text:=cT 35 line;let ahead:=rL k ++ [32]
 if text.take ahead.length= ahead then
  let rest:=text.drop ahead.length;let ask:=cT 64 rest
  if ask.length= rest.length then none
  else if kD ask (rest.drop (ask.length + 1)) && decide (fq k ask (rest.drop (ask.length + 1))= line) then some (ask,rest.drop (ask.length + 1)) else none
 else none
theorem aaZ {p:Prop} (h:p:=by
 split at h
 ·rename_i aG
  simp only [Bool.and_eq_true,decide_eq_true_eq] at aG
  simp only [Option.some.injEq,Prod.mk.injEq] at h
  obtain⟨rfl,rfl⟩:=h
  exact⟨aG.1,aG.2.symm⟩
 ·cases h):p:=h
theorem YM {line:cw} {k:Nat} {c r:cw} (h:sL line k= some (c,r)):kD c r= true∧line= fq k c r:=by
 unfold sL at h
 simp only at h
 exact aaZ
theorem aol {line:cw} {k:Nat} {c r:cw} (h:vm line k= some (c,r)):kD c r= true∧line= fq k c r:=by
 unfold vm at h
 simp only at h
 split at h
 ·split at h
  ·cases h
  ·exact aaZ
 ·cases h
theorem YL {k:Nat} {c r:cw} (h:kD c r= true):sL (fq k c r) k= some (c,r):=by
 obtain⟨_,_,h1,h2,h3,h4⟩:=IS (k:=(k:Int)) (by omega) h
 unfold sL
 simp only [h1,h2,h3,h4,h,decide_true,Bool.and_self,if_true]
theorem aok {k:Nat} {c r:cw} (h:kD c r= true):vm (fq k c r) k= some (c,r):=by
 obtain⟨_,_,h1,_,h3,_⟩:=IS (k:=(k:Int)) (by omega) h
 have e1:nR k c r= (rL k ++ [32]) ++ (c ++ 64 ::r):=by simp [nR]
 unfold vm
 simp only [h1]
 rw [e1,List.take_left' rfl,if_pos rfl,List.drop_left' rfl,h3,if_neg (by simp)]
 have e2:(c ++ 64 ::r).drop (c.length + 1)= r:=by rw [List.drop_append];simp
 rw [e2,h]
 simp
theorem YP (line:cw) (k:Nat):vm line k= sL line k:=by
 cases h:sL line k with
 | some x=>
  obtain⟨c,r⟩:=x
  obtain⟨h1,rfl⟩:=YM h
  exact aok h1
 | none=>
  cases h2:vm line k with
  | none=>rfl
  | some x=>
   obtain⟨c,r⟩:=x
   obtain⟨h3,rfl⟩:=aol h2
   rw [YL h3] at h;cases h
def iW (l:cw) (k:Nat):Option (cw×cw×Nat):=
 if jd 10 l && decide (k < 60) then (sL (cT 10 l) k).map fun x=>(x.1,x.2,(cT 10 l).length + 1) else none
theorem Hv {l:cw} {k:Nat} {c r:cw} {n:Nat} (h:iW l k= some (c,r,n)):k < 60∧kD c r= true∧n= (fq k c r).length + 1∧l= fq k c r ++ 10 ::gj 10 l:=by
 unfold iW at h
 split at h
 ·rename_i aG
  simp only [Bool.and_eq_true,decide_eq_true_eq,Cw] at aG
  cases ay:sL (cT 10 l) k with
  | none=>rw [ay] at h;cases h
  | some x=>
   obtain⟨cO,fS⟩:=x
   rw [ay] at h
   simp only [Option.map_some,Option.some.injEq,Prod.mk.injEq] at h
   obtain⟨rfl,rfl,rfl⟩:=h
   obtain⟨h1,h2⟩:=YM ay
   refine⟨aG.2,h1,by rw [h2],?_⟩
   have:=QA aG.1
   rw [h2] at this
   exact this
 ·cases h
theorem YE {k:Nat} (ax:k < 60) {c r t:cw} (h:kD c r= true):iW (fq k c r ++ 10 ::t) k= some (c,r,(fq k c r).length + 1):=by
 have bd:=(IS (k:=(k:Int)) (by omega) h).2.1
 unfold iW
 rw [Fc bd,YL h,if_pos (by simp [ax,Cw])]
 rfl
theorem Dq {l:cw} {k:Nat} {c r:cw} {n:Nat} (h:iW l k= some (c,r,n)):n≤l.length∧1≤n∧n≤372:=by
 obtain⟨h0,h1,rfl,h2⟩:=Hv h
 have:=Da (k:=(k:Int)) (by omega) (by omega) h1
 refine⟨?_,by omega,by omega⟩
 have e:=congrArg List.length h2
 simp at e;omega
def iC:Nat→Nat→cw→Nat→List (cw×cw×Nat)
 | 0,_,_,_=>[]
 | f + 1,k,l,a=>match iW l k with
  | none=>[]
  | some (c,r,n)=>(c,r,a + n) ::iC f (k + 1) (l.drop n) (a + n)
def hW (l:cw):List (cw×cw×Nat):=iC 61 0 l 0
end Go.Proofs.YtlaaemmmbodaaaaGreatDoor
namespace Go.G9
open Go.RowKit
theorem WQ (c:UInt8) (l:cw):-1≤Lib.indexByte l c:=(Go.Proofs.YtlaaemmmbodaaaaGreatDoor.indexByte_ge c l).1
theorem WS {c:UInt8}:∀(l:cw),0≤Lib.indexByte l c→∃i:Nat,Lib.indexByte l c= i∧i < l.length∧cT c l= l.take i∧gj c l= l.drop (i + 1)
 | [],h=>by simp [Lib.indexByte] at h
 | b ::l,h=>by
  unfold Lib.indexByte at h ⊢
  by_cases aE:b == c
  ·refine⟨0,by simp [aE],by simp,?_,?_⟩
   ·simp [cT,aE]
   ·simp [gj,aE]
  ·by_cases h2:Lib.indexByte l c= -1
   ·simp [aE,h2] at h
   ·have h3:-1≤Lib.indexByte l c:=WQ c l
    obtain⟨i,e,hi,e1,e2⟩:=WS (c:=c) l (by omega)
    refine⟨i + 1,by simp [aE,h2];omega,by simp;omega,?_,?_⟩
    ·have:cT c (b ::l)= b ::cT c l:=by simp [cT,aE]
     rw [this,e1];simp
    ·have:gj c (b ::l)= gj c l:=by simp [gj,aE]
     rw [this,e2];simp
theorem WR {c:UInt8}:∀(l:cw),Lib.indexByte l c < 0→c ∉ l
 | [],_=>by simp
 | b ::l,h=>by
  unfold Lib.indexByte at h
  by_cases aE:b == c
  ·simp [aE] at h
  ·have h3:=WQ c l
   by_cases h2:Lib.indexByte l c= -1
   ·have:=WR (c:=c) l (by omega)
    simp at aE
    simp [this,Ne.symm aE]
   ·simp [aE,h2] at h;omega
theorem vQ (l:cw) (a b:Nat):(bs l).extract a b= bs ((l.drop a).take (b - a)):=yG (by
 rw [vR]
 show ((⟨l.toArray⟩ :ByteArray).extract a b).data.toList= _
 simp [ByteArray.extract,ByteArray.copySlice,List.take_drop])
end Go.G9
namespace Go.Proofs.YtlaaemmmbodaaaaGreatDoor
open Go.RowKit Go.G9
theorem Zj (l:cw) (c:UInt8) (w:World):Calls Tryz.prog 246 #[.string (bs l),.string ⟨#[c]⟩] w fun e ah=>e= .returned (.int .i64 (Lib.indexByte l c))∧ah= w:=by
 have:=Zi (bs l) c w
 rwa [vR] at this
theorem apA (l:cw) (c:UInt8) (aT:l.length≤1073741824) (w:World):Calls Tryz.prog 273 #[.string (bs l),.string ⟨#[c]⟩] w fun e ah=>e= .returned (.tuple #[.string (bs (cT c l)),.string (bs (gj c l)),.bool (jd c l)])∧Below w w ah:=by
 by_cases aG:0≤Lib.indexByte l c
 ·obtain⟨i,e,bn,e1,e2⟩:=WS (c:=c) l aG
  have hm:jd c l= true:=by
   rw [Cw]
   refine Classical.byContradiction fun bd=>?_
   have:=IQ bd
   rw [e1] at this
   have:=congrArg List.length this
   simp at this;omega
  have dY:(bs l).extract 0 i= bs (cT c l):=by rw [vQ,e1];simp
  have dV:(bs l).extract (i + 1) (bs l).size= bs (gj c l):=by rw [vQ,e2,fX,List.take_of_length_le (by simp)]
  have dQ:=J hm;have ff:=J dY;have fw:=J dV;clear hm e1 e2 dY dV
  have hi:∀W,Calls Tryz.prog 246 #[.string (bs l),.string ⟨#[c]⟩] W fun e ah=>e= .returned i∧ah= W:=fun W=>by
   have:=Zj l c W
   rwa [e] at this
  have hP:=J hi;clear hi e aG;have aZ:=fX l
  have xA:i≤(bs l).size:=by omega
  have CN:i + 1≤(bs l).size:=by omega
  have ajL:(bs l).size≤1073741824:=by omega
  clear aZ;have hw:IntKind.i64.wrap ((i:Int) + 1)= (i:Int) + 1:=IntWalk.i64_in _ (by omega)
  go_in
  go_wp2_with fail
  refine (hP.out _).mono ?_
  rintro e _ ⟨rfl,rfl⟩
  go_wp2
  refine eC (by kernel_rfl) (by kernel_rfl) ?_
  repeat (go_big_quiet_step ((fail)))
  refine wpQuiet_nil ?_
  intro K
  go_wp2
  go_ret3
  exact⟨by rw [dQ.out,← ff.out,← fw.out];rfl,K.U⟩
 ·have bd:=WR (c:=c) l (by omega)
  have hm:jd c l= false:=FZ.2 bd;have dY:=IQ bd;have dV:=SP bd;have dQ:=J hm;have ff:=J dY;have fw:=J dV;clear hm dY dV bd
  have OA:Lib.indexByte l c < 0:=by omega
  clear aG
  go_in
  go_wp2_with fail
  refine (Zj l c _).mono ?_
  rintro e _ ⟨rfl,rfl⟩
  go_wp2
  go_ret3
  exact⟨by rw [dQ.out,ff.out,fw.out];rfl,Below.refl _ _⟩
theorem qc (l:cw) (c:UInt8) (aT:l.length≤1073741824) (w:World):Calls Tryz.prog 205 #[.string (bs l),.string ⟨#[c]⟩] w fun e ah=>e= .returned (.tuple #[.string (bs (cT c l)),.string (bs (gj c l)),.bool (jd c l)])∧Below w w ah:=by
 go_in
 go_wp2_with fail
 refine (apA l c aT _).mono ?_
 rintro e bg ⟨rfl,bE⟩
 have av:=be w bE;have I:Below w w bg:=av
 go_wp2
 go_ret3
 exact⟨rfl,(ai I aw)⟩
theorem aqT (l:cw) (k:Nat) (h:k < l.length):ph (l.take (k + 1))= (41 * ph (l.take k) + (l[k]).toNat + 1) % 999979:=by
 unfold ph
 rw [List.take_succ_eq_append_getElem h,List.foldl_append]
 rfl
theorem Ff (l:cw) (k:Nat) (h:k < (bs l).size):(bs l)[k]= l[k]'(by rw [fX] at h;exact h):=by
 show (bs l).data[k]'(h)= _
 simp [bs]
theorem abB {p:Prop} (h:p:=by
 have aZ:=fX l
 have xA:(bs l).size≤1073741824:=by omega
 have dW:=J aZ;clear aZ
 go_in
 go_wp2
 go_loop [3,4] (fun h i=>∃(k:Nat) (q:Int),k≤(bs l).size∧i= .int .i64 k∧h= .int .i64 q∧q= (ph (l.take k):Nat)) (fun _ i=>(bs l).size - (intOf i).toNat)
 case atStart=>exact⟨0,7,Nat.zero_le _,rfl,rfl,rfl⟩
 case round=>
  obtain⟨k,q,ax,rfl,rfl,bf⟩:=hrel
  have ao:=KP (l.take k)
  have aL:0≤q:=by omega
  have bV:q < 999979:=by omega
  have dc:=J bf;clear bf ao
  by_cases bn:k < (bs l).size
  ·have aE:(bs l)[k].toNat < 256:=(bs l)[k].toNat_lt
   have aG:((bs l)[k].toNat:Int) < 256:=by omega
   have iM:((41 * q + ((bs l)[k].toNat:Int) + 1) % 999979:Int)= (ph (l.take (k + 1)):Nat):=by
    rw [aqT l k (by rw [← dW.out];exact bn),dc.out,Ff]
    omega
   have bP:=J iM;clear iM
   go_wp2
   go_round
   case rel=>exact⟨k + 1,_,by omega,by go_num,rfl,bP.out⟩
   case measure=>simp [intOf];omega
  ·obtain rfl:k= (bs l).size:=by omega
   go_wp2
   go_ret
   have:=dc.out
   rw [dW.out,List.take_length] at this
   exact⟨wy this,rfl⟩):p:=h
theorem agk (l:cw) (aT:l.length≤1073741824) (w:World):Calls Tryz.prog 263 #[.string (bs l)] w fun e ah=>e= .returned (.int .i64 (ph l:Nat))∧ah= w:=by
 exact abB
theorem Yl (n:Int):eT n= bs (rL n):=rfl
theorem Ta {k:Int} (ax:0≤k) (lC:k < 100) {c r:cw} (h:kD c r= true):(nR k c r).length≤364:=by
 obtain⟨h1,h2,h3,_⟩:=Df h
 have a:=Yk ax lC
 unfold nR
 simp only [List.length_append,List.length_cons]
 omega
theorem acx {p:Prop} (h:p:=by
 rw [Yl,show (⟨#[35]⟩ :ByteArray)= bs [35] from rfl,oX,oX];simp [yh]):p:=h
theorem afL (l:cw) (aT:l.length≤3000) (bd:(35:UInt8) ∉ l) (w:World) (dt:lf w):Calls Tryz.prog 182 #[.string (bs l)] w fun e ah=>e= .returned (.tuple #[.string (bs (yh l)),true])∧Below w w ah:=by
 have iM:Bq (bs l) 35= false:=by
  unfold Bq;rw [vR,List.any_eq_false];intro x ay;simp;rintro rfl;exact bd ay
 have xA:(bs l).size≤3000:=by rw [fX];exact aT
 have bf:=KP l;have hm:=xY (ph l:Nat) (by omega)
 have uF:(bs l ++⟨#[35]⟩) ++ eT (ph l:Nat)= bs (yh l):=by
  exact acx
 have jx:=J uF;clear uF bd
 go_in
 go_wp2_with fail
 refine (Tw (bs l) 35 _ iM _).mono ?_
 rintro e _ ⟨rfl,rfl⟩
 go_wp2_with fail
 refine (agk l (by omega) _).mono ?_
 rintro e _ ⟨rfl,rfl⟩
 go_wp2_with fail
 refine (AN (ph l:Nat) (by omega) (by omega) _ dt).mono ?_
 rintro e bg ⟨rfl,bE⟩
 go_wp2
 go_ret2
 exact⟨by rw [← jx.out];rfl,bE⟩
theorem abu {p:Prop} (h:p:=by
 rw [Yl,show (⟨#[32]⟩ :ByteArray)= bs [32] from rfl,show (⟨#[64]⟩ :ByteArray)= bs [64] from rfl,oX,oX,oX,oX];simp [nR]):p:=h
theorem acm {p:Prop} (h:p:=by
 refine wpQuiet_nil ?_
 intro K
 go_wp2
 go_ret
 exact⟨by rw [← jx.out];rfl,ai (ca _ _) K.U⟩):p:=h
theorem TX (k:Int) (ax:0≤k) (lC:k < 100) (c r:cw) (h:kD c r= true) (w:World) (dt:lf w):Calls Tryz.prog 105 #[k,.agg #[.string (bs c),.string (bs r)]] w fun e ah=>e= .returned (.string (bs (fq k c r ++ [10])))∧Below w w ah:=by
 obtain⟨au,c2,c3,_⟩:=Df h
 have dU:=Ta ax lC h;have bd:=(IS ax h).1
 have e1:eT k ++⟨#[32]⟩ ++ bs c ++⟨#[64]⟩ ++ bs r= bs (nR k c r):=by
  exact abu
 have aU:∀W,lf W→Calls Tryz.prog 182 #[.string (eT k ++⟨#[32]⟩ ++ bs c ++⟨#[64]⟩ ++ bs r)] W fun e ah=>e= .returned (.tuple #[.string (bs (fq k c r)),true])∧Below W W ah:=fun W bK=>by
  rw [e1];exact afL _ (by omega) bd W bK
 have aT:=Da ax lC h
 have s1:(bs c).size≤160:=by rw [fX];exact c2
 have s2:(bs r).size≤200:=by rw [fX];exact c3
 have pS:(bs (fq k c r)).size≤371:=by rw [fX];exact aT
 have Dt:=xY k (by omega);have uF:bs (fq k c r) ++⟨#[10]⟩ =bs (fq k c r ++ [10]):=oX _ _;have lV:=J aU;have jx:=J uF;clear aU uF e1 bd dU h;have bP:=J (dt.U (ca w (.cells #[.string (bs c),.string (bs r)] 56)));have eb:=boxed w #[.string (bs c),.string (bs r)] 56 0 (.string (bs c)) rfl;have ds:=boxed w #[.string (bs c),.string (bs r)] 56 1 (.string (bs r)) rfl
 go_in
 go_wp2
 refine eC (by kernel_rfl) (by kernel_rfl) ?_
 repeat (go_big_quiet_step ((first
  | (go_at_call 70;exact aB.call _ (by first | exact Nat.le_refl _ | omega) (AN _ (by omega) (by omega) _ (bP.out.U (aB.U _))))
  | (go_at_call 182;exact aB.call _ (by first | exact Nat.le_refl _ | omega) (lV.out _ (bP.out.U (aB.U _)))))))
 exact acm
def jF (l:cw) (k:Nat):Value:=match iW l k with
 | some (c,r,n)=> .tuple #[.agg #[.string (bs c),.string (bs r)],.int .i64 n,.bool true]
 | none=> .tuple #[.agg #[.string (bs []),.string (bs [])],.int .i64 0,.bool false]
theorem aoj (l:cw) (k:Nat) (dM:jd 10 l= true) (ax:k < 60) (line cmd rep:cw) (h1:cT 10 l= line) (h2:cT 64 (gj 32 (cT 35 line))= cmd) (h3:gj 64 (gj 32 (cT 35 line))= rep):
  jF l k= if kD cmd rep && decide (fq k cmd rep= line) then .tuple #[.agg #[.string (bs cmd),.string (bs rep)],.int .i64 (line.length + 1:Nat),true] else .tuple #[.agg #[.string (bs []),.string (bs [])],(0:Int),false]:=by
 subst h1 h2 h3
 unfold jF iW
 rw [dM,if_pos (by simp [ax])]
 unfold sL
 simp only
 generalize (kD (cT 64 (gj 32 (cT 35 (cT 10 l)))) (gj 64 (gj 32 (cT 35 (cT 10 l)))) && decide (fq k (cT 64 (gj 32 (cT 35 (cT 10 l)))) (gj 64 (gj 32 (cT 35 (cT 10 l))))= cT 10 l))= b
 cases b <;> rfl
theorem aoA (l:cw) (aT:l.length≤1048576) (k:Nat) (ax:k≤60) (v:Value) (az:jF l k= v) (w:World) (dt:lf w):Calls Tryz.prog 125 #[.string (bs l),k] w fun e ah=>e= .returned v∧Below w w ah:=by
 subst az
 have g1:=BV 10 l;have g2:=BV 35 (cT 10 l);have g3:=SO 32 (cT 35 (cT 10 l))
 cases dM:jd 10 l
 ·have dd:jF l k= .tuple #[.agg #[.string (bs []),.string (bs [])],(0:Int),false]:=by simp [jF,iW,dM]
  have dp:=J dd;clear dd
  go_in
  go_wp2_with fail
  refine (qc l 10 (by omega) _).mono ?_
  rintro e bg ⟨rfl,bE⟩
  have av:=be w bE;have I:Below w w bg:=av;have ae:aC bg (w.heap.size) 56 #[.string ⟨#[]⟩,.string ⟨#[]⟩]:=aC.ey bE;have z0:=(ae.cell 0).trans (show _= some (.string ⟨#[]⟩) from rfl);have ch:=(ae.cell 1).trans (show _= some (.string ⟨#[]⟩) from rfl)
  go_wp2_with fail
  refine (qc (cT 10 l) 35 (by omega) _).mono ?_
  rintro e aQ ⟨rfl,aP⟩
  have ao:=be bg aP;replace I:=ai I ao;replace ae:=ae.to ao;replace z0:=(ae.cell 0).trans (show _= some (.string ⟨#[]⟩) from rfl);replace ch:=(ae.cell 1).trans (show _= some (.string ⟨#[]⟩) from rfl)
  go_wp2_with fail
  refine (qc (cT 35 (cT 10 l)) 32 (by omega) _).mono ?_
  rintro e bA ⟨rfl,bC⟩
  have aL:=be aQ bC;replace I:=ai I aL;replace ae:=ae.to aL;replace z0:=(ae.cell 0).trans (show _= some (.string ⟨#[]⟩) from rfl);replace ch:=(ae.cell 1).trans (show _= some (.string ⟨#[]⟩) from rfl)
  go_wp2_with fail
  refine (qc (gj 32 (cT 35 (cT 10 l))) 64 (by omega) _).mono ?_
  rintro e cf ⟨rfl,cZ⟩
  have bV:=be bA cZ;replace I:=ai I bV;replace ae:=ae.to bV;replace z0:=(ae.cell 0).trans (show _= some (.string ⟨#[]⟩) from rfl);replace ch:=(ae.cell 1).trans (show _= some (.string ⟨#[]⟩) from rfl)
  have mQ:=ae.xl;have rX:=ae.lt;have aj:=((ae.gI 0 (.string ⟨#[]⟩)).gI 1 (.string ⟨#[]⟩)).alloc (.cells #[.string (bs (cT 64 (gj 32 (cT 35 (cT 10 l))))),.string (bs (gj 64 (gj 32 (cT 35 (cT 10 l)))))] 56);have fS:=aj.mv
  go_wp2
  refine bodyPost_ret (v:= .tuple #[.agg #[.string ⟨#[]⟩,.string ⟨#[]⟩],(0:Int),false]) (by simp [results,Tryz.results125,go_sem,fS]) rfl ?_
  exact⟨by rw [dp.out];rfl,(by repeat (first | exact I | exact Below.refl _ _ | refine Below.alloc ?_ (by first | exact Nat.le_refl _ | (have eW:=I.size;simp;omega) | (simp <;> omega)) _ | refine Below.setCell ?_ (by first | exact Nat.le_refl _ | (simp <;> omega)) _))⟩
 by_cases lC:k < 60
 case neg=>
  have dd:jF l k= .tuple #[.agg #[.string (bs []),.string (bs [])],(0:Int),false]:=by simp [jF,iW,lC]
  have dp:=J dd;clear dd
  have ajl:60≤k:=by omega
  clear lC
  go_in
  go_wp2_with fail
  refine (qc l 10 (by omega) _).mono ?_
  rintro e bg ⟨rfl,bE⟩
  have av:=be w bE;have I:Below w w bg:=av;have ae:aC bg (w.heap.size) 56 #[.string ⟨#[]⟩,.string ⟨#[]⟩]:=aC.ey bE;have z0:=(ae.cell 0).trans (show _= some (.string ⟨#[]⟩) from rfl);have ch:=(ae.cell 1).trans (show _= some (.string ⟨#[]⟩) from rfl)
  go_wp2_with fail
  refine (qc (cT 10 l) 35 (by omega) _).mono ?_
  rintro e aQ ⟨rfl,aP⟩
  have ao:=be bg aP;replace I:=ai I ao;replace ae:=ae.to ao;replace z0:=(ae.cell 0).trans (show _= some (.string ⟨#[]⟩) from rfl);replace ch:=(ae.cell 1).trans (show _= some (.string ⟨#[]⟩) from rfl)
  go_wp2_with fail
  refine (qc (cT 35 (cT 10 l)) 32 (by omega) _).mono ?_
  rintro e bA ⟨rfl,bC⟩
  have aL:=be aQ bC;replace I:=ai I aL;replace ae:=ae.to aL;replace z0:=(ae.cell 0).trans (show _= some (.string ⟨#[]⟩) from rfl);replace ch:=(ae.cell 1).trans (show _= some (.string ⟨#[]⟩) from rfl)
  go_wp2_with fail
  refine (qc (gj 32 (cT 35 (cT 10 l))) 64 (by omega) _).mono ?_
  rintro e cf ⟨rfl,cZ⟩
  have bV:=be bA cZ;replace I:=ai I bV;replace ae:=ae.to bV;replace z0:=(ae.cell 0).trans (show _= some (.string ⟨#[]⟩) from rfl);replace ch:=(ae.cell 1).trans (show _= some (.string ⟨#[]⟩) from rfl)
  have mQ:=ae.xl;have rX:=ae.lt;have aj:=((ae.gI 0 (.string ⟨#[]⟩)).gI 1 (.string ⟨#[]⟩)).alloc (.cells #[.string (bs (cT 64 (gj 32 (cT 35 (cT 10 l))))),.string (bs (gj 64 (gj 32 (cT 35 (cT 10 l)))))] 56);have fS:=aj.mv
  go_wp2
  refine bodyPost_ret (v:= .tuple #[.agg #[.string ⟨#[]⟩,.string ⟨#[]⟩],(0:Int),false]) (by simp [results,Tryz.results125,go_sem,fS]) rfl ?_
  exact⟨by rw [dp.out];rfl,(by repeat (first | exact I | exact Below.refl _ _ | refine Below.alloc ?_ (by first | exact Nat.le_refl _ | (have eW:=I.size;simp;omega) | (simp <;> omega)) _ | refine Below.setCell ?_ (by first | exact Nat.le_refl _ | (simp <;> omega)) _))⟩
 have g4:=BV 64 (gj 32 (cT 35 (cT 10 l)));have g5:=SO 64 (gj 32 (cT 35 (cT 10 l)));have uL:=aoj l k dM lC _ _ _ rfl rfl rfl
 generalize NW:cT 64 (gj 32 (cT 35 (cT 10 l)))= cmd at *
 generalize AB:gj 64 (gj 32 (cT 35 (cT 10 l)))= rep at *
 generalize Ot:cT 10 l= line at *
 have hcut:∀W,Calls Tryz.prog 205 #[.string (bs (gj 32 (cT 35 line))),.string ⟨#[64]⟩] W fun e ah=>e= .returned (.tuple #[.string (bs cmd),.string (bs rep),.bool (jd 64 (gj 32 (cT 35 line)))])∧Below W W ah:=fun W=>by
  have:=qc (gj 32 (cT 35 line)) 64 (by omega) W
  rwa [NW,AB] at this
 have Vr:∀W,Calls Tryz.prog 205 #[.string (bs l),.string ⟨#[10]⟩] W fun e ah=>e= .returned (.tuple #[.string (bs line),.string (bs (gj 10 l)),true])∧Below W W ah:=fun W=>by
  have:=qc l 10 (by omega) W
  rwa [Ot,dM] at this
 have Lz:=J hcut;have LA:=J Vr;have Ij:=J Ot;have aso:=J NW;have BJ:=J AB;have mo:=J dM;clear Ot NW AB hcut Vr dM
 have s1:(bs cmd).size≤1048576:=by rw [fX];omega
 have s2:(bs rep).size≤1048576:=by rw [fX];omega
 cases gd:kD cmd rep
 ·rw [gd] at uL
  have dd:jF l k= .tuple #[.agg #[.string (bs []),.string (bs [])],(0:Int),false]:=by rw [uL];rfl
  have dp:=J dd;have iu:=J gd;clear dd uL gd
  go_in
  go_wp2_with fail
  refine (LA.out _).mono ?_
  rintro e bg ⟨rfl,bE⟩
  have av:=be w bE;have I:Below w w bg:=av;have ae:aC bg (w.heap.size) 56 #[.string ⟨#[]⟩,.string ⟨#[]⟩]:=aC.ey bE;have z0:=(ae.cell 0).trans (show _= some (.string ⟨#[]⟩) from rfl);have ch:=(ae.cell 1).trans (show _= some (.string ⟨#[]⟩) from rfl)
  go_wp2_with fail
  refine (qc line 35 (by omega) _).mono ?_
  rintro e aQ ⟨rfl,aP⟩
  have ao:=be bg aP;replace I:=ai I ao;replace ae:=ae.to ao;replace z0:=(ae.cell 0).trans (show _= some (.string ⟨#[]⟩) from rfl);replace ch:=(ae.cell 1).trans (show _= some (.string ⟨#[]⟩) from rfl)
  go_wp2_with fail
  refine (qc (cT 35 line) 32 (by omega) _).mono ?_
  rintro e bA ⟨rfl,bC⟩
  have aL:=be aQ bC;replace I:=ai I aL;replace ae:=ae.to aL;replace z0:=(ae.cell 0).trans (show _= some (.string ⟨#[]⟩) from rfl);replace ch:=(ae.cell 1).trans (show _= some (.string ⟨#[]⟩) from rfl)
  go_wp2_with fail
  refine (Lz.out _).mono ?_
  rintro e cf ⟨rfl,cZ⟩
  have bV:=be bA cZ;replace I:=ai I bV;replace ae:=ae.to bV;replace z0:=(ae.cell 0).trans (show _= some (.string ⟨#[]⟩) from rfl);replace ch:=(ae.cell 1).trans (show _= some (.string ⟨#[]⟩) from rfl)
  go_wp2_with fail
  refine (xO (bs cmd) (bs rep) s1 s2 _ iu.out _).mono ?_
  rintro e dE ⟨rfl,ek⟩
  have cG:=be cf ek;replace I:=ai I cG;replace ae:=ae.to cG;replace z0:=(ae.cell 0).trans (show _= some (.string ⟨#[]⟩) from rfl);replace ch:=(ae.cell 1).trans (show _= some (.string ⟨#[]⟩) from rfl)
  have mQ:=ae.xl;have rX:=ae.lt;have aj:=((ae.gI 0 (.string ⟨#[]⟩)).gI 1 (.string ⟨#[]⟩));have fS:=aj.mv
  go_wp2
  refine bodyPost_ret (v:= .tuple #[.agg #[.string ⟨#[]⟩,.string ⟨#[]⟩],(0:Int),false]) (by simp [results,Tryz.results125,go_sem,fS]) rfl ?_
  exact⟨by rw [dp.out];rfl,(by repeat (first | exact I | exact Below.refl _ _ | refine Below.alloc ?_ (by first | exact Nat.le_refl _ | (have eW:=I.size;simp;omega) | (simp <;> omega)) _ | refine Below.setCell ?_ (by first | exact Nat.le_refl _ | (simp <;> omega)) _))⟩
 ·rw [gd] at uL
  obtain⟨au,c2,c3,_⟩:=Df gd
  have hlen:=Da (k:=(k:Int)) (by omega) (by omega) gd
  have pS:(bs line).size≤1048576:=by rw [fX];omega
  have BE:=J (fX line)
  have VC:∀W,lf W→Calls Tryz.prog 105 #[k,.agg #[.string (bs cmd),.string (bs rep)]] W fun e ah=>e= .returned (.string (bs (fq k cmd rep ++ [10])))∧Below W W ah:=fun W bK=>TX k (by omega) (by omega) cmd rep gd W bK
  have Sc:=J VC;clear VC
  by_cases heq:fq k cmd rep= line
  ·have dd:jF l k= .tuple #[.agg #[.string (bs cmd),.string (bs rep)],.int .i64 (line.length + 1:Nat),true]:=by rw [uL,heq];simp
   have yU:∀W,lf W→Calls Tryz.prog 105 #[k,.agg #[.string (bs cmd),.string (bs rep)]] W fun e ah=>e= .returned (.string (bs line ++⟨#[10]⟩))∧Below W W ah:=fun W bK=>by
    have:=Sc.out W bK
    rwa [heq,← oX] at this
   have dp:=J dd;have iu:=J gd;have dc:=J yU;clear dd uL gd heq yU
   go_in
   go_wp2_with fail
   refine (LA.out _).mono ?_
   rintro e bg ⟨rfl,bE⟩
   have av:=be w bE;have I:Below w w bg:=av;have ae:aC bg (w.heap.size) 56 #[.string ⟨#[]⟩,.string ⟨#[]⟩]:=aC.ey bE;have z0:=(ae.cell 0).trans (show _= some (.string ⟨#[]⟩) from rfl);have ch:=(ae.cell 1).trans (show _= some (.string ⟨#[]⟩) from rfl)
   go_wp2_with fail
   refine (qc line 35 (by omega) _).mono ?_
   rintro e aQ ⟨rfl,aP⟩
   have ao:=be bg aP;replace I:=ai I ao;replace ae:=ae.to ao;replace z0:=(ae.cell 0).trans (show _= some (.string ⟨#[]⟩) from rfl);replace ch:=(ae.cell 1).trans (show _= some (.string ⟨#[]⟩) from rfl)
   go_wp2_with fail
   refine (qc (cT 35 line) 32 (by omega) _).mono ?_
   rintro e bA ⟨rfl,bC⟩
   have aL:=be aQ bC;replace I:=ai I aL;replace ae:=ae.to aL;replace z0:=(ae.cell 0).trans (show _= some (.string ⟨#[]⟩) from rfl);replace ch:=(ae.cell 1).trans (show _= some (.string ⟨#[]⟩) from rfl)
   go_wp2_with fail
   refine (Lz.out _).mono ?_
   rintro e cf ⟨rfl,cZ⟩
   have bV:=be bA cZ;replace I:=ai I bV;replace ae:=ae.to bV;replace z0:=(ae.cell 0).trans (show _= some (.string ⟨#[]⟩) from rfl);replace ch:=(ae.cell 1).trans (show _= some (.string ⟨#[]⟩) from rfl)
   go_wp2_with fail
   refine (xO (bs cmd) (bs rep) s1 s2 _ iu.out _).mono ?_
   rintro e dE ⟨rfl,ek⟩
   have cG:=be cf ek;replace I:=ai I cG;replace ae:=ae.to cG;replace z0:=(ae.cell 0).trans (show _= some (.string ⟨#[]⟩) from rfl);replace ch:=(ae.cell 1).trans (show _= some (.string ⟨#[]⟩) from rfl);have eJ:aC dE (cf.heap.size) 56 #[.string (bs cmd),.string (bs rep)]:=aC.ey ek
   have gy:=eJ.mv
   go_wp2_with fail
   refine (dc.out _ (dt.U I)).mono ?_
   rintro e hX ⟨rfl,pE⟩
   have fb:=be dE pE;replace I:=ai I fb;replace ae:=ae.to fb;replace z0:=(ae.cell 0).trans (show _= some (.string ⟨#[]⟩) from rfl);replace ch:=(ae.cell 1).trans (show _= some (.string ⟨#[]⟩) from rfl);replace eJ:=eJ.to fb;clear gy;have gy:=eJ.mv;have mQ:=ae.xl;have rX:=ae.lt;have ash:=eJ.lt;have aj:=((ae.gI 0 (.string (bs cmd))).gI 1 (.string (bs rep)))
   have fS:=aj.mv
   go_wp2
   refine bodyPost_ret (v:= .tuple #[.agg #[.string (bs cmd),.string (bs rep)],.int .i64 ((bs line).size + 1),true]) (by simp [results,Tryz.results125,go_sem,fS]) rfl ?_
   exact⟨by rw [dp.out,BE.out];rfl,(by repeat (first | exact I | exact Below.refl _ _ | refine Below.alloc ?_ (by first | exact Nat.le_refl _ | (have eW:=I.size;simp;omega) | (simp <;> omega)) _ | refine Below.setCell ?_ (by first | exact Nat.le_refl _ | (simp <;> omega)) _))⟩
  ·have dd:jF l k= .tuple #[.agg #[.string (bs []),.string (bs [])],(0:Int),false]:=by rw [uL];simp [heq]
   have eg:¬(bs (fq k cmd rep ++ [10])).toList= (bs line ++⟨#[10]⟩).toList:=by
    intro h
    rw [ByteArray.toList_eq,ByteArray.toList_eq,show (⟨#[10]⟩ :ByteArray)= bs [10] from rfl,oX,vR,vR] at h
    exact heq (List.append_cancel_right h)
   have atV:((bs (fq k cmd rep ++ [10])).toList == (bs line ++⟨#[10]⟩).toList)= false:=beq_eq_false_iff_ne.2 eg;clear eg
   have Dt:(bs (fq k cmd rep ++ [10])).size≤1048576:=by rw [fX];simp;omega
   have dp:=J dd;have iu:=J gd;clear dd uL gd heq
   go_in
   go_wp2_with fail
   refine (LA.out _).mono ?_
   rintro e bg ⟨rfl,bE⟩
   have av:=be w bE;have I:Below w w bg:=av;have ae:aC bg (w.heap.size) 56 #[.string ⟨#[]⟩,.string ⟨#[]⟩]:=aC.ey bE;have z0:=(ae.cell 0).trans (show _= some (.string ⟨#[]⟩) from rfl);have ch:=(ae.cell 1).trans (show _= some (.string ⟨#[]⟩) from rfl)
   go_wp2_with fail
   refine (qc line 35 (by omega) _).mono ?_
   rintro e aQ ⟨rfl,aP⟩
   have ao:=be bg aP;replace I:=ai I ao;replace ae:=ae.to ao;replace z0:=(ae.cell 0).trans (show _= some (.string ⟨#[]⟩) from rfl);replace ch:=(ae.cell 1).trans (show _= some (.string ⟨#[]⟩) from rfl)
   go_wp2_with fail
   refine (qc (cT 35 line) 32 (by omega) _).mono ?_
   rintro e bA ⟨rfl,bC⟩
   have aL:=be aQ bC;replace I:=ai I aL;replace ae:=ae.to aL;replace z0:=(ae.cell 0).trans (show _= some (.string ⟨#[]⟩) from rfl);replace ch:=(ae.cell 1).trans (show _= some (.string ⟨#[]⟩) from rfl)
   go_wp2_with fail
   refine (Lz.out _).mono ?_
   rintro e cf ⟨rfl,cZ⟩
   have bV:=be bA cZ;replace I:=ai I bV;replace ae:=ae.to bV;replace z0:=(ae.cell 0).trans (show _= some (.string ⟨#[]⟩) from rfl);replace ch:=(ae.cell 1).trans (show _= some (.string ⟨#[]⟩) from rfl)
   go_wp2_with fail
   refine (xO (bs cmd) (bs rep) s1 s2 _ iu.out _).mono ?_
   rintro e dE ⟨rfl,ek⟩
   have cG:=be cf ek;replace I:=ai I cG;replace ae:=ae.to cG;replace z0:=(ae.cell 0).trans (show _= some (.string ⟨#[]⟩) from rfl);replace ch:=(ae.cell 1).trans (show _= some (.string ⟨#[]⟩) from rfl);have eJ:aC dE (cf.heap.size) 56 #[.string (bs cmd),.string (bs rep)]:=aC.ey ek
   have gy:=eJ.mv
   go_wp2_with fail
   refine (Sc.out _ (dt.U I)).mono ?_
   rintro e hX ⟨rfl,pE⟩
   have fb:=be dE pE;replace I:=ai I fb;replace ae:=ae.to fb;replace z0:=(ae.cell 0).trans (show _= some (.string ⟨#[]⟩) from rfl);replace ch:=(ae.cell 1).trans (show _= some (.string ⟨#[]⟩) from rfl);replace eJ:=eJ.to fb;clear gy;have gy:=eJ.mv
   have mQ:=ae.xl;have rX:=ae.lt;have ash:=eJ.lt;have aj:=((ae.gI 0 (.string ⟨#[]⟩)).gI 1 (.string ⟨#[]⟩));have fS:=aj.mv
   go_wp2
   refine bodyPost_ret (v:= .tuple #[.agg #[.string ⟨#[]⟩,.string ⟨#[]⟩],(0:Int),false]) (by simp [results,Tryz.results125,go_sem,fS]) rfl ?_
   exact⟨by rw [dp.out];rfl,(by repeat (first | exact I | exact Below.refl _ _ | refine Below.alloc ?_ (by first | exact Nat.le_refl _ | (have eW:=I.size;simp;omega) | (simp <;> omega)) _ | refine Below.setCell ?_ (by first | exact Nat.le_refl _ | (simp <;> omega)) _))⟩
open Go.RowKit Go.G9
structure fV where
 cmd:ByteArray
 rep:ByteArray
def fV.cells (x:fV):List Value:=[.string x.cmd,.string x.rep]
theorem fV.BY (y:fV):y.cells.length= 2:=rfl
theorem fV.cells_one (y:fV) (u:Value) (h:u ∈ y.cells):u.oneCell'= true:=by simp [fV.cells] at h;rcases h with rfl | rfl <;> rfl
def qy (x:cw×cw×Nat):fV:=⟨bs x.1,bs x.2.1⟩
def wZ (x:cw×cw×Nat):Int:=(x.2.2:Nat)
def iD (l:cw):List fV:=(hW l).map qy
def nS (l:cw):List Int:=0 ::(hW l).map wZ
theorem VB (w:World) (a b:Obj):((w.alloc a).alloc b).heap.size= w.heap.size + 2:=by simp
theorem YI:∀(f k:Nat) (l:cw) (a:Nat),k≤60→(iC f k l a).length + k≤60
 | 0,k,_,_,h=>by simpa [iC] using h
 | f + 1,k,l,a,h=>by
  unfold iC
  cases ay:iW l k with
  | none=>simpa using h
  | some x=>
   obtain⟨c,r,n⟩:=x
   have ax:=(Hv ay).1;have:=YI f (k + 1) (l.drop n) (a + n) (by omega)
   simp;omega
theorem YF (l:cw):(hW l).length≤60:=YI 61 0 l 0 (by omega)
theorem WU:(Tryz.prog.info? 56).map (fun i=>(i.zero,i.size,i.bytes))= some (some (.agg #[.string ⟨#[]⟩,.string ⟨#[]⟩]),2,32):=by kernel_rfl
theorem acn {p:Prop} (h:p:=by
 rw [ay];exact aoA (l.drop a) (by simp;omega) xs.length GM _ (by rw [jF,bz]) wr aip):p:=h
theorem aoB (l:cw) (aT:l.length≤1048576) (w:World) (dt:lf w):Calls Tryz.prog 65 #[.string (bs l)] w fun e ah=>∃A c gK cO,e= .returned (.tuple #[.slice A (iD l).length c,.slice gK (nS l).length cO])∧
  aX w 56 2 fV.cells ah (.slice A (iD l).length c) (iD l)∧aX w 3 1 bU ah (.slice gK (nS l).length cO) (nS l)∧Below w w ah:=by
 obtain⟨i0,hi,dk,dx,dC⟩:=info_parts WU
 obtain⟨i1,Og,JJ,akk,xK⟩:=info_parts rI
 have eW:=fX l
 have xA:(bs l).size≤1048576:=by omega
 have dW:=J eW;clear eW;have oZ:=aX.built (B:=w.heap.size) (f:=fV.cells) w ([]:List fV) 56 (Nat.le_refl _) (by simp) fV.BY;have Np:=aX.built (B:=w.heap.size) (f:=bU) (w.alloc (.cells #[] 56)) ([0]:List Int) 3 (by simp) (by simp [maxLen]) fZ
 simp only [List.flatMap_cons,List.flatMap_nil,bU,List.append_nil] at Np
 have eu:=J (oZ.alloc (.cells #[(0:Int)] 3));have aev:=J Np;clear oZ Np
 go_in
 go_wp2
 go_loopw [4,5,6] (fun v4 v5 v6 wr=>∃(xs:List (cw×cw×Nat)) (a:Nat),hW l= xs ++ iC (61 - xs.length) xs.length (l.drop a) a∧xs.length≤60∧a≤(bs l).size∧v6= .int .i64 a∧
   aX w 56 2 fV.cells wr v4 (xs.map qy)∧aX w 3 1 bU wr v5 (0 ::xs.map wZ)∧oB v4 v5∧Below w w wr) (fun _ _ v6 _=>1048577 - (intOf v6).toNat)
 case atStart=>
  refine⟨[],0,?_,by simp,Nat.zero_le _,rfl,by simpa using eu.out,by simpa using aev.out,?_,xb _ _ _⟩
  ·rfl
  ·intro k h1 h2
   simp [Value.ownBlock] at h1 h2
   omega
 case round=>
  obtain⟨xs,a,lP,GM,cX,rfl,bR,eJ,eg,aE⟩:=hrel
  obtain⟨aA,c4,rfl,na,_,_⟩:=bR.form fV.BY
  obtain⟨pr,c5,rfl,su,_,_⟩:=eJ.form fZ
  simp only [List.length_map,List.length_cons] at bR eJ eg na su ⊢
  have ajo:a≤l.length:=by rw [← dW.out];exact cX
  have ay:(bs l).extract a (bs l).size= bs (l.drop a):=by rw [vQ,fX,List.take_of_length_le (by simp)]
  have hf:∃f,61 - xs.length= f + 1∧f= 61 - (xs.length + 1):=⟨60 - xs.length,by omega,by omega⟩
  obtain⟨f,CA,Gm⟩:=hf
  have aip:=dt.U aE;have z0:=aE.size;have wj:=J bR.lt;have Xw:=J eJ.lt
  cases bz:iW (l.drop a) xs.length with
  | none=>
   have bf:Calls Tryz.prog 125 #[.string ((bs l).extract a (bs l).size),xs.length] wr fun e ah=>e= .returned (.tuple #[.agg #[.string (bs []),.string (bs [])],(0:Int),false])∧Below wr wr ah:=by
    exact acn
   have uG:hW l= xs:=by rw [lP,CA,iC,bz];simp
   have dc:=J bf;have fD:=J uG;have dp:=J bR;have da:=J eJ;clear bf uG lP ay bz bR eJ CA Gm
   go_wp2_with fail
   refine dc.out.mono ?_
   rintro e bg ⟨rfl,bE⟩
   go_wp2
   go_ret2
   have e1:iD l= xs.map qy:=by rw [iD,fD.out]
   have e2:nS l= 0 ::xs.map wZ:=by rw [nS,fD.out]
   rw [e1,e2]
   simp only [List.length_map,List.length_cons]
   exact⟨aA,c4,pr,c5,rfl,(dp.out.bh bE).alloc _,(da.out.bh bE).alloc _,(ai aE bE).alloc (by have:=bE.size;omega) _⟩
  | some x=>
   obtain⟨c,r,n⟩:=x
   have bd:=Dq bz
   simp only [List.length_drop] at bd
   have bf:Calls Tryz.prog 125 #[.string ((bs l).extract a (bs l).size),xs.length] wr fun e ah=>e= .returned (.tuple #[.agg #[.string (bs c),.string (bs r)],n,true])∧Below wr wr ah:=by
    exact acn
   have ax:=(Hv bz).1
   have Gw:hW l= (xs ++ [(c,r,a + n)]) ++ iC (61 - (xs ++ [(c,r,a + n)]).length) (xs ++ [(c,r,a + n)]).length (l.drop (a + n)) (a + n):=by
    rw [lP,CA,iC,bz]
    simp [Gm,List.drop_drop]
   have dc:=J bf;have gp:=J Gw;have dp:=J bR;have da:=J eJ;clear bf Gw lP ay bz bR eJ CA Gm
   go_wp2_with fail
   refine dc.out.mono ?_
   rintro e bg ⟨rfl,bE⟩
   have ch:=bE.size;have gW:=J (((dp.out.bh bE).alloc (.cells #[.string (bs c),.string (bs r)] 56)).alloc (.cells #[.string (bs c),.string (bs r)] 56));have ahV:=J (((da.out.bh bE).alloc (.cells #[.string (bs c),.string (bs r)] 56)).alloc (.cells #[.string (bs c),.string (bs r)] 56))
   have kl:aJ 2 fV.cells ((bg.alloc (.cells #[.string (bs c),.string (bs r)] 56)).alloc (.cells #[.string (bs c),.string (bs r)] 56)) (some ⟨bg.heap.size + 1,0,none⟩) [qy (c,r,a + n)]:=by
    have h:=aJ.one (sz:=2) (f:=fV.cells) (w:=bg.alloc (.cells #[.string (bs c),.string (bs r)] 56)) (qy (c,r,a + n)) 56
    rw [show (bg.alloc (.cells #[.string (bs c),.string (bs r)] 56)).heap.size= bg.heap.size + 1 from by simp] at h
    exact h
   have sd:=J kl;clear kl
   go_upto_region 7 with (at_builtin;refine kJ rfl _ _ 52 rfl w.heap.size 56 i0 _ 2 32 Tryz.underlying52 hi dk dx dC rfl (by decide) fV.cells fV.BY fV.cells_one (.slice aA xs c4) (xs.map qy) rfl gW.out ⟨bg.heap.size + 1,0,none⟩ 1 (qy (c,r,a + n)) rfl sd.out (by unfold maxLen;simp;omega) (by simp;omega) (by simp;omega) ?_;intro lT cf eX fs kC)
   have z4:=fs.size
   simp only [VB] at z4
   have xn:=ahV.out.ne fs eg;have Wf:oB lT (.slice pr (xs.length + 1) c5):=eg.step (fun k ax=>by have:=(Xw.out k ax).2;simp;omega) kC;have amt:=J eX.lt;have gu:Below w w cf:=(((ai aE bE).alloc (by omega) _).alloc (by simp;omega) _).grown fs (by simp;omega) (fun k ax=>(wj.out k ax).1);have la:=J eX;have aew:=J (xn.alloc (.cells #[.int .i64 ((a:Int) + n)] 3))
   have kZ:=J Wf;clear eX xn Wf fs kC
   go_wp2_with (at_builtin;refine kJ rfl _ _ 38 rfl w.heap.size 3 i1 _ 1 8 Tryz.underlying38 Og JJ akk xK rfl (by decide) bU fZ pd (.slice pr (xs.length + 1) c5) (0 ::xs.map wZ) rfl aew.out ⟨cf.heap.size,0,none⟩ 1 ((a:Int) + n) rfl (aJ.one _ _) (by unfold maxLen;simp;omega) (by simp;omega) (by simp;omega) ?_;intro v5 dE uy rD ait)
   have z5:=rD.size;have ail:=(la.out.alloc (.cells #[.int .i64 ((a:Int) + n)] 3)).ne rD kZ.out.symm;have ajv:oB lT v5:=(kZ.out.symm.step (fun k ax=>by have:=(amt.out k ax).2;simp;omega) ait).symm;have lO:Below w w dE:=(gu.alloc (by omega) _).grown rD (by simp;omega) (fun k ax=>(Xw.out k ax).1)
   go_roundw
   case rel=>
    refine⟨xs ++ [(c,r,a + n)],a + n,gp.out,by simp;omega,by rw [dW.out];omega,by go_num,?_,?_,ajv,lO⟩
    ·rw [List.map_append];exact ail
    ·rw [List.map_append]
     have e:((a:Int) + n)= wZ (c,r,a + n):=by simp [wZ]
     rw [e] at uy
     exact uy
   case measure=>simp [intOf];omega
open Go.RowKit Go.G9
theorem amh (l:cw) (aT:l.length≤1073741824) (w:World):Calls Tryz.prog 244 #[.string (bs l)] w fun e ah=>e= .returned (.int .i64 (ph l:Nat))∧ah= w:=by
 exact abB
theorem amf (l:cw) (aT:l.length≤1073741824) (w:World):Calls Tryz.prog 161 #[.string (bs l)] w fun e ah=>e= .returned (.string (bs (yh l)))∧Below w w ah:=by
 have xA:(bs l).size≤1073741824:=by rw [fX];exact aT
 have bf:=KP l;have hm:=xY (ph l:Nat) (by omega)
 have uF:(bs l ++⟨#[35]⟩) ++ eT (ph l:Nat)= bs (yh l):=by
  exact acx
 have jx:=J uF;clear uF
 go_in
 go_wp2_with fail
 refine (amh l aT _).mono ?_
 rintro e ah ⟨rfl,vc⟩
 have Wu:=vc.symm
 subst Wu
 go_wp2_with fail
 refine (qT (ph l:Nat) (by omega) (by omega) _).mono ?_
 rintro e bg ⟨rfl,bE⟩
 have av:=be w bE;have I:Below w w bg:=av
 go_wp2
 go_ret
 exact⟨by rw [← jx.out];rfl,(ai I aw)⟩
theorem Xo (k:Int) (ax:0≤k) (lC:k < 100) (c r:cw) (h:kD c r= true) (w:World):Calls Tryz.prog 91 #[k,.agg #[.string (bs c),.string (bs r)]] w fun e ah=>e= .returned (.string (bs (fq k c r ++ [10])))∧Below w w ah:=by
 obtain⟨au,c2,c3,_⟩:=Df h
 have dU:=Ta ax lC h
 have e1:eT k ++⟨#[32]⟩ ++ bs c ++⟨#[64]⟩ ++ bs r= bs (nR k c r):=by
  exact abu
 have aU:∀W,Calls Tryz.prog 161 #[.string (eT k ++⟨#[32]⟩ ++ bs c ++⟨#[64]⟩ ++ bs r)] W fun e ah=>e= .returned (.string (bs (fq k c r)))∧Below W W ah:=fun W=>by
  rw [e1];exact amf _ (by omega) W
 have aT:=Da ax lC h
 have s1:(bs c).size≤160:=by rw [fX];exact c2
 have s2:(bs r).size≤200:=by rw [fX];exact c3
 have pS:(bs (fq k c r)).size≤371:=by rw [fX];exact aT
 have Dt:=xY k (by omega);have uF:bs (fq k c r) ++⟨#[10]⟩ =bs (fq k c r ++ [10]):=oX _ _;have lV:=J aU;have jx:=J uF;clear aU uF e1 dU h;have eb:=boxed w #[.string (bs c),.string (bs r)] 56 0 (.string (bs c)) rfl;have ds:=boxed w #[.string (bs c),.string (bs r)] 56 1 (.string (bs r)) rfl
 go_in
 go_wp2
 refine eC (by kernel_rfl) (by kernel_rfl) ?_
 repeat (go_big_quiet_step ((first
  | (go_at_call 73;exact aB.call _ (by first | exact Nat.le_refl _ | omega) (qT _ (by omega) (by omega) _))
  | (go_at_call 161;exact aB.call _ (by first | exact Nat.le_refl _ | omega) (lV.out _)))))
 exact acm
structure Splits (c:UInt8) (l:cw) (ys:List ByteArray):Prop where
 ne:ys.length≠0
 first:ys[0]? =some (bs (cT c l))
 two:(2≤ys.length)↔jd c l= true
 len:ys.length≤l.length + 1
def tE (s:ByteArray):List Value:=[.string s]
theorem DB (y:ByteArray):(tE y).length= 1:=rfl
theorem ZV (y:ByteArray) (u:Value) (h:u ∈ tE y):u.oneCell'= true:=by simp [tE] at h;subst h;rfl
theorem alI:(Tryz.prog.info? 9).map (fun i=>(i.zero,i.size,i.bytes))= some (some (.string ⟨#[]⟩),1,16):=by kernel_rfl
theorem afY {c:UInt8} {l:cw} {k:Nat} (h:jd c (l.take k)= false) (ax:k < l.length) (aG:l[k]= c):cT c l= l.take k∧jd c l= true:=by
 have bd:=FZ.1 h
 have e:l= l.take k ++ c ::l.drop (k + 1):=by
  rw [← aG];simp
 refine⟨?_,?_⟩
 ·conv=>lhs;rw [e]
  exact Fc bd
 ·rw [Cw];rw [← aG];exact List.getElem_mem ax
theorem aiA {c:UInt8} {l:cw} {k:Nat} (ax:k < l.length) (h:jd c (l.take k)= false) (aG:l[k]≠c):jd c (l.take (k + 1))= false:=by
 rw [FZ] at *
 rw [List.take_succ_eq_append_getElem ax]
 simp only [List.mem_append,List.mem_singleton,not_or]
 exact⟨h,fun e=>aG e.symm⟩
theorem amg (l:cw) (c:UInt8) (aT:l.length≤1048576) (w:World):Calls Tryz.prog 67 #[.string (bs l),.int .u8 (c.toNat:Int)] w fun e ah=>∃A n ys,e= .returned (.slice A ys.length n)∧aX w.heap.size 9 1 tE ah (.slice A ys.length n) ys∧Splits c l ys∧Below w.heap.size w ah:=by
 obtain⟨i0,hi,dk,dx,dC⟩:=info_parts alI
 have eW:=fX l
 have xA:(bs l).size≤1048576:=by omega
 have dW:=J eW;clear eW;have oZ:=aX.built (B:=w.heap.size) (f:=tE) w ([]:List ByteArray) 9 (Nat.le_refl _) (by simp) DB
 simp only [List.flatMap_nil] at oZ
 have eu:=J oZ;clear oZ;have jA:c.toNat < 256:=c.toNat_lt
 have aiL:(c.toNat:Int) < 256:=by omega
 go_in
 go_wp2
 go_loopw [5,6,7] (fun v5 v6 lU wr=>∃(xs:List ByteArray) (a k:Nat),k≤(bs l).size∧a≤k∧v6= .int .i64 a∧lU= .int .i64 k∧xs.length≤k∧(xs.length= 0→a= 0∧jd c (l.take k)= false)∧(xs.length≠0→xs[0]? =some (bs (cT c l))∧jd c l= true)∧
   aX w.heap.size 9 1 tE wr v5 xs∧Below w.heap.size w wr) (fun _ _ lU _=>1048577 - (intOf lU).toNat)
 case atStart=>
  exact⟨[],0,0,Nat.zero_le _,Nat.le_refl _,rfl,rfl,Nat.le_refl _,fun _=>⟨rfl,by simp [jd]⟩,fun h=>absurd rfl h,eu.out,ca _ _⟩
 case round=>
  obtain⟨xs,a,k,ax,cX,rfl,rfl,qj,kW,GL,bR,aE⟩:=hrel
  obtain⟨pr,c5,rfl,su,_,_⟩:=bR.form DB
  have z0:=aE.size;have wj:=J bR.lt;have vG:=J kW;have H1:=J GL;have dp:=J bR;clear kW GL bR
  by_cases bn:k < (bs l).size
  ·have hl:(bs l)[k].toNat < 256:=(bs l)[k].toNat_lt
   by_cases aG:(bs l)[k]= c
   ·have jt:(((bs l)[k].toNat:Int) == (c.toNat:Int))= true:=by rw [aG];exact beq_iff_eq.2 rfl
    have hex:(bs l).extract a k= bs ((l.drop a).take (k - a)):=vQ l a k
    have pG:(xs ++ [(bs l).extract a k])[0]? =some (bs (cT c l))∧jd c l= true:=by
     rcases Nat.eq_zero_or_pos xs.length with h | h
     ·obtain⟨rfl,h2⟩:=vG.out h
      obtain rfl:xs= []:=List.eq_nil_of_length_eq_zero h
      have aP:=afY h2 (by rw [← dW.out];exact bn) (by rw [← Ff l k bn];exact aG)
      refine⟨?_,aP.2⟩
      rw [hex,aP.1];simp
     ·have:=H1.out (by omega)
      refine⟨?_,this.2⟩
      rw [List.getElem?_append_left h];exact this.1
    have gp:=J pG;clear pG hex aG;have kl:aJ 1 tE (wr.alloc (.cells #[.string ((bs l).extract a k)] 9)) (some ⟨wr.heap.size,0,none⟩) [(bs l).extract a k]:=aJ.one (sz:=1) (f:=tE) _ _;have sd:=J kl;clear kl;have lr:=J (dp.out.alloc (.cells #[.string ((bs l).extract a k)] 9))
    go_wp2_with (at_builtin;refine kJ rfl _ _ 57 rfl w.heap.size 9 i0 _ 1 16 Tryz.underlying57 hi dk dx dC rfl (by decide) tE DB ZV (.slice pr xs.length c5) xs rfl lr.out ⟨wr.heap.size,0,none⟩ 1 ((bs l).extract a k) rfl sd.out (by unfold maxLen;omega) (by omega) (by simp;omega) ?_;intro v4 cf eX fs kC)
    have z4:=fs.size;have gu:Below w.heap.size w cf:=(aE.alloc (by omega) _).grown fs (by simp;omega) (fun q bf=>(wj.out q bf).1)
    go_roundw
    case rel=>
     refine⟨xs ++ [(bs l).extract a k],k + 1,k + 1,by omega,Nat.le_refl _,by go_num,by go_num,by simp;omega,fun h=>?_,fun _=>gp.out,eX,gu⟩
     simp at h
    case measure=>simp [intOf];omega
   ·have jt:(((bs l)[k].toNat:Int) == (c.toNat:Int))= false:=by
     rw [beq_eq_false_iff_ne]
     intro e
     exact aG (UInt8.toNat_inj.1 (by omega))
    have pG:xs.length= 0→a= 0∧jd c (l.take (k + 1))= false:=fun h=>
     ⟨(vG.out h).1,aiA (by rw [← dW.out];exact bn) (vG.out h).2 (by rw [← Ff l k bn];exact aG)⟩
    have gp:=J pG;clear pG aG
    go_wp2
    go_roundw
    case rel=>exact⟨xs,a,k + 1,by omega,by omega,rfl,by go_num,by omega,gp.out,H1.out,dp.out,aE⟩
    case measure=>simp [intOf];omega
  ·obtain rfl:k= (bs l).size:=by omega
   have hex:(bs l).extract a (bs l).size= bs (l.drop a):=by rw [vQ,fX,List.take_of_length_le (by simp)]
   have ji:Splits c l (xs ++ [(bs l).extract a (bs l).size]):=by
    rw [hex]
    rcases Nat.eq_zero_or_pos xs.length with h | h
    ·obtain⟨rfl,h2⟩:=vG.out h
     obtain rfl:xs= []:=List.eq_nil_of_length_eq_zero h
     rw [dW.out,List.take_length] at h2
     refine⟨by simp,?_,by simp [h2],by simp⟩
     rw [IQ (FZ.1 h2)];simp
    ·have:=H1.out (by omega)
     refine⟨by simp,?_,?_,?_⟩
     ·rw [List.getElem?_append_left h];exact this.1
     ·rw [this.2];simp;omega
     ·have:=dW.out;simp;omega
   have cD:=J ji;clear ji hex;have kl:aJ 1 tE (wr.alloc (.cells #[.string ((bs l).extract a (bs l).size)] 9)) (some ⟨wr.heap.size,0,none⟩) [(bs l).extract a (bs l).size]:=aJ.one (sz:=1) (f:=tE) _ _;have sd:=J kl;clear kl;have lr:=J (dp.out.alloc (.cells #[.string ((bs l).extract a (bs l).size)] 9))
   go_wp2_with (at_builtin;refine kJ rfl _ _ 57 rfl w.heap.size 9 i0 _ 1 16 Tryz.underlying57 hi dk dx dC rfl (by decide) tE DB ZV (.slice pr xs.length c5) xs rfl lr.out ⟨wr.heap.size,0,none⟩ 1 ((bs l).extract a (bs l).size) rfl sd.out (by unfold maxLen;omega) (by omega) (by simp;omega) ?_;intro v4 cf eX fs kC)
   have z4:=fs.size;have gu:Below w.heap.size w cf:=(aE.alloc (by omega) _).grown fs (by simp;omega) (fun q bf=>(wj.out q bf).1)
   obtain⟨Lr,rr,rfl,_,_,_⟩:=eX.form DB
   go_ret
   exact⟨Lr,rr,xs ++ [(bs l).extract a (bs l).size],rfl,eX,cD.out,gu⟩
end Go.Proofs.YtlaaemmmbodaaaaGreatDoor
