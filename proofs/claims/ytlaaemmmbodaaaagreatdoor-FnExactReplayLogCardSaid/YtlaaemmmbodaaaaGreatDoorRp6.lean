/- Parts. -/
import Derived.Test.YtlaaemmmbodaaaaGreatDoorRp5
set_option maxHeartbeats 16000000
set_option maxRecDepth 100000
set_option linter.unnecessarySimpa false
set_option linter.unusedSimpArgs false
set_option linter.unusedVariables false
namespace Go.Proofs.YtlaaemmmbodaaaaGreatDoor
open Go.RowKit Go.G9
theorem ajo (ag af sp:Int) (an:Option Addr) (c2:Nat) (ws:List Int) (ao:Option Addr) (c3:Nat) (ad:List aO) (h2:ws.length≤1048576) (h3:ad.length≤1048576) (n2:an= none→ws= []∧c2= 0) (n3:ao= none→ad= []∧c3= 0) (cp:ws.length≤c2) (ef:ad.length≤c3) (h0:0 < ws.length) (k:Nat) (aD:jU ⟨ag,af,sp,ws,ad⟩ ws.length= k) (w:World) (bw:aS 1 bV w an ws) (bt:aS 3 aO.cells w ao ad):
 Calls Tryz.prog 268 #[.agg #[ag,af,sp,.slice an ws c2,.slice ao ad c3]] w fun e ah=>e= .returned k∧Below w w ah:=by
 subst aD
 exact Uw ag af sp an c2 ws ao c3 ad h2 h3 n2 n3 cp ef h0 w bw bt
theorem amO (ag af sp:Int) (an:Option Addr) (c2:Nat) (ws:List Int) (ao:Option Addr) (c3:Nat) (ad:List aO) (h2:ws.length≤1048576) (h3:ad.length≤1048576) (n2:an= none→ws= []∧c2= 0) (n3:ao= none→ad= []∧c3= 0) (cp:ws.length≤c2) (ef:ad.length≤c3) (ax:lP ⟨ag,af,sp,ws,ad⟩ =true) (m:Int) (hm:rA ⟨ag,af,sp,ws,ad⟩ =some m) (w:World) (bw:aS 1 bV w an ws) (bt:aS 3 aO.cells w ao ad):
 Calls Tryz.prog 239 #[.agg #[ag,af,sp,.slice an ws c2,.slice ao ad c3]] w fun e ah=>∃aZ d2 bk d3,e= .returned (.tuple #[.agg #[ag,af,m,.slice aZ (ws.filter fun x=>!(x == m)).length d2,.slice bk ad d3],m,true])∧jC w.heap.size ah aZ d2 bk d3 (ws.filter fun x=>!(x == m)) ad∧Below w w ah:=by
 have dQ:=J bw;have cQ:=J bt;have iU:=J n2;have iK:=J n3;have vq:=J ef;clear bw bt n2 n3 ef
 obtain⟨gA,aV,qp⟩ :gd ag af sp ws ad= true∧(sp == 0)= true∧0 < ws.length:=by
  simpa [lP,eo.ok] using ax
 have Es:(sp != 0)= false:=by rw [bne,aV];rfl
 have ct:((ws.length:Int) == 0)= false:=beq_eq_false_iff_ne.2 (by omega);have pO:=zB ⟨ag,af,sp,ws,ad⟩ ws.length qp
 obtain⟨k,aD⟩ :∃k,jU ⟨ag,af,sp,ws,ad⟩ ws.length= k:=⟨_,rfl⟩
 have aw:ws[k]? =some m:=by rw [← aD];exact hm
 rw [aD] at pO
 rw [aeD (ks.1 (show (⟨ag,af,sp,ws,ad⟩ :eo).ok= true from gA)).dX aw]
 have jw:(ws.take k ++ ws.drop (k + 1)).length= ws.length - 1:=by rw [List.length_append,List.length_take,List.length_drop];omega
 rw [jw]
 obtain⟨dJ,fi,m0,hA2,th,pa,bz⟩:=dQ.out.at_ (Below.refl _ _) (k:=0) qp
 subst hA2
 have bo:=J gA;have ft:=J aD;have cc:=J aw;have Pv:=J jw;clear gA aD aw ax hm aV jw iU pa bz;have iU:Hid ((some ⟨dJ,fi,none⟩ :Option Addr)= none→ws= []∧c2= 0):=J (fun h=>by cases h)
 go_in
 go_upto_region 1 with fail
 refine fe fun aG au ai U=>?_
 have I:=au;have aC:=ai.aM;have ak:=U.aM;have fQ:=U.lt
 go_wp2_with fail
 refine (lj ag af sp (some ⟨dJ,fi,none⟩) ws c2 ao c3 ad h2 h3 cp _ bo.out _ (dQ.out.ae (aj I az)) (cQ.out.ae (aj I az))).mono ?_
 rintro e aJ ⟨rfl,aL⟩
 have al:=be aG aL;replace I:=aj I al;replace ai:=ai.to al;clear aC;have aC:=ai.aM;replace U:=U.to al;clear ak;have ak:=U.aM
 go_wp2_with fail
 refine (ajo ag af sp (some ⟨dJ,fi,none⟩) c2 ws ao c3 ad h2 h3 iU.out iK.out cp vq.out qp k ft.out _ (dQ.out.ae (aj I az)) (cQ.out.ae (aj I az))).mono ?_
 rintro e bB ⟨rfl,bx⟩
 have aP:=be aJ bx;replace I:=aj I aP;replace ai:=ai.to aP;clear aC;have aC:=ai.aM;replace U:=U.to aP;clear ak;have ak:=U.aM
 go_wp2_with fail
 refine (EE ag af sp (some ⟨dJ,fi,none⟩) c2 ws ao c3 ad h2 h3 iU.out iK.out _ (dQ.out.ae (aj I az)) (cQ.out.ae (aj I az))).mono ?_
 rintro e bU ⟨aZ,d2,bk,d3,rfl,di,cY⟩
 have bN:=be bB cY;replace I:=aj I bN;replace ai:=ai.to bN;clear aC;have aC:=ai.aM;replace U:=U.to bN;clear ak;have ak:=U.aM;have tR:=I.size;have IE:=al.size;have Om:=aP.size;have On:=bN.size
 go_upto_region 5 with fail
 have bD:=di.fO.bm (bT bU (.cells #[ag,af,sp,.slice aZ ws d2,.slice bk ad d3] 41));clear di;have cK:Below bU bU (World.alloc bU (.cells #[ag,af,sp,.slice aZ ws d2,.slice bk ad d3] 41)):=bT bU _
 have aR:=aB.new bU 41 #[ag,af,sp,.slice aZ ws d2,.slice bk ad d3]
 generalize World.alloc bU (.cells #[ag,af,sp,.slice aZ ws d2,.slice bk ad d3] 41)= nE at *
 replace I:=aj I cK;have bF:=aR.aM;clear aC;replace ai:=ai.to cK;have aC:=ai.aM;clear ak;replace U:=U.to cK;have ak:=U.aM;have ns:=tN (dQ.out.ae I) cc.out (i:=0) (u:= .int .i64 m) rfl
 simp only [Nat.mul_one,Nat.add_zero] at ns
 have pG:=aR.frozen 2;have dG:=bD.cu aR
 go_upto_region 6 with fail
 clear ns;clear aC ak bF
 refine mF 2 fun nK fy=>?_
 replace I:=fy.aH I;replace ai:=fy.dV ai;replace U:=fy.dV U;replace aR:=fy.NB aR;replace bD:=bD.bY fy dG;have aC:=ai.aM;have ak:=U.aM;have bF:=aR.aM;clear dG pG;have anM:=aR.lt
 go_wp2_with fail
 refine (Uy (some ⟨dJ,fi,none⟩) c2 ws h2 cp k pO _ (dQ.out.ae (aj I az))).mono ?_
 rintro e ju ⟨Y,gV,rfl,mc,ou⟩
 have eQ:=be nK ou;replace I:=aj I eQ;replace bD:=bD.bm eQ;replace ai:=ai.to eQ;clear aC;have aC:=ai.aM;replace U:=U.to eQ;clear ak;have ak:=U.aM;replace aR:=aR.to eQ;clear bF;have bF:=aR.aM;have qW:=aR.frozen 3
 go_upto_region 7 with fail
 have dG:=bD.cu aR;have wi:=mc.cu aR;clear aC ak bF
 refine mF 3 fun lx eJ=>?_
 replace I:=eJ.aH I;replace ai:=eJ.dV ai;replace U:=eJ.dV U;replace aR:=eJ.EX aR;replace bD:=bD.bY eJ dG;replace mc:=mc.bY eJ wi;have aC:=ai.aM;have ak:=U.aM;have bF:=aR.aM;clear dG wi qW
 obtain⟨rH,Dv⟩ :∃X:World→Prop,∀V,X V↔(Below w w V∧aB V (w.heap.size) 41 #[ag,af,sp,.slice (some ⟨dJ,fi,none⟩) ws c2,.slice ao ad c3]∧aB V (bU.heap.size) 41 #[ag,af,m,.slice Y (ws.length - 1) gV,.slice bk ad d3]):=⟨_,fun _=>Iff.rfl⟩
 have kU:=J Dv;clear Dv
 haveI:Nonempty (cH rH):=⟨⟨lx,((kU.out _).2 ⟨I,ai,aR⟩)⟩⟩
 clear aC;clear ak;clear bF;have aC:=aB.jH (fun K:cH rH=>((kU.out _).1 K.holds).2.1);have bF:=aB.jH (fun K:cH rH=>((kU.out _).1 K.holds).2.2)
 have ns:=fun K:cH rH=>tN (dQ.out.ae ((kU.out _).1 K.holds).1) cc.out (i:=0) (u:= .int .i64 m) rfl
 simp only [Nat.mul_one,Nat.add_zero] at ns
 refine Fx rH [([0,1,2,3,4,5],[],6,false)] [] [7,8] (by kernel_rfl) (by kernel_rfl) ((kU.out _).2 ⟨I.drew,ai,aR⟩) ?_
 refine oa fun K gf=>?_
 change wpQuiet _ _ _ _ (_ ::_ ::_ ::_ ::_ ::_ ::[]) _
 repeat (go_big_quiet_step (fail))
 refine wpQuiet_nil ?_
 refine wpQuiet_nil ?_
 change wpList _ _ _ (_ ::[]) _ _
 have fL:=(Below.refl lx.heap.size lx).drew;replace I:Below w w lx.drew:=I.drew;have bK:=U.to fL;have dR:=aR.to fL;have Dy:=ai.to fL;replace bD:=bD.bm fL;replace mc:=mc.bm fL;clear U aR ai bF aC fL ns
 generalize lx.drew= Ke at *
 have ak:=bK.aM;have AK:=bK.frozen 0;have AL:=bK.frozen 1;have AM:=bK.frozen 2;have AN:=bK.frozen 3;have AO:=bK.frozen 4;have dG:=bD.cu bK;have wi:=mc.cu bK
 go_wp2
 clear ak
 refine gF 0 fun Qp nY=>?_
 replace I:=nY.aH I;replace bK:=nY.hV bK;replace Dy:=nY.dV Dy;replace dR:=nY.dV dR;replace bD:=bD.bY nY dG;replace mc:=mc.bY nY wi;have ak:=bK.aM
 refine wV ((kU.out _).2 ⟨I,Dy,dR⟩) (gf _ _ ?_)
 refine xR ?_
 refine wpQuiet_nil ?_
 change wpQuiet _ _ _ _ (_ ::_ ::[]) _
 repeat (go_big_quiet_step (fail))
 refine wpQuiet_nil ?_
 go_wp2
 refine bodyPost_ret (v:= .tuple #[.agg #[ag,af,m,.slice Y (ws.length - 1) gV,.slice bk ad d3],m,true]) (by simp [results,Tryz.results239,go_sem,ak]) rfl ?_
 exact⟨Y,gV,bk,d3,rfl,⟨by rw [Pv.out];exact mc.base (by omega),bD.base (by omega),by rw [Pv.out];exact mc.apart bD (by decide)⟩,I⟩
open Go.RowKit Go.G9
structure ei (aq ar an ao aA:Option Addr) (c0 av c2 c3 c4:Nat) (rs:List aK) (qs:List aQ) (ws:List Int) (ad:List aO) (os:List Out):Prop where
 h0:rs.length≤1048576
 h1:qs.length≤1048576
 h2:ws.length≤1048576
 h3:ad.length≤1048576
 h4:os.length≤1048576
 n0:aq= none→rs= []∧c0= 0
 n1:ar= none→qs= []∧av= 0
 n2:an= none→ws= []∧c2= 0
 n3:ao= none→ad= []∧c3= 0
 n4:aA= none→os= []∧c4= 0
 dZ:rs.length≤c0
 eI:qs.length≤av
 cp:ws.length≤c2
 ef:ad.length≤c3
 hY:os.length≤c4
structure dI (w:World) (aq ar an ao aA:Option Addr) (rs:List aK) (qs:List aQ) (ws:List Int) (ad:List aO) (os:List Out):Prop where
 fx:aS 7 aK.cells w aq rs
 dL:aS 3 aQ.cells w ar qs
 r2:aS 1 bV w an ws
 hG:aS 3 aO.cells w ao ad
 nV:aS 3 Out.cells w aA os
structure fP (B:Nat) (w:World) (bQ:Option Addr) (d0:Nat) (cn:Option Addr) (d1:Nat) (aZ:Option Addr) (d2:Nat) (bk:Option Addr) (d3:Nat) (bR:Option Addr) (d4:Nat) (rs:List aK) (qs:List aQ) (ws:List Int) (ad:List aO) (os:List Out):Prop where
 kz:bd B 89 7 aK.cells w (.slice bQ rs.length d0) rs
 iz:bd B 115 3 aQ.cells w (.slice cn qs.length d1) qs
 fi:bd B 3 1 bV w (.slice aZ ws.length d2) ws
 fO:bd B 214 3 aO.cells w (.slice bk ad.length d3) ad
 lR:bd B 163 3 Out.cells w (.slice bR os.length d4) os
section
variable {B B':Nat} {w ah:World} {aq ar an ao aA bQ cn aZ bk bR:Option Addr} {c0 av c2 c3 c4 d0 d1 d2 d3 d4:Nat} {rs:List aK} {qs:List aQ} {ws:List Int} {ad:List aO} {os:List Out}
theorem dI.ae (h:dI w aq ar an ao aA rs qs ws ad os) (aF:Below w w ah):dI ah aq ar an ao aA rs qs ws ad os:=⟨h.fx.ae aF,h.dL.ae aF,h.r2.ae aF,h.hG.ae aF,h.nV.ae aF⟩
theorem fP.bm (h:fP B w bQ d0 cn d1 aZ d2 bk d3 bR d4 rs qs ws ad os) (aF:Below w w ah):fP B ah bQ d0 cn d1 aZ d2 bk d3 bR d4 rs qs ws ad os:=⟨h.kz.bm aF,h.iz.bm aF,h.fi.bm aF,h.fO.bm aF,h.lR.bm aF⟩
theorem fP.base (h:fP B w bQ d0 cn d1 aZ d2 bk d3 bR d4 rs qs ws ad os) (aF:B'≤B):fP B' w bQ d0 cn d1 aZ d2 bk d3 bR d4 rs qs ws ad os:=⟨h.kz.base aF,h.iz.base aF,h.fi.base aF,h.fO.base aF,h.lR.base aF⟩
theorem ajP:fP B w none 0 none 0 none 0 none 0 none 0 [] [] [] [] []:=⟨bd.nil,bd.nil,bd.nil,bd.nil,bd.nil⟩
theorem zD (x:Out):(Out.cells x).length= 3:=rfl
theorem Nv (x:Out):∀u,u ∈ Out.cells x→u.oneCell'= true:=by
 intro u hu
 simp only [Out.cells,List.mem_cons,List.not_mem_nil,or_false] at hu
 rcases hu with rfl | rfl | rfl <;> rfl
theorem fP.rd (h:fP B w bQ d0 cn d1 aZ d2 bk d3 bR d4 rs qs ws ad os):dI w bQ cn aZ bk bR rs qs ws ad os:=⟨h.kz.hj Iq,h.iz.hj jz,h.fi.hj fW,h.fO.hj ig,h.lR.hj zD⟩
theorem ph {T:Type} {sz:Nat} {f:T→List Value} {e:TypeId} {A:Option Addr} {n c:Nat} {xs:List T} (h:bd B e sz f w (.slice A n c) xs) (hf:∀y,(f y).length= sz):xs.length≤c:=by
 exact ZV
theorem fP.HD (h:fP B w bQ d0 cn d1 aZ d2 bk d3 bR d4 rs qs ws ad os) (h0:rs.length≤1048576) (h1:qs.length≤1048576) (h2:ws.length≤1048576) (h3:ad.length≤1048576) (h4:os.length≤1048576):ei bQ cn aZ bk bR d0 d1 d2 d3 d4 rs qs ws ad os:=
 ⟨h0,h1,h2,h3,h4,h.kz.uI,h.iz.uI,h.fi.uI,h.fO.uI,h.lR.uI,ph h.kz Iq,ph h.iz jz,ph h.fi fW,ph h.fO ig,ph h.lR zD⟩
theorem fP.apart (h:fP B w bQ d0 cn d1 aZ d2 bk d3 bR d4 rs qs ws ad os):wI [.slice bQ rs d0,.slice cn qs d1,.slice aZ ws d2,.slice bk ad d3,.slice bR os d4]:=by
 unfold wI
 refine List.Pairwise.cons (fun u hu=>?_) (List.Pairwise.cons (fun u hu=>?_) (List.Pairwise.cons (fun u hu=>?_) (List.Pairwise.cons (fun u hu=>?_) (List.Pairwise.cons (fun u hu=>by simp at hu) List.Pairwise.nil))))
 ·simp only [List.mem_cons,List.not_mem_nil,or_false] at hu
  rcases hu with rfl | rfl | rfl | rfl
  ·exact h.kz.apart h.iz (by decide)
  ·exact h.kz.apart h.fi (by decide)
  ·exact h.kz.apart h.fO (by decide)
  ·exact h.kz.apart h.lR (by decide)
 ·simp only [List.mem_cons,List.not_mem_nil,or_false] at hu
  rcases hu with rfl | rfl | rfl
  ·exact h.iz.apart h.fi (by decide)
  ·exact h.iz.apart h.fO (by decide)
  ·exact h.iz.apart h.lR (by decide)
 ·simp only [List.mem_cons,List.not_mem_nil,or_false] at hu
  rcases hu with rfl | rfl
  ·exact h.fi.apart h.fO (by decide)
  ·exact h.fi.apart h.lR (by decide)
 ·simp only [List.mem_cons,List.not_mem_nil,or_false] at hu
  subst hu
  exact h.fO.apart h.lR (by decide)
end
def EO (rs:List aK) (qs:List aQ) (ag af sp:Int) (ws:List Int) (ad:List aO) (os:List Out):kq ((Option Addr×Nat)×Option Addr×Nat) where
 par:=fun n=>match n with
  | 3=>[0]
  | 7=>[4]
  | 14=>[11]
  | _=>[]
 val:=fun n p=>match n with
  | 0=> .slice p.1.1 0 0
  | 3=> .slice p.1.1 rs.length p.1.2
  | 4=> .slice p.1.1 0 0
  | 7=> .slice p.1.1 qs.length p.1.2
  | 10=> .agg #[.int .i64 ag,.int .i64 af,.int .i64 sp,.slice p.1.1 ws.length p.1.2,.slice p.2.1 ad.length p.2.2]
  | 11=> .slice p.1.1 0 0
  | 14=> .slice p.1.1 os.length p.1.2
  | _=>undef
 post:=fun n bl p cN V=>match n with
  | 0=>p.1.1= some ⟨cN.heap.size,0,none⟩∧aB V cN.heap.size 89 #[]
  | 3=>∃g,(bl 0).1.1= some ⟨g,0,none⟩∧bd g 89 7 aK.cells V (.slice p.1.1 rs.length p.1.2) rs
  | 4=>p.1.1= some ⟨cN.heap.size,0,none⟩∧aB V cN.heap.size 115 #[]
  | 7=>∃g,(bl 4).1.1= some ⟨g,0,none⟩∧bd g 115 3 aQ.cells V (.slice p.1.1 qs.length p.1.2) qs
  | 10=>jC cN.heap.size V p.1.1 p.1.2 p.2.1 p.2.2 ws ad
  | 11=>p.1.1= some ⟨cN.heap.size,0,none⟩∧aB V cN.heap.size 163 #[]
  | 14=>∃g,(bl 11).1.1= some ⟨g,0,none⟩∧bd g 163 3 Out.cells V (.slice p.1.1 os.length p.1.2) os
  | _=>True
theorem Cb {p:Prop} (h:p:=by
 change wpList _ _ _ (_ ::[]) _ _
 go_wp2
 exact hA ⟨((some ⟨k.world.heap.size,0,none⟩,0),none,0),rfl,bT _ _,rfl,aB.new _ _ _⟩):p:=h
theorem aad {p:Prop} (h:p:=by
 change wpList _ _ _ (_ ::[]) _ _
 obtain⟨gI,rN,oq,⟨lb,kM⟩,kN⟩:=fq 0 (by simp [EO])
 have kO:=kM.to kN;have jI:(bl 0).1.1= some ⟨gI.heap.size,0,none⟩:=lb;have oi:=J (bC.out.fx.ae ((iB.out _).1 k.holds).1);have oh:=J kO;clear kO kM lb oq kN fq
 rw [jI]
 have lu:=J jI;clear jI
 go_wp2_with ((at_builtin;refine wE rfl _ _ 29 rfl gI.heap.size 89 i0 _ 7 48 Tryz.underlying29 hi dn dC dz rfl (by decide) aK.cells Iq Ww gI.heap.size rfl oh.out (Nat.le_refl _) aq c0 rs rfl oi.out m0 (by unfold maxLen;omega) (by omega) ?_;intro bA cM ah fJ fh))
 first | exact hA ⟨((some ⟨bA,0,none⟩,cM),none,0),rfl,fh,gI.heap.size,lu.out,fJ⟩ | exact hA ⟨(some ⟨bA,0,none⟩,cM),(none,0),rfl,fh,gI.heap.size,lu.out,fJ⟩ | exact hA ⟨some ⟨bA,0,none⟩,cM,none,0,rfl,fh,gI.heap.size,lu.out,fJ⟩):p:=h
theorem aac {p:Prop} (h:p:=by
 change wpList _ _ _ (_ ::[]) _ _
 obtain⟨gI,rN,oq,⟨lb,kM⟩,kN⟩:=fq 4 (by simp [EO])
 have kO:=kM.to kN;have jI:(bl 4).1.1= some ⟨gI.heap.size,0,none⟩:=lb;have oi:=J (bC.out.dL.ae ((iB.out _).1 k.holds).1);have oh:=J kO;clear kO kM lb oq kN fq
 rw [jI]
 have lu:=J jI;clear jI
 go_wp2_with ((at_builtin;refine wE rfl _ _ 37 rfl gI.heap.size 115 Br _ 3 24 Tryz.underlying37 Uj Um Un Uo rfl (by decide) aQ.cells jz sq gI.heap.size rfl oh.out (Nat.le_refl _) ar av qs rfl oi.out m1 (by unfold maxLen;omega) (by omega) ?_;intro bA cM ah fJ fh))
 first | exact hA ⟨((some ⟨bA,0,none⟩,cM),none,0),rfl,fh,gI.heap.size,lu.out,fJ⟩ | exact hA ⟨(some ⟨bA,0,none⟩,cM),(none,0),rfl,fh,gI.heap.size,lu.out,fJ⟩ | exact hA ⟨some ⟨bA,0,none⟩,cM,none,0,rfl,fh,gI.heap.size,lu.out,fJ⟩):p:=h
theorem aab {p:Prop} (h:p:=by
 change wpList _ _ _ (_ ::[]) _ _
 obtain⟨gI,rN,oq,⟨lb,kM⟩,kN⟩:=fq 11 (by simp [EO])
 have kO:=kM.to kN;have jI:(bl 11).1.1= some ⟨gI.heap.size,0,none⟩:=lb;have oi:=J (bC.out.nV.ae ((iB.out _).1 k.holds).1);have oh:=J kO;clear kO kM lb oq kN fq
 rw [jI]
 have lu:=J jI;clear jI
 go_wp2_with ((at_builtin;refine wE rfl _ _ 42 rfl gI.heap.size 163 pd _ 3 24 Tryz.underlying42 li UM UN UO rfl (by decide) Out.cells zD Nv gI.heap.size rfl oh.out (Nat.le_refl _) aA c4 os rfl oi.out m4 (by unfold maxLen;omega) (by omega) ?_;intro bA cM ah fJ fh))
 first | exact hA ⟨((some ⟨bA,0,none⟩,cM),none,0),rfl,fh,gI.heap.size,lu.out,fJ⟩ | exact hA ⟨(some ⟨bA,0,none⟩,cM),(none,0),rfl,fh,gI.heap.size,lu.out,fJ⟩ | exact hA ⟨some ⟨bA,0,none⟩,cM,none,0,rfl,fh,gI.heap.size,lu.out,fJ⟩):p:=h
theorem HY (aq ar an ao aA:Option Addr) (c0 av c2 c3 c4:Nat) (rs:List aK) (qs:List aQ) (ag af sp:Int) (ws:List Int) (ad:List aO) (os:List Out) (Z:ei aq ar an ao aA c0 av c2 c3 c4 rs qs ws ad os) (w:World) (R:dI w aq ar an ao aA rs qs ws ad os):
 Calls Tryz.prog 96 #[.agg #[.slice aq rs c0,.slice ar qs av,ag,af,sp,.slice an ws c2,.slice ao ad c3,.slice aA os c4]] w fun e ah=>∃bQ d0 cn d1 aZ d2 bk d3 bR d4,e= .returned (.agg #[.slice bQ rs d0,.slice cn qs d1,ag,af,sp,.slice aZ ws d2,.slice bk ad d3,.slice bR os d4])∧fP w ah bQ d0 cn d1 aZ d2 bk d3 bR d4 rs qs ws ad os∧Below w w ah:=by
 obtain⟨i0,hi,dn,dC,dz⟩:=info_parts EA
 obtain⟨Br,Uj,Um,Un,Uo⟩:=info_parts si
 obtain⟨pd,li,UM,UN,UO⟩:=info_parts HC
 have bC:=J R;have bg:=J Z;have eu:=Z.h0;have dF:=Z.h1;have fZ:=Z.h4;have m0:=Z.n0;have m1:=Z.n1;have m4:=Z.n4;clear R Z
 go_in
 go_upto_region 1 with fail
 refine fe fun aG au ai U=>?_
 have I:=au;have aC:=ai.aI;have ak:=U.aI;have fQ:=U.lt
 obtain⟨sH,xd⟩ :∃X:World→Prop,∀V,X V↔(Below w w V∧aB V (w.heap.size) 44 #[.slice aq rs c0,.slice ar qs av,ag,af,sp,.slice an ws c2,.slice ao ad c3,.slice aA os c4]):=⟨_,fun _=>Iff.rfl⟩
 have iB:=J xd;clear xd
 haveI:Nonempty (cH sH):=⟨⟨aG,((iB.out _).2 ⟨I,ai⟩)⟩⟩
 clear aC;clear ak;have aC:=aB.oS (fun K:cH sH=>((iB.out _).1 K.holds).2)
 go_wp2
 refine wF (EO rs qs ag af sp ws ad os) sH [([],0),([1,2],3),([],4),([5,6],7),([8,9],10),([],11),([12,13],14)] [15] [([],16)] [] (by kernel_rfl) (by kernel_rfl) ((iB.out _).2 ⟨I.drew,ai⟩) (fun W eF h k=>((iB.out _).2 ⟨((iB.out _).1 h).1.trans (k.mono ((iB.out _).1 h).1.size),((iB.out _).1 h).2.ae k ((iB.out _).1 h).2.lt⟩)) ?_
 intro bl
 refine hI (some 3) rfl (.slice (bl 0).1.1 0 0) rfl fun hz eb=>?_
 change wpQuiet _ _ _ _ ([]) _
 refine wpQuiet_nil ?_
 refine⟨fun k fq=>?_,eb _ ?_⟩
 ·exact Cb
 simp only [Act.put]
 go_simp
 refine hI (some 6) rfl (.slice (bl 3).1.1 rs.length (bl 3).1.2) rfl fun hz eb=>?_
 change wpQuiet _ _ _ _ (_ ::_ ::[]) _
 repeat (go_big_quiet_step (fail))
 refine wpQuiet_nil ?_
 refine⟨fun k fq=>?_,eb _ ?_⟩
 ·exact aad
 simp only [Act.put]
 go_simp
 refine hI (some 7) rfl (.slice (bl 4).1.1 0 0) rfl fun hz eb=>?_
 change wpQuiet _ _ _ _ ([]) _
 refine wpQuiet_nil ?_
 refine⟨fun k fq=>?_,eb _ ?_⟩
 ·exact Cb
 simp only [Act.put]
 go_simp
 refine hI (some 10) rfl (.slice (bl 7).1.1 qs.length (bl 7).1.2) rfl fun hz eb=>?_
 change wpQuiet _ _ _ _ (_ ::_ ::[]) _
 repeat (go_big_quiet_step (fail))
 refine wpQuiet_nil ?_
 refine⟨fun k fq=>?_,eb _ ?_⟩
 ·exact aac
 simp only [Act.put]
 go_simp
 refine hI (some 13) rfl (.agg #[ag,af,sp,.slice (bl 10).1.1 ws.length (bl 10).1.2,.slice (bl 10).2.1 ad.length (bl 10).2.2]) rfl fun hz eb=>?_
 change wpQuiet _ _ _ _ (_ ::_ ::[]) _
 repeat (go_big_quiet_step (fail))
 refine wpQuiet_nil ?_
 refine⟨fun k fq=>?_,eb _ ?_⟩
 ·change wpList _ _ _ (_ ::[]) _ _
  go_wp2_with fail
  refine (EM ag af sp an c2 ws ao c3 ad bg.out.h2 bg.out.h3 bg.out.n2 bg.out.n3 _ (bC.out.r2.ae ((iB.out _).1 k.holds).1) (bC.out.hG.ae ((iB.out _).1 k.holds).1)).mono ?_
  rintro e mG ⟨aZ,d2,g3,d3,rfl,di,fL⟩
  go_wp2
  exact hA ⟨((aZ,d2),some ⟨g3,0,none⟩,d3),rfl,fL,di⟩
 simp only [Act.put]
 go_simp
 refine hI (some 14) rfl (.slice (bl 11).1.1 0 0) rfl fun hz eb=>?_
 change wpQuiet _ _ _ _ ([]) _
 refine wpQuiet_nil ?_
 refine⟨fun k fq=>?_,eb _ ?_⟩
 ·exact Cb
 simp only [Act.put]
 go_simp
 refine hI (some 17) rfl (.slice (bl 14).1.1 os.length (bl 14).1.2) rfl fun hz eb=>?_
 change wpQuiet _ _ _ _ (_ ::_ ::[]) _
 repeat (go_big_quiet_step (fail))
 refine wpQuiet_nil ?_
 refine⟨fun k fq=>?_,eb _ ?_⟩
 ·exact aab
 simp only [Act.put]
 go_simp
 refine qJ ?_
 change wpQuiet _ _ _ _ (_ ::[]) _
 repeat (go_big_quiet_step (fail))
 refine wpQuiet_nil ?_
 intro cN V W aU bL
 obtain⟨g3,e3,mm⟩ :∃g,(bl 0).1.1= some ⟨g,0,none⟩∧bd g 89 7 aK.cells (V 3) (.slice (bl 3).1.1 rs.length (bl 3).1.2) rs:=aU.post 3 (by simp)
 obtain⟨a3,_⟩ :(bl 0).1.1= some ⟨(cN 0).heap.size,0,none⟩∧aB (V 0) (cN 0).heap.size 89 #[]:=aU.post 0 (by simp)
 have nD:(cN 0).heap.size= g3:=by rw [a3] at e3;exact congrArg Addr.block (Option.some.inj e3)
 have cJ:=(mm.bm (aU.bm 3 (by simp))).base (B':=aG.heap.size) (by rw [← nD];exact (aU.lN 0 (by simp)).size)
 obtain⟨g7,e7,wq⟩ :∃g,(bl 4).1.1= some ⟨g,0,none⟩∧bd g 115 3 aQ.cells (V 7) (.slice (bl 7).1.1 qs.length (bl 7).1.2) qs:=aU.post 7 (by simp)
 obtain⟨a7,_⟩ :(bl 4).1.1= some ⟨(cN 4).heap.size,0,none⟩∧aB (V 4) (cN 4).heap.size 115 #[]:=aU.post 4 (by simp)
 have Fh:(cN 4).heap.size= g7:=by rw [a7] at e7;exact congrArg Addr.block (Option.some.inj e7)
 have cI:=(wq.bm (aU.bm 7 (by simp))).base (B':=aG.heap.size) (by rw [← Fh];exact (aU.lN 4 (by simp)).size)
 obtain⟨g14,e14,rB⟩ :∃g,(bl 11).1.1= some ⟨g,0,none⟩∧bd g 163 3 Out.cells (V 14) (.slice (bl 14).1.1 os.length (bl 14).1.2) os:=aU.post 14 (by simp)
 obtain⟨a14,_⟩ :(bl 11).1.1= some ⟨(cN 11).heap.size,0,none⟩∧aB (V 11) (cN 11).heap.size 163 #[]:=aU.post 11 (by simp)
 have Fg:(cN 11).heap.size= g14:=by rw [a14] at e14;exact congrArg Addr.block (Option.some.inj e14)
 have cz:=(rB.bm (aU.bm 14 (by simp))).base (B':=aG.heap.size) (by rw [← Fg];exact (aU.lN 11 (by simp)).size);have EV:jC (cN 10).heap.size (V 10) (bl 10).1.1 (bl 10).1.2 (bl 10).2.1 (bl 10).2.2 ws ad:=aU.post 10 (by simp);have di:=(EV.bm (aU.bm 10 (by simp))).base (B':=aG.heap.size) (aU.lN 10 (by simp)).size;clear aC;have aP:Below aG aG W:=aj az (aU.whole 10 (by simp)).oM
 replace I:=aj I aP;replace ai:=ai.to aP;replace U:=U.to aP;have ak:=U.aI;clear aU EV mm wq rB a3 a7 a14 e3 e7 e14 nD Fh Fg bL m0 m1 m4
 generalize bl 3= ch at *
 generalize bl 7= dq at *
 generalize bl 10= cZ at *
 generalize bl 14= oF at *
 obtain⟨⟨bQ,d0⟩,_,_⟩:=ch
 obtain⟨⟨cn,d1⟩,_,_⟩:=dq
 obtain⟨⟨aZ,d2⟩,bk,d3⟩:=cZ
 obtain⟨⟨bR,d4⟩,_,_⟩:=oF
 simp only at cJ cI cz di
 have bI:=di.fi;have bD:=di.fO;clear di
 refine gr fun fT dv=>?_
 change wpQuiet _ _ _ _ ([]) _
 refine wpQuiet_nil ?_
 change wpList _ _ _ (_ ::[]) _ _
 have dM:=U.ib
 go_wp2
 clear ak
 refine hR 0 fun cD aE=>?_
 replace I:=aE.aH I;replace ai:=aE.dV ai;replace U:=aE.ia U;replace cJ:=cJ.bY aE (fun k aD=>by first | exact fM k aD | (have:=cJ.lt k aD;omega));replace cI:=cI.bY aE (fun k aD=>by first | exact iY k aD | (have:=cI.lt k aD;omega));replace bI:=bI.bY aE (fun k aD=>by first | exact ez k aD | (have:=bI.lt k aD;omega));replace bD:=bD.bY aE (fun k aD=>by first | exact dG k aD | (have:=bD.lt k aD;omega))
 replace cz:=cz.bY aE (fun k aD=>by first | exact fN k aD | (have:=cz.lt k aD;omega));have ak:=U.aI
 refine gw (((iB.out _).2 ⟨I,ai⟩)) (dv _ _ ?_)
 refine kD ?_
 change wpQuiet _ _ _ _ ([]) _
 refine wpQuiet_nil ?_
 go_wp2
 exact hD ⟨bQ,d0,cn,d1,aZ,d2,bk,d3,bR,d4,rfl,⟨cJ.base (by omega),cI.base (by omega),bI.base (by omega),bD.base (by omega),cz.base (by omega)⟩,I⟩ (by simp [results,Tryz.results96,go_sem,ak])
theorem ED (aq ar an ao aA:Option Addr) (c0 av c2 c3 c4:Nat) (rs:List aK) (qs:List aQ) (ag af sp:Int) (ws:List Int) (ad:List aO) (os:List Out) (Z:ei aq ar an ao aA c0 av c2 c3 c4 rs qs ws ad os) (w:World) (R:dI w aq ar an ao aA rs qs ws ad os):
 Calls Tryz.prog 106 #[.agg #[.slice aq rs c0,.slice ar qs av,ag,af,sp,.slice an ws c2,.slice ao ad c3,.slice aA os c4]] w fun e ah=>∃bQ d0 cn d1 aZ d2 bk d3 bR d4,e= .returned (.agg #[.slice bQ rs d0,.slice cn qs d1,ag,af,sp,.slice aZ ws d2,.slice bk ad d3,.slice bR os d4])∧fP w ah bQ d0 cn d1 aZ d2 bk d3 bR d4 rs qs ws ad os∧Below w w ah:=by
 obtain⟨i0,hi,dn,dC,dz⟩:=info_parts EA
 obtain⟨Br,Uj,Um,Un,Uo⟩:=info_parts si
 obtain⟨pd,li,UM,UN,UO⟩:=info_parts HC
 have bC:=J R;have bg:=J Z;have eu:=Z.h0;have dF:=Z.h1;have fZ:=Z.h4;have m0:=Z.n0;have m1:=Z.n1;have m4:=Z.n4;clear R Z
 go_in
 go_upto_region 1 with fail
 refine fe fun aG au ai U=>?_
 have I:=au;have aC:=ai.aI;have ak:=U.aI;have fQ:=U.lt
 obtain⟨sH,xd⟩ :∃X:World→Prop,∀V,X V↔(Below w w V∧aB V (w.heap.size) 44 #[.slice aq rs c0,.slice ar qs av,ag,af,sp,.slice an ws c2,.slice ao ad c3,.slice aA os c4]):=⟨_,fun _=>Iff.rfl⟩
 have iB:=J xd;clear xd
 haveI:Nonempty (cH sH):=⟨⟨aG,((iB.out _).2 ⟨I,ai⟩)⟩⟩
 clear aC;clear ak;have aC:=aB.oS (fun K:cH sH=>((iB.out _).1 K.holds).2)
 go_wp2
 refine wF (EO rs qs ag af sp ws ad os) sH [([],0),([1,2],3),([],4),([5,6],7),([8,9],10),([],11),([12,13],14)] [15] [([],16)] [] (by kernel_rfl) (by kernel_rfl) ((iB.out _).2 ⟨I.drew,ai⟩) (fun W eF h k=>((iB.out _).2 ⟨((iB.out _).1 h).1.trans (k.mono ((iB.out _).1 h).1.size),((iB.out _).1 h).2.ae k ((iB.out _).1 h).2.lt⟩)) ?_
 intro bl
 refine hI (some 3) rfl (.slice (bl 0).1.1 0 0) rfl fun hz eb=>?_
 change wpQuiet _ _ _ _ ([]) _
 refine wpQuiet_nil ?_
 refine⟨fun k fq=>?_,eb _ ?_⟩
 ·exact Cb
 simp only [Act.put]
 go_simp
 refine hI (some 6) rfl (.slice (bl 3).1.1 rs.length (bl 3).1.2) rfl fun hz eb=>?_
 change wpQuiet _ _ _ _ (_ ::_ ::[]) _
 repeat (go_big_quiet_step (fail))
 refine wpQuiet_nil ?_
 refine⟨fun k fq=>?_,eb _ ?_⟩
 ·exact aad
 simp only [Act.put]
 go_simp
 refine hI (some 7) rfl (.slice (bl 4).1.1 0 0) rfl fun hz eb=>?_
 change wpQuiet _ _ _ _ ([]) _
 refine wpQuiet_nil ?_
 refine⟨fun k fq=>?_,eb _ ?_⟩
 ·exact Cb
 simp only [Act.put]
 go_simp
 refine hI (some 10) rfl (.slice (bl 7).1.1 qs.length (bl 7).1.2) rfl fun hz eb=>?_
 change wpQuiet _ _ _ _ (_ ::_ ::[]) _
 repeat (go_big_quiet_step (fail))
 refine wpQuiet_nil ?_
 refine⟨fun k fq=>?_,eb _ ?_⟩
 ·exact aac
 simp only [Act.put]
 go_simp
 refine hI (some 13) rfl (.agg #[ag,af,sp,.slice (bl 10).1.1 ws.length (bl 10).1.2,.slice (bl 10).2.1 ad.length (bl 10).2.2]) rfl fun hz eb=>?_
 change wpQuiet _ _ _ _ (_ ::_ ::[]) _
 repeat (go_big_quiet_step (fail))
 refine wpQuiet_nil ?_
 refine⟨fun k fq=>?_,eb _ ?_⟩
 ·change wpList _ _ _ (_ ::[]) _ _
  go_wp2_with fail
  refine (EE ag af sp an c2 ws ao c3 ad bg.out.h2 bg.out.h3 bg.out.n2 bg.out.n3 _ (bC.out.r2.ae ((iB.out _).1 k.holds).1) (bC.out.hG.ae ((iB.out _).1 k.holds).1)).mono ?_
  rintro e mG ⟨aZ,d2,bk,d3,rfl,di,fL⟩
  go_wp2
  exact hA ⟨((aZ,d2),bk,d3),rfl,fL,di⟩
 simp only [Act.put]
 go_simp
 refine hI (some 14) rfl (.slice (bl 11).1.1 0 0) rfl fun hz eb=>?_
 change wpQuiet _ _ _ _ ([]) _
 refine wpQuiet_nil ?_
 refine⟨fun k fq=>?_,eb _ ?_⟩
 ·exact Cb
 simp only [Act.put]
 go_simp
 refine hI (some 17) rfl (.slice (bl 14).1.1 os.length (bl 14).1.2) rfl fun hz eb=>?_
 change wpQuiet _ _ _ _ (_ ::_ ::[]) _
 repeat (go_big_quiet_step (fail))
 refine wpQuiet_nil ?_
 refine⟨fun k fq=>?_,eb _ ?_⟩
 ·exact aab
 simp only [Act.put]
 go_simp
 refine qJ ?_
 change wpQuiet _ _ _ _ (_ ::[]) _
 repeat (go_big_quiet_step (fail))
 refine wpQuiet_nil ?_
 intro cN V W aU bL
 obtain⟨g3,e3,mm⟩ :∃g,(bl 0).1.1= some ⟨g,0,none⟩∧bd g 89 7 aK.cells (V 3) (.slice (bl 3).1.1 rs.length (bl 3).1.2) rs:=aU.post 3 (by simp)
 obtain⟨a3,_⟩ :(bl 0).1.1= some ⟨(cN 0).heap.size,0,none⟩∧aB (V 0) (cN 0).heap.size 89 #[]:=aU.post 0 (by simp)
 have nD:(cN 0).heap.size= g3:=by rw [a3] at e3;exact congrArg Addr.block (Option.some.inj e3)
 have cJ:=(mm.bm (aU.bm 3 (by simp))).base (B':=aG.heap.size) (by rw [← nD];exact (aU.lN 0 (by simp)).size)
 obtain⟨g7,e7,wq⟩ :∃g,(bl 4).1.1= some ⟨g,0,none⟩∧bd g 115 3 aQ.cells (V 7) (.slice (bl 7).1.1 qs.length (bl 7).1.2) qs:=aU.post 7 (by simp)
 obtain⟨a7,_⟩ :(bl 4).1.1= some ⟨(cN 4).heap.size,0,none⟩∧aB (V 4) (cN 4).heap.size 115 #[]:=aU.post 4 (by simp)
 have Fh:(cN 4).heap.size= g7:=by rw [a7] at e7;exact congrArg Addr.block (Option.some.inj e7)
 have cI:=(wq.bm (aU.bm 7 (by simp))).base (B':=aG.heap.size) (by rw [← Fh];exact (aU.lN 4 (by simp)).size)
 obtain⟨g14,e14,rB⟩ :∃g,(bl 11).1.1= some ⟨g,0,none⟩∧bd g 163 3 Out.cells (V 14) (.slice (bl 14).1.1 os.length (bl 14).1.2) os:=aU.post 14 (by simp)
 obtain⟨a14,_⟩ :(bl 11).1.1= some ⟨(cN 11).heap.size,0,none⟩∧aB (V 11) (cN 11).heap.size 163 #[]:=aU.post 11 (by simp)
 have Fg:(cN 11).heap.size= g14:=by rw [a14] at e14;exact congrArg Addr.block (Option.some.inj e14)
 have cz:=(rB.bm (aU.bm 14 (by simp))).base (B':=aG.heap.size) (by rw [← Fg];exact (aU.lN 11 (by simp)).size);have EV:jC (cN 10).heap.size (V 10) (bl 10).1.1 (bl 10).1.2 (bl 10).2.1 (bl 10).2.2 ws ad:=aU.post 10 (by simp);have di:=(EV.bm (aU.bm 10 (by simp))).base (B':=aG.heap.size) (aU.lN 10 (by simp)).size;clear aC;have aP:Below aG aG W:=aj az (aU.whole 10 (by simp)).oM
 replace I:=aj I aP;replace ai:=ai.to aP;replace U:=U.to aP;have ak:=U.aI;clear aU EV mm wq rB a3 a7 a14 e3 e7 e14 nD Fh Fg bL m0 m1 m4
 generalize bl 3= ch at *
 generalize bl 7= dq at *
 generalize bl 10= cZ at *
 generalize bl 14= oF at *
 obtain⟨⟨bQ,d0⟩,_,_⟩:=ch
 obtain⟨⟨cn,d1⟩,_,_⟩:=dq
 obtain⟨⟨aZ,d2⟩,bk,d3⟩:=cZ
 obtain⟨⟨bR,d4⟩,_,_⟩:=oF
 simp only at cJ cI cz di
 have bI:=di.fi;have bD:=di.fO;clear di
 refine gr fun fT dv=>?_
 change wpQuiet _ _ _ _ ([]) _
 refine wpQuiet_nil ?_
 change wpList _ _ _ (_ ::[]) _ _
 have dM:=U.ib
 go_wp2
 clear ak
 refine hR 0 fun cD aE=>?_
 replace I:=aE.aH I;replace ai:=aE.dV ai;replace U:=aE.ia U;replace cJ:=cJ.bY aE (fun k aD=>by first | exact fM k aD | (have:=cJ.lt k aD;omega));replace cI:=cI.bY aE (fun k aD=>by first | exact iY k aD | (have:=cI.lt k aD;omega));replace bI:=bI.bY aE (fun k aD=>by first | exact ez k aD | (have:=bI.lt k aD;omega));replace bD:=bD.bY aE (fun k aD=>by first | exact dG k aD | (have:=bD.lt k aD;omega))
 replace cz:=cz.bY aE (fun k aD=>by first | exact fN k aD | (have:=cz.lt k aD;omega));have ak:=U.aI
 refine gw (((iB.out _).2 ⟨I,ai⟩)) (dv _ _ ?_)
 refine kD ?_
 change wpQuiet _ _ _ _ ([]) _
 refine wpQuiet_nil ?_
 go_wp2
 exact hD ⟨bQ,d0,cn,d1,aZ,d2,bk,d3,bR,d4,rfl,⟨cJ.base (by omega),cI.base (by omega),bI.base (by omega),bD.base (by omega),cz.base (by omega)⟩,I⟩ (by simp [results,Tryz.results106,go_sem,ak])
open Go.RowKit Go.G9
theorem aiZ (a b v:Int) (ax:v= if a < b then a else b) (w:World):Calls Tryz.prog 131 #[a,b] w fun e ah=>e= .returned v∧ah= w:=by
 subst ax
 by_cases h:a < b
 ·rw [if_pos h]
  go_in
  go_wp2
  go_ret
  exact⟨rfl,rfl⟩
 ·rw [if_neg h]
  go_in
  go_wp2
  go_ret
  exact⟨rfl,rfl⟩
theorem Yt {p:Prop} (h:p:=by
 have dM:=U.iE
 go_wp2
 clear aC ak
 refine gF 0 fun cD aE=>?_
 replace I:=aE.aH I;replace U:=aE.hV U;have ak:=U.aM
 exact hD ⟨rfl,I⟩ (by simp [results,Tryz.results240,go_sem,ak])):p:=h
theorem amU (ag af sp:Int) (an:Option Addr) (c2:Nat) (ws:List Int) (ao:Option Addr) (c3:Nat) (ad:List aO) (h2:ws.length≤1048576) (h3:ad.length≤1048576) (n2:an= none→ws= []∧c2= 0) (n3:ao= none→ad= []∧c3= 0) (cp:ws.length≤c2) (ef:ad.length≤c3) (n:Int) (ax:nf ⟨ag,af,sp,ws,ad⟩ n= false) (w:World) (bw:aS 1 bV w an ws) (bt:aS 3 aO.cells w ao ad):
 Calls Tryz.prog 240 #[.agg #[ag,af,sp,.slice an ws c2,.slice ao ad c3],n] w fun e ah=>e= .returned (.tuple #[.agg #[(0:Int),(0:Int),(0:Int),.slice none 0 0,.slice none 0 0],(0:Int),false])∧Below w w ah:=by
 have dQ:=J bw;have cQ:=J bt;clear bw bt n2 n3 ef
 cases hf:gd ag af sp ws ad
 ·have bo:=J hf
  clear hf ax
  go_in
  go_upto_region 1 with fail
  refine fe fun aG au ai U=>?_
  have I:=au;have aC:=ai.aM;have ak:=U.aM
  go_wp2_with fail
  refine (lj ag af sp an ws c2 ao c3 ad h2 h3 cp _ bo.out _ (dQ.out.ae (aj I az)) (cQ.out.ae (aj I az))).mono ?_
  rintro e aJ ⟨rfl,aL⟩
  have al:=be aG aL;replace I:=aj I al;clear aC;replace U:=U.to al;clear ak;have ak:=U.aM;have dM:=U.iE
  go_wp2
  clear ak
  refine gF 0 fun cD aE=>?_
  replace I:=aE.aH I;replace U:=aE.hV U;have ak:=U.aM
  exact hD ⟨rfl,I⟩ (by simp [results,Tryz.results240,go_sem,ak])
 ·cases aV:(sp == 0)
  case true=>
   have bo:=J hf;clear hf ax
   go_in
   go_upto_region 1 with fail
   refine fe fun aG au ai U=>?_
   have I:=au;have aC:=ai.aM;have ak:=U.aM
   go_wp2_with fail
   refine (lj ag af sp an ws c2 ao c3 ad h2 h3 cp _ bo.out _ (dQ.out.ae (aj I az)) (cQ.out.ae (aj I az))).mono ?_
   rintro e aJ ⟨rfl,aL⟩
   have al:=be aG aL;replace I:=aj I al;replace ai:=ai.to al;clear aC;have aC:=ai.aM;replace U:=U.to al;clear ak;have ak:=U.aM
   exact Yt
  case false=>
   have hi:eT n 1 3600= false:=by simpa [nf,eo.ok,hf,aV] using ax
   have bo:=J hf;have hT:=J hi;clear hf ax hi
   go_in
   go_upto_region 1 with fail
   refine fe fun aG au ai U=>?_
   have I:=au;have aC:=ai.aM;have ak:=U.aM
   go_wp2_with fail
   refine (lj ag af sp an ws c2 ao c3 ad h2 h3 cp _ bo.out _ (dQ.out.ae (aj I az)) (cQ.out.ae (aj I az))).mono ?_
   rintro e aJ ⟨rfl,aL⟩
   have al:=be aG aL;replace I:=aj I al;replace ai:=ai.to al;clear aC;have aC:=ai.aM;replace U:=U.to al;clear ak;have ak:=U.aM
   go_wp2_with fail
   refine (jq n 1 3600 _ hT.out _).mono ?_
   rintro e w0 ⟨rfl,h0⟩
   rw [h0]
   clear h0 w0
   exact Yt
theorem amV (ag af sp:Int) (an:Option Addr) (c2:Nat) (ws:List Int) (ao:Option Addr) (c3:Nat) (ad:List aO) (h2:ws.length≤1048576) (h3:ad.length≤1048576) (n2:an= none→ws= []∧c2= 0) (n3:ao= none→ad= []∧c3= 0) (cp:ws.length≤c2) (ef:ad.length≤c3) (n:Int) (ax:nf ⟨ag,af,sp,ws,ad⟩ n= true) (w:World) (bw:aS 1 bV w an ws) (bt:aS 3 aO.cells w ao ad):
 Calls Tryz.prog 240 #[.agg #[ag,af,sp,.slice an ws c2,.slice ao ad c3],n] w fun e ah=>∃aZ d2 bk d3,e= .returned (.tuple #[.agg #[ag,af,.int .i64 (jt ⟨ag,af,sp,ws,ad⟩ n).sp,.slice aZ ws d2,.slice bk (jt ⟨ag,af,sp,ws,ad⟩ n).ad.length d3],.int .i64 (ss ⟨ag,af,sp,ws,ad⟩ n),true])∧jC w.heap.size ah aZ d2 bk d3 ws (jt ⟨ag,af,sp,ws,ad⟩ n).ad∧Below w w ah:=by
 have dQ:=J bw;have cQ:=J bt;have iU:=J n2;have iK:=J n3;have vq:=J ef;clear bw bt n2 n3 ef
 obtain⟨ga,pR,oX,tt⟩:=Fk ax
 have aV:(sp == 0)= false:=beq_eq_false_iff_ne.2 pR;have hlen:=KI ga
 obtain⟨oY,mi,oz⟩:=BD ga pR
 have zf:=(ks.1 ga).t;have tv:=(ks.1 ga).s
 obtain⟨au,al,aP⟩:=tQ.1 mi
 have kl:=Ix (xs:=ad) (m:=sp);have yX:=(ks.1 ga).ord
 obtain⟨⟨dA,st,cm⟩,kn⟩ :∃x,ej ad sp= x:=⟨_,rfl⟩
 simp only at oz al aP yX
 rw [kn] at oz al aP kl
 simp only at oz al aP kl zf tv
 have MA:=kn
 subst kl
 obtain⟨u,hu⟩ :∃u,u= (if n < af - cm then n else af - cm):=⟨_,rfl⟩
 have yD:ss ⟨ag,af,dA,ws,ad⟩ n= u:=by simp [ss,kn,hu]
 have agT:0≤u∧u≤af - cm:=by rw [hu];split <;> omega
 have Df:qH ⟨ag,af,dA,ws,ad⟩ n=⟨dA,st,cm + u⟩:=by simp [qH,kn,yD]
 rw [yD]
 have bo:Hid (gd ag af dA ws ad= true):=J ga;have hT:Hid (eT n 1 3600= true):=J (qt.2 ⟨oX,tt⟩);have lr:=J kn;have Cd:=J Df;have JK:=J hu
 have Mz:ad.length≤1048574:=by simp only at hlen;omega
 have Et:(eW ad ⟨dA,st,cm + u⟩).length≤1048575:=by have:=Oa ad ⟨dA,st,cm + u⟩;omega
 have Eu:ej (eW ad ⟨dA,st,cm + u⟩) dA=⟨dA,st,cm + u⟩:=by rw [BP dA yX,if_pos rfl]
 have FX:=J Eu;have JJ:=J Et;clear ga ax oY mi au kn hlen MA yX Df Eu Et pR hu yD oX tt
 go_in
 go_upto_region 1 with fail
 refine fe fun aG au ai U=>?_
 have I:=au;have aC:=ai.aM;have ak:=U.aM;have fQ:=U.lt
 go_wp2_with fail
 refine (lj ag af dA an ws c2 ao c3 ad h2 h3 cp _ bo.out _ (dQ.out.ae (aj I az)) (cQ.out.ae (aj I az))).mono ?_
 rintro e aJ ⟨rfl,aL⟩
 have al:=be aG aL;replace I:=aj I al;replace ai:=ai.to al;clear aC;have aC:=ai.aM;replace U:=U.to al;clear ak;have ak:=U.aM
 go_wp2_with fail
 refine (jq n 1 3600 _ hT.out _).mono ?_
 rintro e w0 ⟨rfl,h0⟩
 rw [h0]
 clear h0 w0
 go_wp2_with fail
 refine (tH ag af dA an ws.length c2 ao c3 ad h3 dA ⟨dA,st,cm⟩ lr.out _ (cQ.out.ae (aj I az))).mono ?_
 rintro e bB ⟨rfl,bx⟩
 have aP:=be aJ bx;replace I:=aj I aP;replace ai:=ai.to aP;clear aC;have aC:=ai.aM;replace U:=U.to aP;clear ak;have ak:=U.aM;have IE:=al.size;have Om:=aP.size
 have rp:IntKind.i64.wrap (af - cm)= af - cm:=by rw [IntKind.wrap_i64];omega
 have TC:IntKind.i64.wrap (cm + u)= cm + u:=by rw [IntKind.wrap_i64];omega
 have XC:=I.size
 go_upto_region 4 with fail
 refine cF fun XR bN bH=>?_
 replace I:=aj I bN;have bZ:=bH.cq;clear aC;replace ai:=ai.to bN;have aC:=ai.aM;clear ak;replace U:=U.to bN;have ak:=U.aM
 go_wp2_with fail
 refine (aiZ n (af - cm) u JK.out _).mono ?_
 rintro e w0 ⟨rfl,h0⟩
 rw [h0]
 have Dl:=bH.frozen 2
 go_upto_region 6 with fail
 clear aC ak bZ
 refine mF 2 fun kr qI=>?_
 replace I:=qI.aH I;replace ai:=qI.dV ai;replace U:=qI.dV U;replace bH:=qI.NA bH;have aC:=ai.aM;have ak:=U.aM;have bZ:=bH.cq;clear Dl;have agJ:=bH.lt
 go_wp2_with fail
 refine (Ux ag af dA an c2 ws ao c3 ad h2 h3 iU.out iK.out vq.out dA st (cm + u) _ (dQ.out.ae (aj I az)) (cQ.out.ae (aj I az))).mono ?_
 rintro e dB ⟨aZ,d2,bk,d3,rfl,di,eD⟩
 have cK:=be kr eD;replace I:=aj I cK;replace ai:=ai.to cK;clear aC;have aC:=ai.aM;replace U:=U.to cK;clear ak;have ak:=U.aM;replace bH:=bH.to cK;clear bZ;have bZ:=bH.cq;have tR:=I.size;have XD:=cK.size
 go_upto_region 7 with fail
 have fb:=di.bm (bT dB (.cells #[ag,af,dA,.slice aZ ws d2,.slice bk (eW ad ⟨dA,st,cm + u⟩).length d3] 41));clear di;have eQ:Below dB dB (World.alloc dB (.cells #[ag,af,dA,.slice aZ ws d2,.slice bk (eW ad ⟨dA,st,cm + u⟩).length d3] 41)):=bT dB _
 have aR:=aB.new dB 41 #[ag,af,dA,.slice aZ ws d2,.slice bk (eW ad ⟨dA,st,cm + u⟩).length d3]
 generalize World.alloc dB (.cells #[ag,af,dA,.slice aZ ws d2,.slice bk (eW ad ⟨dA,st,cm + u⟩).length d3] 41)= anX at *
 replace I:=aj I eQ;have bF:=aR.aM;clear aC;replace ai:=ai.to eQ;have aC:=ai.aM;clear ak;replace U:=U.to eQ;have ak:=U.aM;clear bZ;replace bH:=bH.to eQ;have bZ:=bH.cq;have pb:=aR.lt;have bI:=fb.fi;have bD:=fb.fO;clear fb
 by_cases tn:cm + u= af
 ·have vN:(cm + u == af)= true:=beq_iff_eq.2 tn
  have e1:(jt ⟨ag,af,dA,ws,ad⟩ n).sp= 0∧(jt ⟨ag,af,dA,ws,ad⟩ n).ad= eW (eW ad ⟨dA,st,cm + u⟩) ⟨dA,st + 1,cm + u⟩:=by
   exact aaB
  have nG:=J e1;clear e1 tn
  go_upto_region 8 with fail
  have hs:=J bI;have ji:=J bD
  go_wp2_with fail
  refine (Uz ag af dA aZ d2 ws bk d3 (eW ad ⟨dA,st,cm + u⟩) h2 (by have:=JJ.out;omega) hs.out.uI ji.out.uI (ph hs.out fW) (ph ji.out ig) st (cm + u) FX.out (by omega) (by omega) _ (hs.out.hj fW) (ji.out.hj ig)).mono ?_
  rintro e wD ⟨cU,e2,cV,e3,rfl,di,tg⟩
  have mY:=be anX tg;replace I:=aj I mY;clear aC;replace U:=U.to mY;clear ak;have ak:=U.aM;clear bZ;replace aR:=aR.to mY;clear bF;have bF:=aR.aM;have sO:=di.fi;have sP:=di.fO;have KD:=aR.iE;have HU:=sO.cu aR;have HV:=sP.cu aR
  go_upto_region 9 with fail
  clear ak bF
  refine gF 0 fun Qp nY=>?_
  replace I:=nY.aH I;replace U:=nY.dV U;replace aR:=nY.hV aR;replace sO:=sO.bY nY HU;replace sP:=sP.bY nY HV;have ak:=U.aM;have bF:=aR.aM;clear HU HV KD;have dM:=U.iE;have HU:=sO.cu U;have HV:=sP.cu U
  go_wp2
  clear ak bF
  refine gF 0 fun cD aE=>?_
  replace I:=aE.aH I;replace U:=aE.hV U;replace sO:=sO.bY aE HU;replace sP:=sP.bY aE HV;have ak:=U.aM
  refine bodyPost_ret (v:= .tuple #[.agg #[ag,af,(0:Int),.slice cU ws e2,.slice cV (eW (eW ad ⟨dA,st,cm + u⟩) ⟨dA,st + 1,cm + u⟩).length e3],.int .i64 u,true]) (by simp [results,Tryz.results240,go_sem,ak]) rfl ?_
  rw [nG.out.1,nG.out.2]
  exact⟨cU,e2,cV,e3,rfl,⟨sO.base (by omega),sP.base (by omega),sO.apart sP (by decide)⟩,I⟩
 ·have vN:(cm + u == af)= false:=beq_eq_false_iff_ne.2 tn
  have e1:(jt ⟨ag,af,dA,ws,ad⟩ n).sp= dA∧(jt ⟨ag,af,dA,ws,ad⟩ n).ad= eW ad ⟨dA,st,cm + u⟩:=by
   exact YC
  have nG:=J e1;clear e1 tn;have dM:=U.iE;have ez:=bI.cu U;have dG:=bD.cu U
  go_wp2
  clear aC ak bZ bF
  refine gF 0 fun cD aE=>?_
  replace I:=aE.aH I;replace U:=aE.hV U;replace bI:=bI.bY aE ez;replace bD:=bD.bY aE dG;have ak:=U.aM
  refine bodyPost_ret (v:= .tuple #[.agg #[ag,af,dA,.slice aZ ws d2,.slice bk (eW ad ⟨dA,st,cm + u⟩).length d3],.int .i64 u,true]) (by simp [results,Tryz.results240,go_sem,ak]) rfl ?_
  rw [nG.out.1,nG.out.2]
  exact ZC
open Go.RowKit Go.G9
theorem XY (aq ar an ao aA:Option Addr) (c0 av c2 c3 c4:Nat) (rs:List aK) (qs:List aQ) (ag af sp:Int) (ws:List Int) (ad:List aO) (os:List Out) (Z:ei aq ar an ao aA c0 av c2 c3 c4 rs qs ws ad os) (vs:Option Addr) (CI CH:Nat) (w:World) (R:dI w aq ar an ao aA rs qs ws ad os):
 Calls Tryz.prog 257 #[.agg #[.slice aq rs c0,.slice ar qs av,ag,af,sp,.slice an ws c2,.slice ao ad c3,.slice aA os c4],.slice vs CI CH] w fun e ah=>∃bQ d0 bR d4,e= .returned (.agg #[.slice bQ rs d0,.slice vs CI CH,ag,af,(0:Int),.slice none 0 0,.slice none 0 0,.slice bR os d4])∧bd w 89 7 aK.cells ah (.slice bQ rs d0) rs∧bd w 163 3 Out.cells ah (.slice bR os d4) os∧Below w w ah:=by
 have bC:=J R;have bg:=J Z;clear R Z
 go_in
 go_upto_region 1 with fail
 refine fe fun aG au ai U=>?_
 have I:=au;have aC:=ai.aI;have ak:=U.aI;have fQ:=U.lt
 go_wp2_with fail
 refine (HY aq ar an ao aA c0 av c2 c3 c4 rs qs ag af sp ws ad os bg.out _ (bC.out.ae (aj I az))).mono ?_
 rintro e aJ ⟨bQ,d0,cn,d1,aZ,d2,bk,d3,bR,d4,rfl,di,aL⟩
 have al:=be aG aL;replace I:=aj I al;replace ai:=ai.to al;clear aC;have aC:=ai.aI;replace U:=U.to al;clear ak;have ak:=U.aI;have uX:=al.size;have tR:=I.size
 go_upto_region 2 with fail
 have qO:=di.bm (bT aJ (.cells #[.slice bQ rs d0,.slice cn qs d1,ag,af,sp,.slice aZ ws d2,.slice bk ad d3,.slice bR os d4] 44));clear di;have aP:Below aJ aJ (World.alloc aJ (.cells #[.slice bQ rs d0,.slice cn qs d1,ag,af,sp,.slice aZ ws d2,.slice bk ad d3,.slice bR os d4] 44)):=bT aJ _
 have aR:=aB.new aJ 44 #[.slice bQ rs d0,.slice cn qs d1,ag,af,sp,.slice aZ ws d2,.slice bk ad d3,.slice bR os d4]
 generalize World.alloc aJ (.cells #[.slice bQ rs d0,.slice cn qs d1,ag,af,sp,.slice aZ ws d2,.slice bk ad d3,.slice bR os d4] 44)= bU at *
 replace I:=aj I aP;have bF:=aR.aI;clear aC;replace ai:=ai.to aP;have aC:=ai.aI;clear ak;replace U:=U.to aP;have ak:=U.aI;have cJ:=qO.kz;have cz:=qO.lR;clear qO;have yE:=aR.frozen 1
 go_upto_region 3 with fail
 have fM:=cJ.cu aR;have fN:=cz.cu aR;clear aC ak bF
 refine mF 1 fun vv hH=>?_
 replace I:=hH.aH I;replace ai:=hH.dV ai;replace U:=hH.dV U;replace aR:=hH.Ik aR;replace cJ:=cJ.bY hH fM;replace cz:=cz.bY hH fN;have aC:=ai.aI;have ak:=U.aI;have bF:=aR.aI
 clear yE;have pG:=aR.frozen 2;have qW:=aR.frozen 3;have vA:=aR.frozen 4;have vB:=aR.frozen 5;have vC:=aR.frozen 6
 go_upto_region 4 with fail
 clear aC ak bF
 refine gF 2 fun lx eJ=>?_
 replace I:=eJ.aH I;replace U:=eJ.dV U;replace aR:=eJ.EW aR;replace cJ:=cJ.bY eJ (fun k aD=>by first | exact fM k aD | (have:=cJ.lt k aD;omega));replace cz:=cz.bY eJ (fun k aD=>by first | exact fN k aD | (have:=cz.lt k aD;omega))
 have ak:=U.aI;have bF:=aR.aI;clear pG qW vA vB vC fM fN;have dM:=U.ib;have fM:=cJ.cu U;have fN:=cz.cu U
 go_wp2
 clear ak bF
 refine hR 0 fun cD aE=>?_
 replace I:=aE.aH I;replace U:=aE.ia U;replace cJ:=cJ.bY aE fM;replace cz:=cz.bY aE fN;have ak:=U.aI
 exact hD ⟨bQ,d0,bR,d4,rfl,cJ.base (by omega),cz.base (by omega),I⟩ (by simp [results,Tryz.results257,go_sem,ak])
theorem Us (aq ar an ao aA:Option Addr) (c0 av c2 c3 c4:Nat) (rs:List aK) (qs:List aQ) (ag af sp:Int) (ws:List Int) (ad:List aO) (os:List Out) (Z:ei aq ar an ao aA c0 av c2 c3 c4 rs qs ws ad os) (vs:Option Addr) (CI CH:Nat) (w:World) (R:dI w aq ar an ao aA rs qs ws ad os):
 Calls Tryz.prog 236 #[.agg #[.slice aq rs c0,.slice ar qs av,ag,af,sp,.slice an ws c2,.slice ao ad c3,.slice aA os c4],.slice vs CI CH] w fun e ah=>∃bQ d0 bR d4,e= .returned (.agg #[.slice bQ rs d0,.slice vs CI CH,ag,af,(0:Int),.slice none 0 0,.slice none 0 0,.slice bR os d4])∧bd w 89 7 aK.cells ah (.slice bQ rs d0) rs∧bd w 163 3 Out.cells ah (.slice bR os d4) os∧Below w w ah:=by
 have bC:=J R;have bg:=J Z;clear R Z
 go_in
 go_upto_region 1 with fail
 refine fe fun aG au ai U=>?_
 have I:=au;have aC:=ai.aI;have ak:=U.aI;have fQ:=U.lt
 go_wp2_with fail
 refine (ED aq ar an ao aA c0 av c2 c3 c4 rs qs ag af sp ws ad os bg.out _ (bC.out.ae (aj I az))).mono ?_
 rintro e aJ ⟨bQ,d0,cn,d1,aZ,d2,bk,d3,bR,d4,rfl,di,aL⟩
 have al:=be aG aL;replace I:=aj I al;replace ai:=ai.to al;clear aC;have aC:=ai.aI;replace U:=U.to al;clear ak;have ak:=U.aI;have uX:=al.size;have tR:=I.size
 go_upto_region 2 with fail
 have qO:=di.bm (bT aJ (.cells #[.slice bQ rs d0,.slice cn qs d1,ag,af,sp,.slice aZ ws d2,.slice bk ad d3,.slice bR os d4] 44));clear di;have aP:Below aJ aJ (World.alloc aJ (.cells #[.slice bQ rs d0,.slice cn qs d1,ag,af,sp,.slice aZ ws d2,.slice bk ad d3,.slice bR os d4] 44)):=bT aJ _
 have aR:=aB.new aJ 44 #[.slice bQ rs d0,.slice cn qs d1,ag,af,sp,.slice aZ ws d2,.slice bk ad d3,.slice bR os d4]
 generalize World.alloc aJ (.cells #[.slice bQ rs d0,.slice cn qs d1,ag,af,sp,.slice aZ ws d2,.slice bk ad d3,.slice bR os d4] 44)= bU at *
 replace I:=aj I aP;have bF:=aR.aI;clear aC;replace ai:=ai.to aP;have aC:=ai.aI;clear ak;replace U:=U.to aP;have ak:=U.aI;have cJ:=qO.kz;have cz:=qO.lR;clear qO;have yE:=aR.frozen 1
 go_upto_region 3 with fail
 have fM:=cJ.cu aR;have fN:=cz.cu aR;clear aC ak bF
 refine mF 1 fun vv hH=>?_
 replace I:=hH.aH I;replace ai:=hH.dV ai;replace U:=hH.dV U;replace aR:=hH.Ik aR;replace cJ:=cJ.bY hH fM;replace cz:=cz.bY hH fN;have aC:=ai.aI;have ak:=U.aI;have bF:=aR.aI
 clear yE;have pG:=aR.frozen 2;have qW:=aR.frozen 3;have vA:=aR.frozen 4;have vB:=aR.frozen 5;have vC:=aR.frozen 6
 go_upto_region 4 with fail
 clear aC ak bF
 refine gF 2 fun lx eJ=>?_
 replace I:=eJ.aH I;replace U:=eJ.dV U;replace aR:=eJ.EW aR;replace cJ:=cJ.bY eJ (fun k aD=>by first | exact fM k aD | (have:=cJ.lt k aD;omega));replace cz:=cz.bY eJ (fun k aD=>by first | exact fN k aD | (have:=cz.lt k aD;omega))
 have ak:=U.aI;have bF:=aR.aI;clear pG qW vA vB vC fM fN;have dM:=U.ib;have fM:=cJ.cu U;have fN:=cz.cu U
 go_wp2
 clear ak bF
 refine hR 0 fun cD aE=>?_
 replace I:=aE.aH I;replace U:=aE.ia U;replace cJ:=cJ.bY aE fM;replace cz:=cz.bY aE fN;have ak:=U.aI
 exact hD ⟨bQ,d0,bR,d4,rfl,cJ.base (by omega),cz.base (by omega),I⟩ (by simp [results,Tryz.results236,go_sem,ak])
open Go.RowKit Go.G9
theorem alP (ag af sp:Int) (an:Option Addr) (c2:Nat) (ws:List Int) (ao:Option Addr) (c3:Nat) (ad:List aO) (h2:ws.length≤1048576) (h3:ad.length≤1048576) (n2:an= none→ws= []∧c2= 0) (n3:ao= none→ad= []∧c3= 0) (cp:ws.length≤c2) (ef:ad.length≤c3) (mem:Int) (dk:Int) (bP:List Int) (bS:List aO) (ax:mM ⟨ag,af,sp,ws,ad⟩ mem= true) (he:py ⟨ag,af,sp,ws,ad⟩ mem=⟨ag,af,dk,bP,bS⟩) (w:World) (bw:aS 1 bV w an ws) (bt:aS 3 aO.cells w ao ad):
 Calls Tryz.prog 238 #[.agg #[ag,af,sp,.slice an ws c2,.slice ao ad c3],mem] w fun e ah=>∃aZ d2 bk d3,e= .returned (.tuple #[.agg #[ag,af,dk,.slice aZ bP d2,.slice bk bS d3],true])∧jC w.heap.size ah aZ d2 bk d3 bP bS∧Below w w ah:=by
 have e1:=congrArg eo.sp he;have e3:=congrArg eo.ad he;have e2:=congrArg eo.ws he
 simp only [py,qx] at e1 e2 e3
 subst e1;subst e3;subst e2
 exact alX ag af sp an c2 ws ao c3 ad h2 h3 n2 n3 cp ef mem ax w bw bt
theorem alQ (ag af sp:Int) (an:Option Addr) (c2:Nat) (ws:List Int) (ao:Option Addr) (c3:Nat) (ad:List aO) (h2:ws.length≤1048576) (h3:ad.length≤1048576) (n2:an= none→ws= []∧c2= 0) (n3:ao= none→ad= []∧c3= 0) (cp:ws.length≤c2) (ef:ad.length≤c3) (q:Int) (bj:rA ⟨ag,af,sp,ws,ad⟩ =some q) (dk:Int) (bP:List Int) (bS:List aO) (ax:lP ⟨ag,af,sp,ws,ad⟩ =true) (he:qx ⟨ag,af,sp,ws,ad⟩ q=⟨ag,af,dk,bP,bS⟩) (w:World) (bw:aS 1 bV w an ws) (bt:aS 3 aO.cells w ao ad):
 Calls Tryz.prog 239 #[.agg #[ag,af,sp,.slice an ws c2,.slice ao ad c3]] w fun e ah=>∃aZ d2 bk d3,e= .returned (.tuple #[.agg #[ag,af,dk,.slice aZ bP d2,.slice bk bS d3],q,true])∧jC w.heap.size ah aZ d2 bk d3 bP bS∧Below w w ah:=by
 have e1:=congrArg eo.sp he;have e3:=congrArg eo.ad he;have e2:=congrArg eo.ws he
 simp only [py,qx] at e1 e2 e3
 subst e1;subst e3;subst e2
 exact amO ag af sp an c2 ws ao c3 ad h2 h3 n2 n3 cp ef ax q bj w bw bt
theorem ZD {p:Prop} (h:p:=by
 have e4:(jt ⟨ag,af,sp,ws,ad⟩ val).ws= bP:=by rw [he]
 rw [← e4];unfold jt;split <;> rfl):p:=h
theorem alR (ag af sp:Int) (an:Option Addr) (c2:Nat) (ws:List Int) (ao:Option Addr) (c3:Nat) (ad:List aO) (h2:ws.length≤1048576) (h3:ad.length≤1048576) (n2:an= none→ws= []∧c2= 0) (n3:ao= none→ad= []∧c3= 0) (cp:ws.length≤c2) (ef:ad.length≤c3) (val:Int) (dk:Int) (bP:List Int) (bS:List aO) (ax:nf ⟨ag,af,sp,ws,ad⟩ val= true) (he:jt ⟨ag,af,sp,ws,ad⟩ val=⟨ag,af,dk,bP,bS⟩) (w:World) (bw:aS 1 bV w an ws) (bt:aS 3 aO.cells w ao ad):
 Calls Tryz.prog 240 #[.agg #[ag,af,sp,.slice an ws c2,.slice ao ad c3],val] w fun e ah=>∃aZ d2 bk d3,e= .returned (.tuple #[.agg #[ag,af,dk,.slice aZ bP d2,.slice bk bS d3],.int .i64 (ss ⟨ag,af,sp,ws,ad⟩ val),true])∧jC w.heap.size ah aZ d2 bk d3 bP bS∧Below w w ah:=by
 have e1:(jt ⟨ag,af,sp,ws,ad⟩ val).sp= dk:=by rw [he]
 have e3:(jt ⟨ag,af,sp,ws,ad⟩ val).ad= bS:=by rw [he]
 have e2:ws= bP:=by
  exact ZD
 subst e1;subst e3;subst e2
 exact amV ag af sp an c2 ws ao c3 ad h2 h3 n2 n3 cp ef val ax w bw bt
theorem alS (ag af sp:Int) (an:Option Addr) (c2:Nat) (ws:List Int) (ao:Option Addr) (c3:Nat) (ad:List aO) (h2:ws.length≤1048576) (h3:ad.length≤1048576) (n2:an= none→ws= []∧c2= 0) (n3:ao= none→ad= []∧c3= 0) (cp:ws.length≤c2) (ef:ad.length≤c3) (dk:Int) (bP:List Int) (bS:List aO) (ax:lE ⟨ag,af,sp,ws,ad⟩ =true) (he:lW ⟨ag,af,sp,ws,ad⟩ =⟨ag,af,dk,bP,bS⟩) (w:World) (bw:aS 1 bV w an ws) (bt:aS 3 aO.cells w ao ad):
 Calls Tryz.prog 241 #[.agg #[ag,af,sp,.slice an ws c2,.slice ao ad c3]] w fun e ah=>∃aZ d2 bk d3,e= .returned (.tuple #[.agg #[ag,af,dk,.slice aZ bP d2,.slice bk bS d3],true])∧jC w.heap.size ah aZ d2 bk d3 bP bS∧Below w w ah:=by
 have e1:(0:Int)= dk:=congrArg eo.sp he
 have e3:(lW ⟨ag,af,sp,ws,ad⟩).ad= bS:=by rw [he]
 have e2:ws= bP:=congrArg eo.ws he
 subst e1;subst e3;subst e2
 exact anc ag af sp an c2 ws ao c3 ad h2 h3 n2 n3 cp ef ax w bw bt
theorem amh (aq ar an ao aA:Option Addr) (c0 av c2 c3 c4:Nat) (rs:List aK) (qs:List aQ) (ag af sp:Int) (ws:List Int) (ad:List aO) (os:List Out) (Z:ei aq ar an ao aA c0 av c2 c3 c4 rs qs ws ad os) (mem val yes no bq:Int) (dk:Int) (bP:List Int) (bS:List aO) (ax:mM ⟨ag,af,sp,ws,ad⟩ mem= true) (he:py ⟨ag,af,sp,ws,ad⟩ mem=⟨ag,af,dk,bP,bS⟩) (aN:dt rs qs= true) (bJ:hl rs qs= true) (w:World) (R:dI w aq ar an ao aA rs qs ws ad os):
 Calls Tryz.prog 235 #[.agg #[.slice aq rs c0,.slice ar qs av,ag,af,sp,.slice an ws c2,.slice ao ad c3,.slice aA os c4],.agg #[(3:Int),mem,val,yes,no,bq]] w fun e ah=>∃cy e0 cv e1 aZ d2 bk d3 cA e4,e= .returned (.tuple #[.agg #[.slice cy rs e0,.slice cv qs e1,ag,af,dk,.slice aZ bP d2,.slice bk bS d3,.slice cA os e4],true])∧fP w ah cy e0 cv e1 aZ d2 bk d3 cA e4 rs qs bP bS os∧Below w w ah:=by
 have bC:=J R;have bg:=J Z;have ea:=J aN;have fz:=J bJ;have bo:=J ax;have cW:=J he;clear R Z aN bJ ax he
 go_in
 go_upto_region 1 with fail
 refine fv fun aG au ai aX U=>?_
 have I:=au;have aC:=ai.aI;have a':=aX.da;have ak:=U.aI;have fQ:=U.lt
 go_upto_region 2 with fail
 refine cF fun kh al cL=>?_
 replace I:=aj I al;have bA:=cL.aM;clear aC;replace ai:=ai.to al;have aC:=ai.aI;clear a';replace aX:=aX.to al;have a':=aX.da;clear ak;replace U:=U.to al;have ak:=U.aI;have tp:=cL.lt
 go_wp2_with fail
 refine (zr rs qs aq ar c0 av bg.out.h0 bg.out.h1 ea.out true fz.out _ (bC.out.fx.ae (aj I az)) (bC.out.dL.ae (aj I az))).mono ?_
 rintro e bB ⟨rfl,bx⟩
 have aP:=be kh bx;replace I:=aj I aP;replace ai:=ai.to aP;clear aC;have aC:=ai.aI;replace aX:=aX.to aP;clear a';have a':=aX.da;replace U:=U.to aP;clear ak;have ak:=U.aI;replace cL:=cL.to aP;clear bA;have bA:=cL.aM;have XB:=aP.size
 go_wp2_with fail
 refine (alP ag af sp an c2 ws ao c3 ad bg.out.h2 bg.out.h3 bg.out.n2 bg.out.n3 bg.out.cp bg.out.ef mem dk bP bS bo.out cW.out _ (bC.out.r2.ae (aj I az)) (bC.out.hG.ae (aj I az))).mono ?_
 rintro e bU ⟨aZ,d2,bk,d3,rfl,di,cY⟩
 have bN:=be bB cY;replace I:=aj I bN;replace ai:=ai.to bN;clear aC;have aC:=ai.aI;clear a';replace U:=U.to bN;clear ak;have ak:=U.aI;replace cL:=cL.to bN;clear bA;have bA:=cL.aM;have bI:=di.fi;have bD:=di.fO;clear di;have qV:=cL.iE;have ez:=bI.cu cL;have dG:=bD.cu cL
 go_upto_region 12 with fail
 clear aC ak bA
 refine gF 0 fun nK fy=>?_
 replace I:=fy.aH I;replace ai:=fy.dV ai;replace U:=fy.dV U;replace cL:=fy.hV cL;replace bI:=bI.bY fy ez;replace bD:=bD.bY fy dG;have aC:=ai.aI;have ak:=U.aI;have bA:=cL.aM;clear ez dG qV;have ha:=cL.lt
 go_wp2_with fail
 refine (ED aq ar an ao aA c0 av c2 c3 c4 rs qs ag af sp ws ad os bg.out _ (bC.out.ae (aj I az))).mono ?_
 rintro e dB ⟨cy,e0,cv,e1,cU,e2,cV,e3,cA,e4,rfl,di,eD⟩
 have cK:=be nK eD;replace I:=aj I cK;replace bI:=bI.bm cK;replace bD:=bD.bm cK;clear aC;replace U:=U.to cK;clear ak;have ak:=U.aI;replace cL:=cL.to cK;clear bA;have bA:=cL.aM;have anD:=cK.size;have IC:=I.size
 go_upto_region 15 with fail
 have kH:=di.bm (bT dB (.cells #[.slice cy rs e0,.slice cv qs e1,ag,af,sp,.slice cU ws e2,.slice cV ad e3,.slice cA os e4] 44));have eQ:Below dB dB (World.alloc dB (.cells #[.slice cy rs e0,.slice cv qs e1,ag,af,sp,.slice cU ws e2,.slice cV ad e3,.slice cA os e4] 44)):=bT dB _
 have aR:=aB.new dB 44 #[.slice cy rs e0,.slice cv qs e1,ag,af,sp,.slice cU ws e2,.slice cV ad e3,.slice cA os e4]
 replace bI:=bI.bm eQ;replace bD:=bD.bm eQ
 generalize World.alloc dB (.cells #[.slice cy rs e0,.slice cv qs e1,ag,af,sp,.slice cU ws e2,.slice cV ad e3,.slice cA os e4] 44)= sB at *
 replace I:=aj I eQ;have bF:=aR.aI;clear ak;replace U:=U.to eQ;have ak:=U.aI;clear bA;replace cL:=cL.to eQ;have bA:=cL.aM;have cJ:=kH.kz;have cI:=kH.iz;have cz:=kH.lR;clear kH;have pG:=aR.frozen 2;have qW:=aR.frozen 3;have vA:=aR.frozen 4;have vB:=aR.frozen 5;have vC:=aR.frozen 6;have fM:=cJ.cu aR;have iY:=cI.cu aR;have ez:=bI.cu aR
 have dG:=bD.cu aR;have fN:=cz.cu aR
 go_upto_region 16 with fail
 clear ak bA bF
 refine gF 2 fun lx eJ=>?_
 replace I:=eJ.aH I;replace U:=eJ.dV U;replace aR:=eJ.EW aR;replace bI:=bI.bY eJ ez;replace bD:=bD.bY eJ dG;replace cJ:=cJ.bY eJ fM;replace cI:=cI.bY eJ iY
 replace cz:=cz.bY eJ fN;have ak:=U.aI;have bF:=aR.aI;clear fM iY ez dG fN pG qW vA vB vC;have fM:=cJ.cu U;have iY:=cI.cu U;have ez:=bI.cu U;have dG:=bD.cu U;have fN:=cz.cu U;have dM:=U.ib
 go_wp2
 clear ak bF
 refine hR 0 fun cD aE=>?_
 replace I:=aE.aH I;replace U:=aE.ia U;replace bI:=bI.bY aE ez;replace bD:=bD.bY aE dG;replace cJ:=cJ.bY aE fM;replace cI:=cI.bY aE iY;replace cz:=cz.bY aE fN;have ak:=U.aI
 exact hD ⟨cy,e0,cv,e1,aZ,d2,bk,d3,cA,e4,rfl,⟨cJ.base (by omega),cI.base (by omega),bI.base (by omega),bD.base (by omega),cz.base (by omega)⟩,I⟩ (by simp [results,Tryz.results235,go_sem,ak])
theorem OY {p:Prop} (h:p:=by
 rintro e bB ⟨aZ,d2,bk,d3,rfl,di,bx⟩
 have aP:=be kh bx;replace I:=aj I aP;replace ai:=ai.to aP;clear aC;have aC:=ai.aI;clear a';replace U:=U.to aP;clear ak;have ak:=U.aI;replace cL:=cL.to aP;clear bA;have bA:=cL.aM;have bI:=di.fi;have bD:=di.fO;clear di;have qV:=cL.iE;have ez:=bI.cu cL;have dG:=bD.cu cL
 go_upto_region 12 with fail
 clear aC ak bA
 refine gF 0 fun nK fy=>?_
 replace I:=fy.aH I;replace ai:=fy.dV ai;replace U:=fy.dV U;replace cL:=fy.hV cL;replace bI:=bI.bY fy ez;replace bD:=bD.bY fy dG;have aC:=ai.aI;have ak:=U.aI;have bA:=cL.aM;clear ez dG qV;have ha:=cL.lt
 go_wp2_with fail
 refine (ED aq ar an ao aA c0 av c2 c3 c4 rs qs ag af sp ws ad os bg.out _ (bC.out.ae (aj I az))).mono ?_
 rintro e bU ⟨cy,e0,cv,e1,cU,e2,cV,e3,cA,e4,rfl,di,cY⟩
 have bN:=be nK cY;replace I:=aj I bN;replace bI:=bI.bm bN;replace bD:=bD.bm bN;clear aC;replace U:=U.to bN;clear ak;have ak:=U.aI;replace cL:=cL.to bN;clear bA;have bA:=cL.aM;have anC:=bN.size;have IC:=I.size
 go_upto_region 15 with fail
 have kH:=di.bm (bT bU (.cells #[.slice cy rs e0,.slice cv qs e1,ag,af,sp,.slice cU ws e2,.slice cV ad e3,.slice cA os e4] 44));have cK:Below bU bU (World.alloc bU (.cells #[.slice cy rs e0,.slice cv qs e1,ag,af,sp,.slice cU ws e2,.slice cV ad e3,.slice cA os e4] 44)):=bT bU _
 have aR:=aB.new bU 44 #[.slice cy rs e0,.slice cv qs e1,ag,af,sp,.slice cU ws e2,.slice cV ad e3,.slice cA os e4]
 replace bI:=bI.bm cK;replace bD:=bD.bm cK
 generalize World.alloc bU (.cells #[.slice cy rs e0,.slice cv qs e1,ag,af,sp,.slice cU ws e2,.slice cV ad e3,.slice cA os e4] 44)= sB at *
 replace I:=aj I cK;have bF:=aR.aI;clear ak;replace U:=U.to cK;have ak:=U.aI;clear bA;replace cL:=cL.to cK;have bA:=cL.aM;have cJ:=kH.kz;have cI:=kH.iz;have cz:=kH.lR;clear kH;have pG:=aR.frozen 2;have qW:=aR.frozen 3;have vA:=aR.frozen 4;have vB:=aR.frozen 5;have vC:=aR.frozen 6;have fM:=cJ.cu aR;have iY:=cI.cu aR;have ez:=bI.cu aR
 have dG:=bD.cu aR;have fN:=cz.cu aR
 go_upto_region 16 with fail
 clear ak bA bF
 refine gF 2 fun lx eJ=>?_
 replace I:=eJ.aH I;replace U:=eJ.dV U;replace aR:=eJ.EW aR;replace bI:=bI.bY eJ ez;replace bD:=bD.bY eJ dG;replace cJ:=cJ.bY eJ fM;replace cI:=cI.bY eJ iY
 replace cz:=cz.bY eJ fN;have ak:=U.aI;have bF:=aR.aI;clear fM iY ez dG fN pG qW vA vB vC;have fM:=cJ.cu U;have iY:=cI.cu U;have ez:=bI.cu U;have dG:=bD.cu U;have fN:=cz.cu U;have dM:=U.ib
 go_wp2
 clear ak bF
 refine hR 0 fun cD aE=>?_
 replace I:=aE.aH I;replace U:=aE.ia U;replace bI:=bI.bY aE ez;replace bD:=bD.bY aE dG;replace cJ:=cJ.bY aE fM;replace cI:=cI.bY aE iY;replace cz:=cz.bY aE fN;have ak:=U.aI
 exact hD ⟨cy,e0,cv,e1,aZ,d2,bk,d3,cA,e4,rfl,⟨cJ.base (by omega),cI.base (by omega),bI.base (by omega),bD.base (by omega),cz.base (by omega)⟩,I⟩ (by simp [results,Tryz.results235,go_sem,ak])):p:=h
theorem amj (aq ar an ao aA:Option Addr) (c0 av c2 c3 c4:Nat) (rs:List aK) (qs:List aQ) (ag af sp:Int) (ws:List Int) (ad:List aO) (os:List Out) (Z:ei aq ar an ao aA c0 av c2 c3 c4 rs qs ws ad os) (mem val yes no bq:Int) (q:Int) (bj:rA ⟨ag,af,sp,ws,ad⟩ =some q) (dk:Int) (bP:List Int) (bS:List aO) (ax:lP ⟨ag,af,sp,ws,ad⟩ =true) (he:qx ⟨ag,af,sp,ws,ad⟩ q=⟨ag,af,dk,bP,bS⟩) (aN:dt rs qs= true) (bJ:hl rs qs= true) (w:World) (R:dI w aq ar an ao aA rs qs ws ad os):
 Calls Tryz.prog 235 #[.agg #[.slice aq rs c0,.slice ar qs av,ag,af,sp,.slice an ws c2,.slice ao ad c3,.slice aA os c4],.agg #[(4:Int),mem,val,yes,no,bq]] w fun e ah=>∃cy e0 cv e1 aZ d2 bk d3 cA e4,e= .returned (.tuple #[.agg #[.slice cy rs e0,.slice cv qs e1,ag,af,dk,.slice aZ bP d2,.slice bk bS d3,.slice cA os e4],true])∧fP w ah cy e0 cv e1 aZ d2 bk d3 cA e4 rs qs bP bS os∧Below w w ah:=by
 have bC:=J R;have bg:=J Z;have bo:=J ax;have cW:=J he;have dH:=J bj;clear R Z aN bJ ax he bj
 go_in
 go_upto_region 1 with fail
 refine fv fun aG au ai aX U=>?_
 have I:=au;have aC:=ai.aI;have a':=aX.da;have ak:=U.aI;have fQ:=U.lt
 go_upto_region 2 with fail
 refine cF fun kh al cL=>?_
 replace I:=aj I al;have bA:=cL.aM;clear aC;replace ai:=ai.to al;have aC:=ai.aI;clear a';replace aX:=aX.to al;have a':=aX.da;clear ak;replace U:=U.to al;have ak:=U.aI;have tp:=cL.lt
 go_wp2_with fail
 refine (alQ ag af sp an c2 ws ao c3 ad bg.out.h2 bg.out.h3 bg.out.n2 bg.out.n3 bg.out.cp bg.out.ef q dH.out dk bP bS bo.out cW.out _ (bC.out.r2.ae (aj I az)) (bC.out.hG.ae (aj I az))).mono ?_
 exact OY
theorem aml (aq ar an ao aA:Option Addr) (c0 av c2 c3 c4:Nat) (rs:List aK) (qs:List aQ) (ag af sp:Int) (ws:List Int) (ad:List aO) (os:List Out) (Z:ei aq ar an ao aA c0 av c2 c3 c4 rs qs ws ad os) (mem val yes no bq:Int) (dk:Int) (bP:List Int) (bS:List aO) (ax:nf ⟨ag,af,sp,ws,ad⟩ val= true) (he:jt ⟨ag,af,sp,ws,ad⟩ val=⟨ag,af,dk,bP,bS⟩) (aN:dt rs qs= true) (bJ:hl rs qs= true) (w:World) (R:dI w aq ar an ao aA rs qs ws ad os):
 Calls Tryz.prog 235 #[.agg #[.slice aq rs c0,.slice ar qs av,ag,af,sp,.slice an ws c2,.slice ao ad c3,.slice aA os c4],.agg #[(5:Int),mem,val,yes,no,bq]] w fun e ah=>∃cy e0 cv e1 aZ d2 bk d3 cA e4,e= .returned (.tuple #[.agg #[.slice cy rs e0,.slice cv qs e1,ag,af,dk,.slice aZ bP d2,.slice bk bS d3,.slice cA os e4],true])∧fP w ah cy e0 cv e1 aZ d2 bk d3 cA e4 rs qs bP bS os∧Below w w ah:=by
 have bC:=J R;have bg:=J Z;have bo:=J ax;have cW:=J he;clear R Z aN bJ ax he
 go_in
 go_upto_region 1 with fail
 refine fv fun aG au ai aX U=>?_
 have I:=au;have aC:=ai.aI;have a':=aX.da;have ak:=U.aI;have fQ:=U.lt
 go_upto_region 2 with fail
 refine cF fun kh al cL=>?_
 replace I:=aj I al;have bA:=cL.aM;clear aC;replace ai:=ai.to al;have aC:=ai.aI;clear a';replace aX:=aX.to al;have a':=aX.da;clear ak;replace U:=U.to al;have ak:=U.aI;have tp:=cL.lt
 go_wp2_with fail
 refine (alR ag af sp an c2 ws ao c3 ad bg.out.h2 bg.out.h3 bg.out.n2 bg.out.n3 bg.out.cp bg.out.ef val dk bP bS bo.out cW.out _ (bC.out.r2.ae (aj I az)) (bC.out.hG.ae (aj I az))).mono ?_
 exact OY
theorem amn (aq ar an ao aA:Option Addr) (c0 av c2 c3 c4:Nat) (rs:List aK) (qs:List aQ) (ag af sp:Int) (ws:List Int) (ad:List aO) (os:List Out) (Z:ei aq ar an ao aA c0 av c2 c3 c4 rs qs ws ad os) (mem val yes no bq:Int) (dk:Int) (bP:List Int) (bS:List aO) (ax:lE ⟨ag,af,sp,ws,ad⟩ =true) (he:lW ⟨ag,af,sp,ws,ad⟩ =⟨ag,af,dk,bP,bS⟩) (aN:dt rs qs= true) (bJ:hl rs qs= true) (w:World) (R:dI w aq ar an ao aA rs qs ws ad os):
 Calls Tryz.prog 235 #[.agg #[.slice aq rs c0,.slice ar qs av,ag,af,sp,.slice an ws c2,.slice ao ad c3,.slice aA os c4],.agg #[(6:Int),mem,val,yes,no,bq]] w fun e ah=>∃cy e0 cv e1 aZ d2 bk d3 cA e4,e= .returned (.tuple #[.agg #[.slice cy rs e0,.slice cv qs e1,ag,af,dk,.slice aZ bP d2,.slice bk bS d3,.slice cA os e4],true])∧fP w ah cy e0 cv e1 aZ d2 bk d3 cA e4 rs qs bP bS os∧Below w w ah:=by
 have bC:=J R;have bg:=J Z;have bo:=J ax;have cW:=J he;clear R Z aN bJ ax he
 go_in
 go_upto_region 1 with fail
 refine fv fun aG au ai aX U=>?_
 have I:=au;have aC:=ai.aI;have a':=aX.da;have ak:=U.aI;have fQ:=U.lt
 go_upto_region 2 with fail
 refine cF fun kh al cL=>?_
 replace I:=aj I al;have bA:=cL.aM;clear aC;replace ai:=ai.to al;have aC:=ai.aI;clear a';replace aX:=aX.to al;have a':=aX.da;clear ak;replace U:=U.to al;have ak:=U.aI;have tp:=cL.lt
 go_wp2_with fail
 refine (alS ag af sp an c2 ws ao c3 ad bg.out.h2 bg.out.h3 bg.out.n2 bg.out.n3 bg.out.cp bg.out.ef dk bP bS bo.out cW.out _ (bC.out.r2.ae (aj I az)) (bC.out.hG.ae (aj I az))).mono ?_
 exact OY
theorem Yu {p:Prop} (h:p:=by
 have dM:=U.ib
 go_wp2
 clear ak
 refine hR 0 fun cD aE=>?_
 replace I:=aE.aH I;replace U:=aE.ia U;have ak:=U.aI
 exact hD ⟨rfl,I⟩ (by simp [results,Tryz.results235,go_sem,ak])):p:=h
theorem amg (aq ar an ao aA:Option Addr) (c0 av c2 c3 c4:Nat) (rs:List aK) (qs:List aQ) (ag af sp:Int) (ws:List Int) (ad:List aO) (os:List Out) (Z:ei aq ar an ao aA c0 av c2 c3 c4 rs qs ws ad os) (mem val yes no bq:Int) (ax:mM ⟨ag,af,sp,ws,ad⟩ mem= false) (bJ:hl rs qs= true) (aN:dt rs qs= true) (w:World) (R:dI w aq ar an ao aA rs qs ws ad os):
 Calls Tryz.prog 235 #[.agg #[.slice aq rs c0,.slice ar qs av,ag,af,sp,.slice an ws c2,.slice ao ad c3,.slice aA os c4],.agg #[(3:Int),mem,val,yes,no,bq]] w fun e ah=>e= .returned (.tuple #[.agg #[.slice none 0 0,.slice none 0 0,(0:Int),(0:Int),(0:Int),.slice none 0 0,.slice none 0 0,.slice none 0 0],false])∧Below w w ah:=by
 have bC:=J R;have bg:=J Z;have ea:=J aN;clear R Z aN;have bo:=J ax;clear ax;have fz:=J bJ;clear bJ
 go_in
 go_upto_region 1 with fail
 refine fv fun aG au ai aX U=>?_
 have I:=au;have aC:=ai.aI;have a':=aX.da;have ak:=U.aI;have fQ:=U.lt
 go_upto_region 2 with fail
 refine cF fun kh al cL=>?_
 replace I:=aj I al;have bA:=cL.aM;clear aC;replace ai:=ai.to al;have aC:=ai.aI;clear a';replace aX:=aX.to al;have a':=aX.da;clear ak;replace U:=U.to al;have ak:=U.aI
 go_wp2_with fail
 refine (zr rs qs aq ar c0 av bg.out.h0 bg.out.h1 ea.out true fz.out _ (bC.out.fx.ae (aj I az)) (bC.out.dL.ae (aj I az))).mono ?_
 rintro e bB ⟨rfl,bx⟩
 have aP:=be kh bx;replace I:=aj I aP;replace ai:=ai.to aP;clear aC;have aC:=ai.aI;replace aX:=aX.to aP;clear a';have a':=aX.da;replace U:=U.to aP;clear ak;have ak:=U.aI;replace cL:=cL.to aP;clear bA;have bA:=cL.aM
 go_wp2_with fail
 refine (alW ag af sp an c2 ws ao c3 ad bg.out.h2 bg.out.h3 bg.out.n2 bg.out.n3 bg.out.cp bg.out.ef mem bo.out _ (bC.out.r2.ae (aj I az)) (bC.out.hG.ae (aj I az))).mono ?_
 rintro e bU ⟨rfl,cY⟩
 have bN:=be bB cY;replace I:=aj I bN;clear aC;clear a';replace U:=U.to bN;clear ak;have ak:=U.aI;replace cL:=cL.to bN;clear bA;have bA:=cL.aM;have qV:=cL.iE
 go_upto_region 12 with fail
 clear ak bA
 refine gF 0 fun nK fy=>?_
 replace I:=fy.aH I;replace U:=fy.dV U;have ak:=U.aI;clear qV
 exact Yu
theorem Pa {p:Prop} (h:p:=by
 rintro e bB ⟨rfl,bx⟩
 have aP:=be kh bx;replace I:=aj I aP;clear aC;clear a';replace U:=U.to aP;clear ak;have ak:=U.aI;replace cL:=cL.to aP;clear bA;have bA:=cL.aM;have qV:=cL.iE
 go_upto_region 12 with fail
 clear ak bA
 refine gF 0 fun nK fy=>?_
 replace I:=fy.aH I;replace U:=fy.dV U;have ak:=U.aI;clear qV;have dM:=U.ib
 go_wp2
 clear ak
 refine hR 0 fun cD aE=>?_
 replace I:=aE.aH I;replace U:=aE.ia U;have ak:=U.aI
 exact hD ⟨rfl,I⟩ (by simp [results,Tryz.results235,go_sem,ak])):p:=h
theorem ami (aq ar an ao aA:Option Addr) (c0 av c2 c3 c4:Nat) (rs:List aK) (qs:List aQ) (ag af sp:Int) (ws:List Int) (ad:List aO) (os:List Out) (Z:ei aq ar an ao aA c0 av c2 c3 c4 rs qs ws ad os) (mem val yes no bq:Int) (ax:lP ⟨ag,af,sp,ws,ad⟩ =false) (aN:dt rs qs= true) (w:World) (R:dI w aq ar an ao aA rs qs ws ad os):
 Calls Tryz.prog 235 #[.agg #[.slice aq rs c0,.slice ar qs av,ag,af,sp,.slice an ws c2,.slice ao ad c3,.slice aA os c4],.agg #[(4:Int),mem,val,yes,no,bq]] w fun e ah=>e= .returned (.tuple #[.agg #[.slice none 0 0,.slice none 0 0,(0:Int),(0:Int),(0:Int),.slice none 0 0,.slice none 0 0,.slice none 0 0],false])∧Below w w ah:=by
 have bC:=J R;have bg:=J Z;clear R Z aN;have bo:=J ax;clear ax
 go_in
 go_upto_region 1 with fail
 refine fv fun aG au ai aX U=>?_
 have I:=au;have aC:=ai.aI;have a':=aX.da;have ak:=U.aI;have fQ:=U.lt
 go_upto_region 2 with fail
 refine cF fun kh al cL=>?_
 replace I:=aj I al;have bA:=cL.aM;clear aC;replace ai:=ai.to al;have aC:=ai.aI;clear a';replace aX:=aX.to al;have a':=aX.da;clear ak;replace U:=U.to al;have ak:=U.aI
 go_wp2_with fail
 refine (amN ag af sp an c2 ws ao c3 ad bg.out.h2 bg.out.h3 bg.out.n2 bg.out.n3 bg.out.cp bg.out.ef bo.out _ (bC.out.r2.ae (aj I az)) (bC.out.hG.ae (aj I az))).mono ?_
 exact Pa
theorem amk (aq ar an ao aA:Option Addr) (c0 av c2 c3 c4:Nat) (rs:List aK) (qs:List aQ) (ag af sp:Int) (ws:List Int) (ad:List aO) (os:List Out) (Z:ei aq ar an ao aA c0 av c2 c3 c4 rs qs ws ad os) (mem val yes no bq:Int) (ax:nf ⟨ag,af,sp,ws,ad⟩ val= false) (aN:dt rs qs= true) (w:World) (R:dI w aq ar an ao aA rs qs ws ad os):
 Calls Tryz.prog 235 #[.agg #[.slice aq rs c0,.slice ar qs av,ag,af,sp,.slice an ws c2,.slice ao ad c3,.slice aA os c4],.agg #[(5:Int),mem,val,yes,no,bq]] w fun e ah=>e= .returned (.tuple #[.agg #[.slice none 0 0,.slice none 0 0,(0:Int),(0:Int),(0:Int),.slice none 0 0,.slice none 0 0,.slice none 0 0],false])∧Below w w ah:=by
 have bC:=J R;have bg:=J Z;clear R Z aN;have bo:=J ax;clear ax
 go_in
 go_upto_region 1 with fail
 refine fv fun aG au ai aX U=>?_
 have I:=au;have aC:=ai.aI;have a':=aX.da;have ak:=U.aI;have fQ:=U.lt
 go_upto_region 2 with fail
 refine cF fun kh al cL=>?_
 replace I:=aj I al;have bA:=cL.aM;clear aC;replace ai:=ai.to al;have aC:=ai.aI;clear a';replace aX:=aX.to al;have a':=aX.da;clear ak;replace U:=U.to al;have ak:=U.aI
 go_wp2_with fail
 refine (amU ag af sp an c2 ws ao c3 ad bg.out.h2 bg.out.h3 bg.out.n2 bg.out.n3 bg.out.cp bg.out.ef val bo.out _ (bC.out.r2.ae (aj I az)) (bC.out.hG.ae (aj I az))).mono ?_
 exact Pa
theorem amm (aq ar an ao aA:Option Addr) (c0 av c2 c3 c4:Nat) (rs:List aK) (qs:List aQ) (ag af sp:Int) (ws:List Int) (ad:List aO) (os:List Out) (Z:ei aq ar an ao aA c0 av c2 c3 c4 rs qs ws ad os) (mem val yes no bq:Int) (ax:lE ⟨ag,af,sp,ws,ad⟩ =false) (aN:dt rs qs= true) (w:World) (R:dI w aq ar an ao aA rs qs ws ad os):
 Calls Tryz.prog 235 #[.agg #[.slice aq rs c0,.slice ar qs av,ag,af,sp,.slice an ws c2,.slice ao ad c3,.slice aA os c4],.agg #[(6:Int),mem,val,yes,no,bq]] w fun e ah=>e= .returned (.tuple #[.agg #[.slice none 0 0,.slice none 0 0,(0:Int),(0:Int),(0:Int),.slice none 0 0,.slice none 0 0,.slice none 0 0],false])∧Below w w ah:=by
 have bC:=J R;have bg:=J Z;clear R Z aN;have bo:=J ax;clear ax
 go_in
 go_upto_region 1 with fail
 refine fv fun aG au ai aX U=>?_
 have I:=au;have aC:=ai.aI;have a':=aX.da;have ak:=U.aI;have fQ:=U.lt
 go_upto_region 2 with fail
 refine cF fun kh al cL=>?_
 replace I:=aj I al;have bA:=cL.aM;clear aC;replace ai:=ai.to al;have aC:=ai.aI;clear a';replace aX:=aX.to al;have a':=aX.da;clear ak;replace U:=U.to al;have ak:=U.aI
 go_wp2_with fail
 refine (anb ag af sp an c2 ws ao c3 ad bg.out.h2 bg.out.h3 bg.out.n2 bg.out.n3 bg.out.cp bg.out.ef bo.out _ (bC.out.r2.ae (aj I az)) (bC.out.hG.ae (aj I az))).mono ?_
 exact Pa
theorem amf (aq ar an ao aA:Option Addr) (c0 av c2 c3 c4:Nat) (rs:List aK) (qs:List aQ) (ag af sp:Int) (ws:List Int) (ad:List aO) (os:List Out) (Z:ei aq ar an ao aA c0 av c2 c3 c4 rs qs ws ad os) (mem val yes no bq:Int) (bJ:hl rs qs= false) (aN:dt rs qs= true) (w:World) (R:dI w aq ar an ao aA rs qs ws ad os):
 Calls Tryz.prog 235 #[.agg #[.slice aq rs c0,.slice ar qs av,ag,af,sp,.slice an ws c2,.slice ao ad c3,.slice aA os c4],.agg #[(3:Int),mem,val,yes,no,bq]] w fun e ah=>e= .returned (.tuple #[.agg #[.slice none 0 0,.slice none 0 0,(0:Int),(0:Int),(0:Int),.slice none 0 0,.slice none 0 0,.slice none 0 0],false])∧Below w w ah:=by
 have bC:=J R;have bg:=J Z;have ea:=J aN;clear R Z aN;have fz:=J bJ;clear bJ
 go_in
 go_upto_region 1 with fail
 refine fv fun aG au ai aX U=>?_
 have I:=au;have aC:=ai.aI;have a':=aX.da;have ak:=U.aI
 go_upto_region 2 with fail
 refine cF fun kh al cL=>?_
 replace I:=aj I al;clear aC;replace ai:=ai.to al;have aC:=ai.aI;clear a';replace aX:=aX.to al;have a':=aX.da;clear ak;replace U:=U.to al;have ak:=U.aI
 go_wp2_with fail
 refine (zr rs qs aq ar c0 av bg.out.h0 bg.out.h1 ea.out false fz.out _ (bC.out.fx.ae (aj I az)) (bC.out.dL.ae (aj I az))).mono ?_
 rintro e bB ⟨rfl,bx⟩
 have aP:=be kh bx;replace I:=aj I aP;clear aC;clear a';replace U:=U.to aP;clear ak;have ak:=U.aI
 exact Yu
theorem amo (aq ar an ao aA:Option Addr) (c0 av c2 c3 c4:Nat) (rs:List aK) (qs:List aQ) (ag af sp:Int) (ws:List Int) (ad:List aO) (os:List Out) (Z:ei aq ar an ao aA c0 av c2 c3 c4 rs qs ws ad os) (kind mem val yes no bq:Int) (qY:(kind == 3)= false) (vF:(kind == 4)= false) (apC:(kind == 5)= false) (aeR:(kind == 6)= false) (aN:dt rs qs= true) (w:World) (R:dI w aq ar an ao aA rs qs ws ad os):
 Calls Tryz.prog 235 #[.agg #[.slice aq rs c0,.slice ar qs av,ag,af,sp,.slice an ws c2,.slice ao ad c3,.slice aA os c4],.agg #[kind,mem,val,yes,no,bq]] w fun e ah=>e= .returned (.tuple #[.agg #[.slice none 0 0,.slice none 0 0,(0:Int),(0:Int),(0:Int),.slice none 0 0,.slice none 0 0,.slice none 0 0],false])∧Below w w ah:=by
 clear R Z aN
 go_in
 go_upto_region 1 with fail
 refine fv fun aG au ai aX U=>?_
 have I:=au;have a':=aX.da;have ak:=U.aI
 go_upto_region 2 with fail
 refine cF fun kh al cL=>?_
 replace I:=aj I al;clear a';replace aX:=aX.to al;have a':=aX.da;clear ak;replace U:=U.to al;have ak:=U.aI;have dM:=U.ib
 go_wp2
 clear a' ak
 refine hR 0 fun cD aE=>?_
 replace I:=aE.aH I;replace U:=aE.ia U;have ak:=U.aI
 exact hD ⟨rfl,I⟩ (by simp [results,Tryz.results235,go_sem,ak])
open Go.RowKit Go.G9
theorem TM (ag af sp:Int) (an:Option Addr) (c2:Nat) (ws:List Int) (ao:Option Addr) (c3:Nat) (ad:List aO) (h2:ws.length≤1048576) (h3:ad.length≤1048576) (n2:an= none→ws= []∧c2= 0) (n3:ao= none→ad= []∧c3= 0) (cp:ws.length≤c2) (mem:Int) (dk:Int) (bP:List Int) (bS:List aO) (ax:mM ⟨ag,af,sp,ws,ad⟩ mem= true) (he:py ⟨ag,af,sp,ws,ad⟩ mem=⟨ag,af,dk,bP,bS⟩) (w:World) (bw:aS 1 bV w an ws) (bt:aS 3 aO.cells w ao ad):
 Calls Tryz.prog 258 #[.agg #[ag,af,sp,.slice an ws c2,.slice ao ad c3],mem] w fun e ah=>∃aZ d2 bk d3,e= .returned (.tuple #[.agg #[ag,af,dk,.slice aZ bP d2,.slice bk bS d3],true])∧jC w.heap.size ah aZ d2 bk d3 bP bS∧Below w w ah:=by
 have e1:=congrArg eo.sp he;have e3:=congrArg eo.ad he;have e2:=congrArg eo.ws he
 simp only [py,qx] at e1 e2 e3
 subst e1;subst e3;subst e2
 exact ahk ag af sp an c2 ws ao c3 ad h2 h3 n2 n3 cp mem ax w bw bt
theorem TN (ag af sp:Int) (an:Option Addr) (c2:Nat) (ws:List Int) (ao:Option Addr) (c3:Nat) (ad:List aO) (h2:ws.length≤1048576) (h3:ad.length≤1048576) (n2:an= none→ws= []∧c2= 0) (n3:ao= none→ad= []∧c3= 0) (cp:ws.length≤c2) (q:Int) (bj:rA ⟨ag,af,sp,ws,ad⟩ =some q) (dk:Int) (bP:List Int) (bS:List aO) (ax:lP ⟨ag,af,sp,ws,ad⟩ =true) (he:qx ⟨ag,af,sp,ws,ad⟩ q=⟨ag,af,dk,bP,bS⟩) (w:World) (bw:aS 1 bV w an ws) (bt:aS 3 aO.cells w ao ad):
 Calls Tryz.prog 259 #[.agg #[ag,af,sp,.slice an ws c2,.slice ao ad c3]] w fun e ah=>∃aZ d2 bk d3,e= .returned (.tuple #[.agg #[ag,af,dk,.slice aZ bP d2,.slice bk bS d3],q,true])∧jC w.heap.size ah aZ d2 bk d3 bP bS∧Below w w ah:=by
 have e1:=congrArg eo.sp he;have e3:=congrArg eo.ad he;have e2:=congrArg eo.ws he
 simp only [py,qx] at e1 e2 e3
 subst e1;subst e3;subst e2
 exact aim ag af sp an c2 ws ao c3 ad h2 h3 n2 n3 cp ax q bj w bw bt
theorem TO (ag af sp:Int) (an:Option Addr) (c2:Nat) (ws:List Int) (ao:Option Addr) (c3:Nat) (ad:List aO) (h2:ws.length≤1048576) (h3:ad.length≤1048576) (n2:an= none→ws= []∧c2= 0) (n3:ao= none→ad= []∧c3= 0) (cp:ws.length≤c2) (val:Int) (dk:Int) (bP:List Int) (bS:List aO) (ax:nf ⟨ag,af,sp,ws,ad⟩ val= true) (he:jt ⟨ag,af,sp,ws,ad⟩ val=⟨ag,af,dk,bP,bS⟩) (w:World) (bw:aS 1 bV w an ws) (bt:aS 3 aO.cells w ao ad):
 Calls Tryz.prog 260 #[.agg #[ag,af,sp,.slice an ws c2,.slice ao ad c3],val] w fun e ah=>∃aZ d2 bk d3,e= .returned (.tuple #[.agg #[ag,af,dk,.slice aZ bP d2,.slice bk bS d3],.int .i64 (ss ⟨ag,af,sp,ws,ad⟩ val),true])∧jC w.heap.size ah aZ d2 bk d3 bP bS∧Below w w ah:=by
 have e1:(jt ⟨ag,af,sp,ws,ad⟩ val).sp= dk:=by rw [he]
 have e3:(jt ⟨ag,af,sp,ws,ad⟩ val).ad= bS:=by rw [he]
 have e2:ws= bP:=by
  exact ZD
 subst e1;subst e3;subst e2
 exact ais ag af sp an c2 ws ao c3 ad h2 h3 n2 n3 cp val ax w bw bt
theorem TP (ag af sp:Int) (an:Option Addr) (c2:Nat) (ws:List Int) (ao:Option Addr) (c3:Nat) (ad:List aO) (h2:ws.length≤1048576) (h3:ad.length≤1048576) (n2:an= none→ws= []∧c2= 0) (n3:ao= none→ad= []∧c3= 0) (cp:ws.length≤c2) (dk:Int) (bP:List Int) (bS:List aO) (ax:lE ⟨ag,af,sp,ws,ad⟩ =true) (he:lW ⟨ag,af,sp,ws,ad⟩ =⟨ag,af,dk,bP,bS⟩) (w:World) (bw:aS 1 bV w an ws) (bt:aS 3 aO.cells w ao ad):
 Calls Tryz.prog 261 #[.agg #[ag,af,sp,.slice an ws c2,.slice ao ad c3]] w fun e ah=>∃aZ d2 bk d3,e= .returned (.tuple #[.agg #[ag,af,dk,.slice aZ bP d2,.slice bk bS d3],true])∧jC w.heap.size ah aZ d2 bk d3 bP bS∧Below w w ah:=by
 have e1:(0:Int)= dk:=congrArg eo.sp he
 have e3:(lW ⟨ag,af,sp,ws,ad⟩).ad= bS:=by rw [he]
 have e2:ws= bP:=congrArg eo.ws he
 subst e1;subst e3;subst e2
 exact aiA ag af sp an c2 ws ao c3 ad h2 h3 n2 n3 cp ax w bw bt
theorem IY {p:Prop} (h:p:=by
 rintro e bB ⟨aZ,d2,bk,d3,rfl,di,bx⟩
 have aP:=be kh bx;replace I:=aj I aP;replace ai:=ai.to aP;clear aC;have aC:=ai.aI;clear a';replace U:=U.to aP;clear ak;have ak:=U.aI;replace cL:=cL.to aP;clear bA;have bA:=cL.aM;have bI:=di.fi;have bD:=di.fO;clear di;have qV:=cL.iE;have ez:=bI.cu cL;have dG:=bD.cu cL
 go_upto_region 11 with fail
 clear aC ak bA
 refine gF 0 fun nK fy=>?_
 replace I:=fy.aH I;replace ai:=fy.dV ai;replace U:=fy.dV U;replace cL:=fy.hV cL;replace bI:=bI.bY fy ez;replace bD:=bD.bY fy dG;have aC:=ai.aI;have ak:=U.aI;have bA:=cL.aM;clear ez dG qV;have ha:=cL.lt
 go_wp2_with fail
 refine (Bq rs qs ag af sp ws ad os aq ar an ao aA c0 av c2 c3 c4 bg.out.h0 bg.out.h1 bg.out.h2 bg.out.h3 bg.out.h4 ea.out true fz.out _ (bC.out.fx.ae (aj I az)) (bC.out.dL.ae (aj I az)) (bC.out.r2.ae (aj I az)) (bC.out.hG.ae (aj I az)) (bC.out.nV.ae (aj I az))).mono ?_
 rintro e bU ⟨rfl,cY⟩
 have bN:=be nK cY;replace I:=aj I bN;replace bI:=bI.bm bN;replace bD:=bD.bm bN;replace ai:=ai.to bN;clear aC;have aC:=ai.aI;replace U:=U.to bN;clear ak;have ak:=U.aI;replace cL:=cL.to bN;clear bA;have bA:=cL.aM;have anC:=bN.size
 go_wp2_with fail
 refine (HY aq ar an ao aA c0 av c2 c3 c4 rs qs ag af sp ws ad os bg.out _ (bC.out.ae (aj I az))).mono ?_
 rintro e dB ⟨cy,e0,cv,e1,cU,e2,cV,e3,cA,e4,rfl,di,eD⟩
 have cK:=be bU eD;replace I:=aj I cK;replace bI:=bI.bm cK;replace bD:=bD.bm cK;clear aC;replace U:=U.to cK;clear ak;have ak:=U.aI;replace cL:=cL.to cK;clear bA;have bA:=cL.aM;have anD:=cK.size;have IC:=I.size
 go_upto_region 14 with fail
 have kH:=di.bm (bT dB (.cells #[.slice cy rs e0,.slice cv qs e1,ag,af,sp,.slice cU ws e2,.slice cV ad e3,.slice cA os e4] 44));have eQ:Below dB dB (World.alloc dB (.cells #[.slice cy rs e0,.slice cv qs e1,ag,af,sp,.slice cU ws e2,.slice cV ad e3,.slice cA os e4] 44)):=bT dB _
 have aR:=aB.new dB 44 #[.slice cy rs e0,.slice cv qs e1,ag,af,sp,.slice cU ws e2,.slice cV ad e3,.slice cA os e4]
 replace bI:=bI.bm eQ;replace bD:=bD.bm eQ
 generalize World.alloc dB (.cells #[.slice cy rs e0,.slice cv qs e1,ag,af,sp,.slice cU ws e2,.slice cV ad e3,.slice cA os e4] 44)= sB at *
 replace I:=aj I eQ;have bF:=aR.aI;clear ak;replace U:=U.to eQ;have ak:=U.aI;clear bA;replace cL:=cL.to eQ;have bA:=cL.aM;have cJ:=kH.kz;have cI:=kH.iz;have cz:=kH.lR;clear kH;have pG:=aR.frozen 2;have qW:=aR.frozen 3;have vA:=aR.frozen 4;have vB:=aR.frozen 5;have vC:=aR.frozen 6;have fM:=cJ.cu aR;have iY:=cI.cu aR;have ez:=bI.cu aR
 have dG:=bD.cu aR;have fN:=cz.cu aR
 go_upto_region 15 with fail
 clear ak bA bF
 refine gF 2 fun lx eJ=>?_
 replace I:=eJ.aH I;replace U:=eJ.dV U;replace aR:=eJ.EW aR;replace bI:=bI.bY eJ ez;replace bD:=bD.bY eJ dG;replace cJ:=cJ.bY eJ fM;replace cI:=cI.bY eJ iY
 replace cz:=cz.bY eJ fN;have ak:=U.aI;have bF:=aR.aI;clear fM iY ez dG fN pG qW vA vB vC;have fM:=cJ.cu U;have iY:=cI.cu U;have ez:=bI.cu U;have dG:=bD.cu U;have fN:=cz.cu U;have dM:=U.ib
 go_wp2
 clear ak bF
 refine hR 0 fun cD aE=>?_
 replace I:=aE.aH I;replace U:=aE.ia U;replace bI:=bI.bY aE ez;replace bD:=bD.bY aE dG;replace cJ:=cJ.bY aE fM;replace cI:=cI.bY aE iY;replace cz:=cz.bY aE fN;have ak:=U.aI
 exact hD ⟨cy,e0,cv,e1,aZ,d2,bk,d3,cA,e4,rfl,⟨cJ.base (by omega),cI.base (by omega),bI.base (by omega),bD.base (by omega),cz.base (by omega)⟩,I⟩ (by simp [results,Tryz.results179,go_sem,ak])):p:=h
theorem ahz (aq ar an ao aA:Option Addr) (c0 av c2 c3 c4:Nat) (rs:List aK) (qs:List aQ) (ag af sp:Int) (ws:List Int) (ad:List aO) (os:List Out) (Z:ei aq ar an ao aA c0 av c2 c3 c4 rs qs ws ad os) (mem val yes no bq:Int) (dk:Int) (bP:List Int) (bS:List aO) (ax:mM ⟨ag,af,sp,ws,ad⟩ mem= true) (he:py ⟨ag,af,sp,ws,ad⟩ mem=⟨ag,af,dk,bP,bS⟩) (aN:dt rs qs= true) (bJ:hl rs qs= true) (w:World) (R:dI w aq ar an ao aA rs qs ws ad os):
 Calls Tryz.prog 179 #[.agg #[.slice aq rs c0,.slice ar qs av,ag,af,sp,.slice an ws c2,.slice ao ad c3,.slice aA os c4],.agg #[(3:Int),mem,val,yes,no,bq]] w fun e ah=>∃cy e0 cv e1 aZ d2 bk d3 cA e4,e= .returned (.tuple #[.agg #[.slice cy rs e0,.slice cv qs e1,ag,af,dk,.slice aZ bP d2,.slice bk bS d3,.slice cA os e4],true])∧fP w ah cy e0 cv e1 aZ d2 bk d3 cA e4 rs qs bP bS os∧Below w w ah:=by
 have bC:=J R;have bg:=J Z;have ea:=J aN;have fz:=J bJ;have bo:=J ax;have cW:=J he;clear R Z aN bJ ax he
 go_in
 go_upto_region 1 with fail
 refine fv fun aG au ai aX U=>?_
 have I:=au;have aC:=ai.aI;have a':=aX.da;have ak:=U.aI;have fQ:=U.lt
 go_upto_region 2 with fail
 refine cF fun kh al cL=>?_
 replace I:=aj I al;have bA:=cL.aM;clear aC;replace ai:=ai.to al;have aC:=ai.aI;clear a';replace aX:=aX.to al;have a':=aX.da;clear ak;replace U:=U.to al;have ak:=U.aI;have tp:=cL.lt
 go_wp2_with fail
 refine (TM ag af sp an c2 ws ao c3 ad bg.out.h2 bg.out.h3 bg.out.n2 bg.out.n3 bg.out.cp mem dk bP bS bo.out cW.out _ (bC.out.r2.ae (aj I az)) (bC.out.hG.ae (aj I az))).mono ?_
 exact IY
theorem ahC (aq ar an ao aA:Option Addr) (c0 av c2 c3 c4:Nat) (rs:List aK) (qs:List aQ) (ag af sp:Int) (ws:List Int) (ad:List aO) (os:List Out) (Z:ei aq ar an ao aA c0 av c2 c3 c4 rs qs ws ad os) (mem val yes no bq:Int) (q:Int) (bj:rA ⟨ag,af,sp,ws,ad⟩ =some q) (dk:Int) (bP:List Int) (bS:List aO) (ax:lP ⟨ag,af,sp,ws,ad⟩ =true) (he:qx ⟨ag,af,sp,ws,ad⟩ q=⟨ag,af,dk,bP,bS⟩) (aN:dt rs qs= true) (bJ:hl rs qs= true) (w:World) (R:dI w aq ar an ao aA rs qs ws ad os):
 Calls Tryz.prog 179 #[.agg #[.slice aq rs c0,.slice ar qs av,ag,af,sp,.slice an ws c2,.slice ao ad c3,.slice aA os c4],.agg #[(4:Int),mem,val,yes,no,bq]] w fun e ah=>∃cy e0 cv e1 aZ d2 bk d3 cA e4,e= .returned (.tuple #[.agg #[.slice cy rs e0,.slice cv qs e1,ag,af,dk,.slice aZ bP d2,.slice bk bS d3,.slice cA os e4],true])∧fP w ah cy e0 cv e1 aZ d2 bk d3 cA e4 rs qs bP bS os∧Below w w ah:=by
 have bC:=J R;have bg:=J Z;have ea:=J aN;have fz:=J bJ;have bo:=J ax;have cW:=J he;have dH:=J bj;clear R Z aN bJ ax he bj
 go_in
 go_upto_region 1 with fail
 refine fv fun aG au ai aX U=>?_
 have I:=au;have aC:=ai.aI;have a':=aX.da;have ak:=U.aI;have fQ:=U.lt
 go_upto_region 2 with fail
 refine cF fun kh al cL=>?_
 replace I:=aj I al;have bA:=cL.aM;clear aC;replace ai:=ai.to al;have aC:=ai.aI;clear a';replace aX:=aX.to al;have a':=aX.da;clear ak;replace U:=U.to al;have ak:=U.aI;have tp:=cL.lt
 go_wp2_with fail
 refine (TN ag af sp an c2 ws ao c3 ad bg.out.h2 bg.out.h3 bg.out.n2 bg.out.n3 bg.out.cp q dH.out dk bP bS bo.out cW.out _ (bC.out.r2.ae (aj I az)) (bC.out.hG.ae (aj I az))).mono ?_
 exact IY
theorem ahF (aq ar an ao aA:Option Addr) (c0 av c2 c3 c4:Nat) (rs:List aK) (qs:List aQ) (ag af sp:Int) (ws:List Int) (ad:List aO) (os:List Out) (Z:ei aq ar an ao aA c0 av c2 c3 c4 rs qs ws ad os) (mem val yes no bq:Int) (dk:Int) (bP:List Int) (bS:List aO) (ax:nf ⟨ag,af,sp,ws,ad⟩ val= true) (he:jt ⟨ag,af,sp,ws,ad⟩ val=⟨ag,af,dk,bP,bS⟩) (aN:dt rs qs= true) (bJ:hl rs qs= true) (w:World) (R:dI w aq ar an ao aA rs qs ws ad os):
 Calls Tryz.prog 179 #[.agg #[.slice aq rs c0,.slice ar qs av,ag,af,sp,.slice an ws c2,.slice ao ad c3,.slice aA os c4],.agg #[(5:Int),mem,val,yes,no,bq]] w fun e ah=>∃cy e0 cv e1 aZ d2 bk d3 cA e4,e= .returned (.tuple #[.agg #[.slice cy rs e0,.slice cv qs e1,ag,af,dk,.slice aZ bP d2,.slice bk bS d3,.slice cA os e4],true])∧fP w ah cy e0 cv e1 aZ d2 bk d3 cA e4 rs qs bP bS os∧Below w w ah:=by
 have bC:=J R;have bg:=J Z;have ea:=J aN;have fz:=J bJ;have bo:=J ax;have cW:=J he;clear R Z aN bJ ax he
 go_in
 go_upto_region 1 with fail
 refine fv fun aG au ai aX U=>?_
 have I:=au;have aC:=ai.aI;have a':=aX.da;have ak:=U.aI;have fQ:=U.lt
 go_upto_region 2 with fail
 refine cF fun kh al cL=>?_
 replace I:=aj I al;have bA:=cL.aM;clear aC;replace ai:=ai.to al;have aC:=ai.aI;clear a';replace aX:=aX.to al;have a':=aX.da;clear ak;replace U:=U.to al;have ak:=U.aI;have tp:=cL.lt
 go_wp2_with fail
 refine (TO ag af sp an c2 ws ao c3 ad bg.out.h2 bg.out.h3 bg.out.n2 bg.out.n3 bg.out.cp val dk bP bS bo.out cW.out _ (bC.out.r2.ae (aj I az)) (bC.out.hG.ae (aj I az))).mono ?_
 exact IY
theorem ahI (aq ar an ao aA:Option Addr) (c0 av c2 c3 c4:Nat) (rs:List aK) (qs:List aQ) (ag af sp:Int) (ws:List Int) (ad:List aO) (os:List Out) (Z:ei aq ar an ao aA c0 av c2 c3 c4 rs qs ws ad os) (mem val yes no bq:Int) (dk:Int) (bP:List Int) (bS:List aO) (ax:lE ⟨ag,af,sp,ws,ad⟩ =true) (he:lW ⟨ag,af,sp,ws,ad⟩ =⟨ag,af,dk,bP,bS⟩) (aN:dt rs qs= true) (bJ:hl rs qs= true) (w:World) (R:dI w aq ar an ao aA rs qs ws ad os):
 Calls Tryz.prog 179 #[.agg #[.slice aq rs c0,.slice ar qs av,ag,af,sp,.slice an ws c2,.slice ao ad c3,.slice aA os c4],.agg #[(6:Int),mem,val,yes,no,bq]] w fun e ah=>∃cy e0 cv e1 aZ d2 bk d3 cA e4,e= .returned (.tuple #[.agg #[.slice cy rs e0,.slice cv qs e1,ag,af,dk,.slice aZ bP d2,.slice bk bS d3,.slice cA os e4],true])∧fP w ah cy e0 cv e1 aZ d2 bk d3 cA e4 rs qs bP bS os∧Below w w ah:=by
 have bC:=J R;have bg:=J Z;have ea:=J aN;have fz:=J bJ;have bo:=J ax;have cW:=J he;clear R Z aN bJ ax he
 go_in
 go_upto_region 1 with fail
 refine fv fun aG au ai aX U=>?_
 have I:=au;have aC:=ai.aI;have a':=aX.da;have ak:=U.aI;have fQ:=U.lt
 go_upto_region 2 with fail
 refine cF fun kh al cL=>?_
 replace I:=aj I al;have bA:=cL.aM;clear aC;replace ai:=ai.to al;have aC:=ai.aI;clear a';replace aX:=aX.to al;have a':=aX.da;clear ak;replace U:=U.to al;have ak:=U.aI;have tp:=cL.lt
 go_wp2_with fail
 refine (TP ag af sp an c2 ws ao c3 ad bg.out.h2 bg.out.h3 bg.out.n2 bg.out.n3 bg.out.cp dk bP bS bo.out cW.out _ (bC.out.r2.ae (aj I az)) (bC.out.hG.ae (aj I az))).mono ?_
 exact IY
theorem Jb {p:Prop} (h:p:=by
 rintro e bB ⟨rfl,bx⟩
 have aP:=be kh bx;replace I:=aj I aP;clear aC;clear a';replace U:=U.to aP;clear ak;have ak:=U.aI;replace cL:=cL.to aP;clear bA;have bA:=cL.aM;have qV:=cL.iE
 go_upto_region 11 with fail
 clear ak bA
 refine gF 0 fun nK fy=>?_
 replace I:=fy.aH I;replace U:=fy.dV U;have ak:=U.aI;clear qV;have dM:=U.ib
 go_wp2
 clear ak
 refine hR 0 fun cD aE=>?_
 replace I:=aE.aH I;replace U:=aE.ia U;have ak:=U.aI
 exact hD ⟨rfl,I⟩ (by simp [results,Tryz.results179,go_sem,ak])):p:=h
theorem ahy (aq ar an ao aA:Option Addr) (c0 av c2 c3 c4:Nat) (rs:List aK) (qs:List aQ) (ag af sp:Int) (ws:List Int) (ad:List aO) (os:List Out) (Z:ei aq ar an ao aA c0 av c2 c3 c4 rs qs ws ad os) (mem val yes no bq:Int) (ax:mM ⟨ag,af,sp,ws,ad⟩ mem= false) (aN:dt rs qs= true) (w:World) (R:dI w aq ar an ao aA rs qs ws ad os):
 Calls Tryz.prog 179 #[.agg #[.slice aq rs c0,.slice ar qs av,ag,af,sp,.slice an ws c2,.slice ao ad c3,.slice aA os c4],.agg #[(3:Int),mem,val,yes,no,bq]] w fun e ah=>e= .returned (.tuple #[.agg #[.slice none 0 0,.slice none 0 0,(0:Int),(0:Int),(0:Int),.slice none 0 0,.slice none 0 0,.slice none 0 0],false])∧Below w w ah:=by
 have bC:=J R;have bg:=J Z;clear R Z aN;have bo:=J ax;clear ax
 go_in
 go_upto_region 1 with fail
 refine fv fun aG au ai aX U=>?_
 have I:=au;have aC:=ai.aI;have a':=aX.da;have ak:=U.aI;have fQ:=U.lt
 go_upto_region 2 with fail
 refine cF fun kh al cL=>?_
 replace I:=aj I al;have bA:=cL.aM;clear aC;replace ai:=ai.to al;have aC:=ai.aI;clear a';replace aX:=aX.to al;have a':=aX.da;clear ak;replace U:=U.to al;have ak:=U.aI
 go_wp2_with fail
 refine (ahj ag af sp an c2 ws ao c3 ad bg.out.h2 bg.out.h3 bg.out.n2 bg.out.n3 bg.out.cp mem bo.out _ (bC.out.r2.ae (aj I az)) (bC.out.hG.ae (aj I az))).mono ?_
 exact Jb
theorem Pc {p:Prop} (h:p:=by
 have e1:=congrArg eo.ag he;have e2:=congrArg eo.af he
 simp only [py,qx,lW] at e1 e2
 first | exact⟨e1,e2⟩ | (unfold jt at e1 e2;split at e1 <;> rename_i aH <;> (first | rw [if_pos aH] at e2 | rw [if_neg aH] at e2) <;> exact⟨e1,e2⟩)):p:=h
theorem IZ {p:Prop} (h:p:=by
 rintro e bB ⟨aZ,d2,bk,d3,rfl,di,bx⟩
 have aP:=be kh bx;replace I:=aj I aP;replace ai:=ai.to aP;clear aC;have aC:=ai.aI;clear a';replace U:=U.to aP;clear ak;have ak:=U.aI;replace cL:=cL.to aP;clear bA;have bA:=cL.aM;clear di;have qV:=cL.iE
 go_upto_region 11 with fail
 clear aC ak bA
 refine gF 0 fun nK fy=>?_
 replace I:=fy.aH I;replace ai:=fy.dV ai;replace U:=fy.dV U;have aC:=ai.aI;have ak:=U.aI;clear qV
 go_wp2_with fail
 refine (Bq rs qs ag af sp ws ad os aq ar an ao aA c0 av c2 c3 c4 bg.out.h0 bg.out.h1 bg.out.h2 bg.out.h3 bg.out.h4 ea.out false fz.out _ (bC.out.fx.ae (aj I az)) (bC.out.dL.ae (aj I az)) (bC.out.r2.ae (aj I az)) (bC.out.hG.ae (aj I az)) (bC.out.nV.ae (aj I az))).mono ?_
 rintro e bU ⟨rfl,cY⟩
 have bN:=be nK cY;replace I:=aj I bN;clear aC;replace U:=U.to bN;clear ak;have ak:=U.aI;have dM:=U.ib
 go_wp2
 clear ak
 refine hR 0 fun cD aE=>?_
 replace I:=aE.aH I;replace U:=aE.ia U;have ak:=U.aI
 exact hD ⟨rfl,I⟩ (by simp [results,Tryz.results179,go_sem,ak])):p:=h
theorem ahx (aq ar an ao aA:Option Addr) (c0 av c2 c3 c4:Nat) (rs:List aK) (qs:List aQ) (ag af sp:Int) (ws:List Int) (ad:List aO) (os:List Out) (Z:ei aq ar an ao aA c0 av c2 c3 c4 rs qs ws ad os) (mem val yes no bq:Int) (ax:mM ⟨ag,af,sp,ws,ad⟩ mem= true) (bJ:hl rs qs= false) (aN:dt rs qs= true) (w:World) (R:dI w aq ar an ao aA rs qs ws ad os):
 Calls Tryz.prog 179 #[.agg #[.slice aq rs c0,.slice ar qs av,ag,af,sp,.slice an ws c2,.slice ao ad c3,.slice aA os c4],.agg #[(3:Int),mem,val,yes,no,bq]] w fun e ah=>e= .returned (.tuple #[.agg #[.slice none 0 0,.slice none 0 0,(0:Int),(0:Int),(0:Int),.slice none 0 0,.slice none 0 0,.slice none 0 0],false])∧Below w w ah:=by
 have bC:=J R;have bg:=J Z;have ea:=J aN;clear R Z aN;have bo:=J ax;clear ax;have fz:=J bJ;clear bJ
 obtain⟨⟨fg,bZ,dk,bP,bS⟩,he⟩ :∃f,py ⟨ag,af,sp,ws,ad⟩ mem= f:=⟨_,rfl⟩
 obtain⟨rfl,rfl⟩ :ag= fg∧af= bZ:=by
  exact Pc
 have cW:=J he;clear he
 go_in
 go_upto_region 1 with fail
 refine fv fun aG au ai aX U=>?_
 have I:=au;have aC:=ai.aI;have a':=aX.da;have ak:=U.aI;have fQ:=U.lt
 go_upto_region 2 with fail
 refine cF fun kh al cL=>?_
 replace I:=aj I al;have bA:=cL.aM;clear aC;replace ai:=ai.to al;have aC:=ai.aI;clear a';replace aX:=aX.to al;have a':=aX.da;clear ak;replace U:=U.to al;have ak:=U.aI
 go_wp2_with fail
 refine (TM ag af sp an c2 ws ao c3 ad bg.out.h2 bg.out.h3 bg.out.n2 bg.out.n3 bg.out.cp mem dk bP bS bo.out cW.out _ (bC.out.r2.ae (aj I az)) (bC.out.hG.ae (aj I az))).mono ?_
 exact IZ
theorem ahB (aq ar an ao aA:Option Addr) (c0 av c2 c3 c4:Nat) (rs:List aK) (qs:List aQ) (ag af sp:Int) (ws:List Int) (ad:List aO) (os:List Out) (Z:ei aq ar an ao aA c0 av c2 c3 c4 rs qs ws ad os) (mem val yes no bq:Int) (ax:lP ⟨ag,af,sp,ws,ad⟩ =false) (aN:dt rs qs= true) (w:World) (R:dI w aq ar an ao aA rs qs ws ad os):
 Calls Tryz.prog 179 #[.agg #[.slice aq rs c0,.slice ar qs av,ag,af,sp,.slice an ws c2,.slice ao ad c3,.slice aA os c4],.agg #[(4:Int),mem,val,yes,no,bq]] w fun e ah=>e= .returned (.tuple #[.agg #[.slice none 0 0,.slice none 0 0,(0:Int),(0:Int),(0:Int),.slice none 0 0,.slice none 0 0,.slice none 0 0],false])∧Below w w ah:=by
 have bC:=J R;have bg:=J Z;clear R Z aN;have bo:=J ax;clear ax
 go_in
 go_upto_region 1 with fail
 refine fv fun aG au ai aX U=>?_
 have I:=au;have aC:=ai.aI;have a':=aX.da;have ak:=U.aI;have fQ:=U.lt
 go_upto_region 2 with fail
 refine cF fun kh al cL=>?_
 replace I:=aj I al;have bA:=cL.aM;clear aC;replace ai:=ai.to al;have aC:=ai.aI;clear a';replace aX:=aX.to al;have a':=aX.da;clear ak;replace U:=U.to al;have ak:=U.aI
 go_wp2_with fail
 refine (ail ag af sp an c2 ws ao c3 ad bg.out.h2 bg.out.h3 bg.out.n2 bg.out.n3 bg.out.cp bo.out _ (bC.out.r2.ae (aj I az)) (bC.out.hG.ae (aj I az))).mono ?_
 exact Jb
theorem ahA (aq ar an ao aA:Option Addr) (c0 av c2 c3 c4:Nat) (rs:List aK) (qs:List aQ) (ag af sp:Int) (ws:List Int) (ad:List aO) (os:List Out) (Z:ei aq ar an ao aA c0 av c2 c3 c4 rs qs ws ad os) (mem val yes no bq:Int) (ax:lP ⟨ag,af,sp,ws,ad⟩ =true) (bJ:hl rs qs= false) (aN:dt rs qs= true) (w:World) (R:dI w aq ar an ao aA rs qs ws ad os):
 Calls Tryz.prog 179 #[.agg #[.slice aq rs c0,.slice ar qs av,ag,af,sp,.slice an ws c2,.slice ao ad c3,.slice aA os c4],.agg #[(4:Int),mem,val,yes,no,bq]] w fun e ah=>e= .returned (.tuple #[.agg #[.slice none 0 0,.slice none 0 0,(0:Int),(0:Int),(0:Int),.slice none 0 0,.slice none 0 0,.slice none 0 0],false])∧Below w w ah:=by
 have bC:=J R;have bg:=J Z;have ea:=J aN;clear R Z aN;have bo:=J ax;clear ax;have fz:=J bJ;clear bJ
 obtain⟨q,bj,_⟩:=Np (f:=⟨ag,af,sp,ws,ad⟩) (by have:=bo.out;simp only [lP,Bool.and_eq_true,decide_eq_true_eq] at this;exact this.2.2)
 have dH:=J bj;clear bj
 obtain⟨bP,he⟩ :∃bP,(qx ⟨ag,af,sp,ws,ad⟩ q)=⟨ag,af,q,bP,ad⟩:=⟨_,rfl⟩
 have cW:=J he;clear he
 go_in
 go_upto_region 1 with fail
 refine fv fun aG au ai aX U=>?_
 have I:=au;have aC:=ai.aI;have a':=aX.da;have ak:=U.aI;have fQ:=U.lt
 go_upto_region 2 with fail
 refine cF fun kh al cL=>?_
 replace I:=aj I al;have bA:=cL.aM;clear aC;replace ai:=ai.to al;have aC:=ai.aI;clear a';replace aX:=aX.to al;have a':=aX.da;clear ak;replace U:=U.to al;have ak:=U.aI
 go_wp2_with fail
 refine (TN ag af sp an c2 ws ao c3 ad bg.out.h2 bg.out.h3 bg.out.n2 bg.out.n3 bg.out.cp q dH.out q bP ad bo.out cW.out _ (bC.out.r2.ae (aj I az)) (bC.out.hG.ae (aj I az))).mono ?_
 exact IZ
theorem ahE (aq ar an ao aA:Option Addr) (c0 av c2 c3 c4:Nat) (rs:List aK) (qs:List aQ) (ag af sp:Int) (ws:List Int) (ad:List aO) (os:List Out) (Z:ei aq ar an ao aA c0 av c2 c3 c4 rs qs ws ad os) (mem val yes no bq:Int) (ax:nf ⟨ag,af,sp,ws,ad⟩ val= false) (aN:dt rs qs= true) (w:World) (R:dI w aq ar an ao aA rs qs ws ad os):
 Calls Tryz.prog 179 #[.agg #[.slice aq rs c0,.slice ar qs av,ag,af,sp,.slice an ws c2,.slice ao ad c3,.slice aA os c4],.agg #[(5:Int),mem,val,yes,no,bq]] w fun e ah=>e= .returned (.tuple #[.agg #[.slice none 0 0,.slice none 0 0,(0:Int),(0:Int),(0:Int),.slice none 0 0,.slice none 0 0,.slice none 0 0],false])∧Below w w ah:=by
 have bC:=J R;have bg:=J Z;clear R Z aN;have bo:=J ax;clear ax
 go_in
 go_upto_region 1 with fail
 refine fv fun aG au ai aX U=>?_
 have I:=au;have aC:=ai.aI;have a':=aX.da;have ak:=U.aI;have fQ:=U.lt
 go_upto_region 2 with fail
 refine cF fun kh al cL=>?_
 replace I:=aj I al;have bA:=cL.aM;clear aC;replace ai:=ai.to al;have aC:=ai.aI;clear a';replace aX:=aX.to al;have a':=aX.da;clear ak;replace U:=U.to al;have ak:=U.aI
 go_wp2_with fail
 refine (air ag af sp an c2 ws ao c3 ad bg.out.h2 bg.out.h3 bg.out.n2 bg.out.n3 bg.out.cp val bo.out _ (bC.out.r2.ae (aj I az)) (bC.out.hG.ae (aj I az))).mono ?_
 exact Jb
theorem ahD (aq ar an ao aA:Option Addr) (c0 av c2 c3 c4:Nat) (rs:List aK) (qs:List aQ) (ag af sp:Int) (ws:List Int) (ad:List aO) (os:List Out) (Z:ei aq ar an ao aA c0 av c2 c3 c4 rs qs ws ad os) (mem val yes no bq:Int) (ax:nf ⟨ag,af,sp,ws,ad⟩ val= true) (bJ:hl rs qs= false) (aN:dt rs qs= true) (w:World) (R:dI w aq ar an ao aA rs qs ws ad os):
 Calls Tryz.prog 179 #[.agg #[.slice aq rs c0,.slice ar qs av,ag,af,sp,.slice an ws c2,.slice ao ad c3,.slice aA os c4],.agg #[(5:Int),mem,val,yes,no,bq]] w fun e ah=>e= .returned (.tuple #[.agg #[.slice none 0 0,.slice none 0 0,(0:Int),(0:Int),(0:Int),.slice none 0 0,.slice none 0 0,.slice none 0 0],false])∧Below w w ah:=by
 have bC:=J R;have bg:=J Z;have ea:=J aN;clear R Z aN;have bo:=J ax;clear ax;have fz:=J bJ;clear bJ
 obtain⟨⟨fg,bZ,dk,bP,bS⟩,he⟩ :∃f,jt ⟨ag,af,sp,ws,ad⟩ val= f:=⟨_,rfl⟩
 obtain⟨rfl,rfl⟩ :ag= fg∧af= bZ:=by
  exact Pc
 have cW:=J he;clear he
 go_in
 go_upto_region 1 with fail
 refine fv fun aG au ai aX U=>?_
 have I:=au;have aC:=ai.aI;have a':=aX.da;have ak:=U.aI;have fQ:=U.lt
 go_upto_region 2 with fail
 refine cF fun kh al cL=>?_
 replace I:=aj I al;have bA:=cL.aM;clear aC;replace ai:=ai.to al;have aC:=ai.aI;clear a';replace aX:=aX.to al;have a':=aX.da;clear ak;replace U:=U.to al;have ak:=U.aI
 go_wp2_with fail
 refine (TO ag af sp an c2 ws ao c3 ad bg.out.h2 bg.out.h3 bg.out.n2 bg.out.n3 bg.out.cp val dk bP bS bo.out cW.out _ (bC.out.r2.ae (aj I az)) (bC.out.hG.ae (aj I az))).mono ?_
 exact IZ
theorem ahH (aq ar an ao aA:Option Addr) (c0 av c2 c3 c4:Nat) (rs:List aK) (qs:List aQ) (ag af sp:Int) (ws:List Int) (ad:List aO) (os:List Out) (Z:ei aq ar an ao aA c0 av c2 c3 c4 rs qs ws ad os) (mem val yes no bq:Int) (ax:lE ⟨ag,af,sp,ws,ad⟩ =false) (aN:dt rs qs= true) (w:World) (R:dI w aq ar an ao aA rs qs ws ad os):
 Calls Tryz.prog 179 #[.agg #[.slice aq rs c0,.slice ar qs av,ag,af,sp,.slice an ws c2,.slice ao ad c3,.slice aA os c4],.agg #[(6:Int),mem,val,yes,no,bq]] w fun e ah=>e= .returned (.tuple #[.agg #[.slice none 0 0,.slice none 0 0,(0:Int),(0:Int),(0:Int),.slice none 0 0,.slice none 0 0,.slice none 0 0],false])∧Below w w ah:=by
 have bC:=J R;have bg:=J Z;clear R Z aN;have bo:=J ax;clear ax
 go_in
 go_upto_region 1 with fail
 refine fv fun aG au ai aX U=>?_
 have I:=au;have aC:=ai.aI;have a':=aX.da;have ak:=U.aI;have fQ:=U.lt
 go_upto_region 2 with fail
 refine cF fun kh al cL=>?_
 replace I:=aj I al;have bA:=cL.aM;clear aC;replace ai:=ai.to al;have aC:=ai.aI;clear a';replace aX:=aX.to al;have a':=aX.da;clear ak;replace U:=U.to al;have ak:=U.aI
 go_wp2_with fail
 refine (aiz ag af sp an c2 ws ao c3 ad bg.out.h2 bg.out.h3 bg.out.n2 bg.out.n3 bg.out.cp bo.out _ (bC.out.r2.ae (aj I az)) (bC.out.hG.ae (aj I az))).mono ?_
 exact Jb
theorem ahG (aq ar an ao aA:Option Addr) (c0 av c2 c3 c4:Nat) (rs:List aK) (qs:List aQ) (ag af sp:Int) (ws:List Int) (ad:List aO) (os:List Out) (Z:ei aq ar an ao aA c0 av c2 c3 c4 rs qs ws ad os) (mem val yes no bq:Int) (ax:lE ⟨ag,af,sp,ws,ad⟩ =true) (bJ:hl rs qs= false) (aN:dt rs qs= true) (w:World) (R:dI w aq ar an ao aA rs qs ws ad os):
 Calls Tryz.prog 179 #[.agg #[.slice aq rs c0,.slice ar qs av,ag,af,sp,.slice an ws c2,.slice ao ad c3,.slice aA os c4],.agg #[(6:Int),mem,val,yes,no,bq]] w fun e ah=>e= .returned (.tuple #[.agg #[.slice none 0 0,.slice none 0 0,(0:Int),(0:Int),(0:Int),.slice none 0 0,.slice none 0 0,.slice none 0 0],false])∧Below w w ah:=by
 have bC:=J R;have bg:=J Z;have ea:=J aN;clear R Z aN;have bo:=J ax;clear ax;have fz:=J bJ;clear bJ
 obtain⟨⟨fg,bZ,dk,bP,bS⟩,he⟩ :∃f,lW ⟨ag,af,sp,ws,ad⟩ =f:=⟨_,rfl⟩
 obtain⟨rfl,rfl⟩ :ag= fg∧af= bZ:=by
  exact Pc
 have cW:=J he;clear he
 go_in
 go_upto_region 1 with fail
 refine fv fun aG au ai aX U=>?_
 have I:=au;have aC:=ai.aI;have a':=aX.da;have ak:=U.aI;have fQ:=U.lt
 go_upto_region 2 with fail
 refine cF fun kh al cL=>?_
 replace I:=aj I al;have bA:=cL.aM;clear aC;replace ai:=ai.to al;have aC:=ai.aI;clear a';replace aX:=aX.to al;have a':=aX.da;clear ak;replace U:=U.to al;have ak:=U.aI
 go_wp2_with fail
 refine (TP ag af sp an c2 ws ao c3 ad bg.out.h2 bg.out.h3 bg.out.n2 bg.out.n3 bg.out.cp dk bP bS bo.out cW.out _ (bC.out.r2.ae (aj I az)) (bC.out.hG.ae (aj I az))).mono ?_
 exact IZ
open Go.RowKit Go.G9
theorem aaI {p:Prop} (h:p:=by
 clear aN
 go_in
 go_wp2_with fail
 refine (nb aq c0 rs h0 ar av qs h1 _ ea.out _ (bf.ae az) (aW.ae az)).mono ?_
 rintro e bh ⟨rfl,br⟩
 have au:=be w br;have I:Below w w bh:=au;replace bf:=bf.ae au;replace aW:=aW.ae au
 go_wp2
 go_ret2
 exact⟨some ⟨_,0,none⟩,0,rfl,bd.made _ (by have:=I.size;first | omega | (simp;omega)) _,(aj I az)⟩):p:=h
theorem WT (aq:Option Addr) (c0:Nat) (rs:List aK) (h0:rs.length≤1048576) (ar:Option Addr) (av:Nat) (qs:List aQ) (h1:qs.length≤1048576) (hZ:qs.length≤av) (mem:Int) (w:World) (bf:aS 7 aK.cells w aq rs) (aW:aS 3 aQ.cells w ar qs):Calls Tryz.prog 233 #[.slice aq rs c0,.slice ar qs av,mem] w fun e ah=>∃A c,e= .returned (.tuple #[.slice A (iR (jX rs qs mem)).length c,.bool (jX rs qs mem).isSome])∧bd w 115 3 aQ.cells ah (.slice A (iR (jX rs qs mem)).length c) (iR (jX rs qs mem))∧Below w w ah:=by
 obtain⟨i0,hi,dn,dC,dz⟩:=info_parts si
 cases aN:dt rs qs
 ·have ea:=J aN
  rw [XV aN]
  exact aaI
 have ea:=J aN
 rw [XW aN]
 clear aN
 go_in
 go_wp2_with fail
 refine (nb aq c0 rs h0 ar av qs h1 _ ea.out _ (bf.ae az) (aW.ae az)).mono ?_
 rintro e bh ⟨rfl,br⟩
 have au:=be w br;have I:Below w w bh:=au;replace bf:=bf.ae au;replace aW:=aW.ae au;have sx:=I.size;have gh:=J aW;clear bf aW
 go_wp2
 go_loopw [8] (fun i wr=>∃k:Nat,k≤qs.length∧i= .int .i64 ((k:Int) - 1)∧ng qs mem qs.length= ng qs mem k∧Below bh bh wr) (fun i _=>(intOf i + 1).toNat)
 case atStart=>exact⟨qs.length,Nat.le_refl _,rfl,rfl,Below.refl _ _⟩
 case round=>
  obtain⟨k,aD,rfl,hw,aF⟩:=hrel
  have mK:=J hw;clear hw;have XC:=aF.size
  by_cases h0:0 < k
  ·exact aaH
  ·obtain rfl:k= 0:=by omega
   have eZ:Hid (ng qs mem qs.length= none):=J mK.out
   go_wp2
   go_ret2
   rw [eZ.out]
   exact⟨some ⟨_,0,none⟩,0,rfl,bd.made _ (by omega) _,aj I (aj aF (bT _ _))⟩
theorem ZQ {p:Prop} (h:p:=by
 have vJ:=fJ.base (by omega:w.heap.size≤_)
 simp only [iR,Option.getD_some]
 exact vJ):p:=h
theorem amc (aq:Option Addr) (c0:Nat) (rs:List aK) (h0:rs.length≤1048576) (ar:Option Addr) (av:Nat) (qs:List aQ) (h1:qs.length≤1048576) (aX:ar= none→qs= []∧av= 0) (hZ:qs.length≤av) (w:World) (bf:aS 7 aK.cells w aq rs) (aW:aS 3 aQ.cells w ar qs):Calls Tryz.prog 234 #[.slice aq rs c0,.slice ar qs av] w fun e ah=>∃A c,e= .returned (.tuple #[.slice A (iR (kL rs qs)).length c,.bool (kL rs qs).isSome])∧bd w 115 3 aQ.cells ah (.slice A (iR (kL rs qs)).length c) (iR (kL rs qs))∧Below w w ah:=by
 obtain⟨i0,hi,dn,dC,dz⟩:=info_parts si
 have po:=J aX;clear aX
 cases aN:dt rs qs
 ·have ea:=J aN
  rw [Rf aN]
  exact aaI
 by_cases ix:qs.length= 0
 ·obtain rfl:=List.length_eq_zero_iff.1 ix
  rw [Kv aN (HL rfl)]
  have ea:=J aN;clear aN ix hZ
  cases ar with
  | none=>
   obtain⟨_,rfl⟩:=po.out rfl
   go_in
   go_wp2_with fail
   refine (nb aq c0 rs h0 none 0 [] h1 _ ea.out _ (bf.ae az) (aW.ae az)).mono ?_
   rintro e bh ⟨rfl,br⟩
   have au:=be w br;have I:Below w w bh:=au;replace bf:=bf.ae au;replace aW:=aW.ae au
   go_wp2
   go_ret2
   exact⟨some ⟨_,0,none⟩,0,rfl,bd.made _ (by have:=I.size;omega) _,(aj I az)⟩
  | some iV=>
   obtain⟨ab,Kk,Kl⟩:=iV
   go_in
   go_wp2_with fail
   refine (nb aq c0 rs h0 (some ⟨ab,Kk,Kl⟩) av [] h1 _ ea.out _ (bf.ae az) (aW.ae az)).mono ?_
   rintro e bh ⟨rfl,br⟩
   have au:=be w br;have I:Below w w bh:=au;replace bf:=bf.ae au;replace aW:=aW.ae au;have sx:=I.size;have pv:=J (fun e u=>(aW.ae (bT bh (.cells #[] e))):∀(e:TypeId) (u:Unit),aS 3 aQ.cells (bh.alloc (.cells #[] e)) (some ⟨ab,Kk,Kl⟩) ([]:List aQ))
   go_wp2_with ((at_builtin;refine tT rfl _ _ 37 rfl bh.heap.size 115 i0 _ 3 24 Tryz.underlying37 hi dn dC dz rfl (by decide) aQ.cells jz sq bh.heap.size rfl (aB.new _ _ _) (Nat.le_refl _) (some ⟨ab,Kk,Kl⟩) av ([]:List aQ) 0 rfl rfl (pv.out _ ()) (fun h=>by cases h) (by simp [maxLen]) (by simp) ?_;intro bA cM mo fJ fh))
   go_wp2
   go_ret2
   exact⟨some ⟨bA,0,none⟩,cM,rfl,fJ.base (by omega),aj I (aj (bT _ _) fh)⟩
 obtain⟨j,bE⟩ :∃j,qs.length= j + 1:=⟨qs.length - 1,by omega⟩
 obtain⟨dY,gP,⟨qr,cb,dp⟩,sZ,_,bj,_⟩:=aW.at_ (Below.refl _ _) (k:=j) (by omega)
 obtain⟨t,ct⟩:=nd aN bj
 have eA:=J bE;have dH:=J bj;have bO:=J ct;have ea:=J aN
 have ic:j≤1048576:=by omega
 have LP:j + 1≤av:=by omega
 have FJ:=J sZ;have cW:=J (fun W h dj=>nb aq c0 rs h0 ar av qs h1 _ aN W h dj)
 cases aD:jS t ⟨qr,cb,dp⟩
 case false=>
  have ft:=J aD
  rw [Kv aN ((wa bE bj ct).trans aD)]
  skip
  rw [bE] at cW
  rw [show qs.length= j + 1 from bE]
  have agd:j≤av:=by omega
  clear aN aD bj ct bE ix h1 sZ hZ
  go_in
  go_wp2_with fail
  refine (cW.out _ (bf.ae az) (aW.ae az)).mono ?_
  rintro e bh ⟨rfl,br⟩
  have au:=be w br;have I:Below w w bh:=au;replace bf:=bf.ae au;replace aW:=aW.ae au
  obtain⟨_,_,y,e9,fL,hy,cX⟩:=aW.at_ (Below.refl _ _) (k:=j) (by have:=eA.out;omega)
  obtain rfl:(⟨qr,cb,dp⟩ :aQ)= y:=Option.some.inj (dH.out.symm.trans hy)
  have e8:=FJ.out
  rw [e8] at e9
  cases e9
  subst e8
  clear hy;have ch:=cX 0 _ rfl;have dq:=cX 1 _ rfl;have cZ:=cX 2 _ rfl
  simp only [Nat.add_zero] at ch
  have g0:=ch (ay.self _);have g1:=dq (ay.self _);have g2:=cZ (ay.self _)
  simp only [ay.self] at g0
  simp only [ay.self] at g1
  simp only [ay.self] at g2
  clear cX ch dq cZ
  go_wp2_with fail
  refine (oC aq c0 rs h0 ⟨qr,cb,dp⟩ t bO.out false ft.out _ (bf.ae az)).mono ?_
  rintro e aJ ⟨rfl,aL⟩
  have al:=be bh aL;replace I:=aj I al;replace bf:=bf.ae al;replace aW:=aW.ae al;have aX:=po.out;have sx:=I.size;clear g0 g1 g2;have pv:=J (fun e u=>(aW.ae (bT aJ (.cells #[] e))):∀(e:TypeId) (u:Unit),aS 3 aQ.cells (aJ.alloc (.cells #[] e)) (some ⟨dY,gP,none⟩) qs)
  go_wp2_with ((at_builtin;refine tT rfl _ _ 37 rfl aJ.heap.size 115 i0 _ 3 24 Tryz.underlying37 hi dn dC dz rfl (by decide) aQ.cells jz sq aJ.heap.size rfl (aB.new _ _ _) (Nat.le_refl _) (some ⟨dY,gP,none⟩) av qs (j + 1) eA.out.symm rfl (pv.out _ ()) aX (by have:=eA.out.symm;unfold maxLen;omega) (by have:=eA.out.symm;omega) ?_;intro bA cM mo fJ fh;clear aX))
  go_wp2
  go_ret2
  refine⟨some ⟨bA,0,none⟩,cM,by simp only [iR,Option.getD_some,eA.out];rfl,?_,aj I (aj (bT _ _) fh)⟩
  exact ZQ
 case true=>
  have ft:=J aD
  rw [Re aN ((wa bE bj ct).trans aD),show qs.length - 1= j by omega]
  have lX:=J (show (qs.take j).length= j by rw [List.length_take];omega)
  rw [bE] at cW
  rw [show qs.length= j + 1 from bE]
  have agd:j≤av:=by omega
  clear aN aD bj ct bE ix h1 sZ hZ
  go_in
  go_wp2_with fail
  refine (cW.out _ (bf.ae az) (aW.ae az)).mono ?_
  rintro e bh ⟨rfl,br⟩
  have au:=be w br;have I:Below w w bh:=au;replace bf:=bf.ae au;replace aW:=aW.ae au
  obtain⟨_,_,y,e9,fL,hy,cX⟩:=aW.at_ (Below.refl _ _) (k:=j) (by have:=eA.out;omega)
  obtain rfl:(⟨qr,cb,dp⟩ :aQ)= y:=Option.some.inj (dH.out.symm.trans hy)
  have e8:=FJ.out
  rw [e8] at e9
  cases e9
  subst e8
  clear hy;have ch:=cX 0 _ rfl;have dq:=cX 1 _ rfl;have cZ:=cX 2 _ rfl
  simp only [Nat.add_zero] at ch
  have g0:=ch (ay.self _);have g1:=dq (ay.self _);have g2:=cZ (ay.self _)
  simp only [ay.self] at g0
  simp only [ay.self] at g1
  simp only [ay.self] at g2
  clear cX ch dq cZ
  go_wp2_with fail
  refine (oC aq c0 rs h0 ⟨qr,cb,dp⟩ t bO.out true ft.out _ (bf.ae az)).mono ?_
  rintro e aJ ⟨rfl,aL⟩
  have al:=be bh aL;replace I:=aj I al;replace bf:=bf.ae al;replace aW:=aW.ae al;have aX:=po.out;have sx:=I.size;clear g0 g1 g2;have pv:=J (fun e u=>((BI aW j).ae (bT aJ (.cells #[] e))):∀(e:TypeId) (u:Unit),aS 3 aQ.cells (aJ.alloc (.cells #[] e)) (some ⟨dY,gP,none⟩) (qs.take j))
  go_wp2_with ((at_builtin;refine tT rfl _ _ 37 rfl aJ.heap.size 115 i0 _ 3 24 Tryz.underlying37 hi dn dC dz rfl (by decide) aQ.cells jz sq aJ.heap.size rfl (aB.new _ _ _) (Nat.le_refl _) (some ⟨dY,gP,none⟩) av (qs.take j) j lX.out.symm rfl (pv.out _ ()) (fun h=>by cases h) (by have:=lX.out.symm;unfold maxLen;omega) (by have:=lX.out.symm;omega) ?_;intro bA cM mo fJ fh;clear aX))
  go_wp2
  go_ret2
  refine⟨some ⟨bA,0,none⟩,cM,by simp only [iR,Option.getD_some,lX.out];rfl,?_,aj I (aj (bT _ _) fh)⟩
  exact ZQ
end Go.Proofs.YtlaaemmmbodaaaaGreatDoor
