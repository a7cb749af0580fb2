/- Parts. -/
import Derived.Test.YtlaaemmmbodaaaaGreatDoorRp10
set_option maxHeartbeats 16000000
set_option maxRecDepth 100000
set_option linter.unnecessarySimpa false
set_option linter.unusedSimpArgs false
set_option linter.unusedVariables false
namespace Go.Proofs.YtlaaemmmbodaaaaGreatDoor
open Go.RowKit Go.G9
theorem Iy (c:UInt8):∀(l u:List UInt8),u ∈ ko c l→u.length≤l.length
 | [],u,h=>by simp [ko] at h;subst h;simp
 | x ::l,u,h=>by
  unfold ko at h
  split at h
  ·rcases List.mem_cons.1 h with rfl | h
   ·simp
   ·have:=Iy c l u h;simp;omega
  ·split at h
   ·simp at h;subst h;simp
   ·rename_i v fS he
    rcases List.mem_cons.1 h with rfl | h
    ·have:=Iy c l v (by rw [he];simp);simp;omega
    ·have:=Iy c l u (by rw [he];simp [h]);simp;omega
theorem Xr {c:UInt8} {s x:ByteArray} (h:x ∈ iZ c s):x.size≤s.size:=by
 obtain⟨u,hu,rfl⟩:=List.mem_map.1 h
 have h1:=Iy c s.data.toList u hu
 show u.toArray.size≤_
 rw [List.size_toArray]
 simpa using h1
theorem Xq (c:UInt8) (s:ByteArray):(iZ c s).length≤s.size + 1:=by
 unfold iZ
 rw [List.length_map]
 have:=Oe c s.data.toList
 simpa using this
theorem Xt (c:UInt8) (s:ByteArray):iZ c s≠[]:=by
 unfold iZ
 have:=Of c s.data.toList
 intro e
 exact this (List.map_eq_nil_iff.1 e)
theorem fP.gO {B g:Nat} {w ah:World} {bQ:Option Addr} {d0:Nat} {cn:Option Addr} {d1:Nat} {aZ:Option Addr} {d2:Nat} {bk:Option Addr} {d3:Nat} {bR:Option Addr} {d4:Nat} {rs:List aK} {qs:List aQ} {ws:List Int} {ad:List aO} {os:List Out} {cs:Array Value} (h:fP B w bQ d0 cn d1 aZ d2 bk d3 bR d4 rs qs ws ad os) (aF:aB w g 46 cs) (cT:w.grownBy ah (some g)):fP B ah bQ d0 cn d1 aZ d2 bk d3 bR d4 rs qs ws ad os:=
 ⟨h.kz.kept cT (fun k aD e=>h.kz.qv aF (by decide) k aD (Option.some.inj e)),h.iz.kept cT (fun k aD e=>h.iz.qv aF (by decide) k aD (Option.some.inj e)),h.fi.kept cT (fun k aD e=>h.fi.qv aF (by decide) k aD (Option.some.inj e)),h.fO.kept cT (fun k aD e=>h.fO.qv aF (by decide) k aD (Option.some.inj e)),h.lR.kept cT (fun k aD e=>h.lR.qv aF (by decide) k aD (Option.some.inj e))⟩
theorem YL {p:Prop} (h:p:=by
 rw [hm] at H
 exact H.mono fun e ah ⟨he,aF⟩=>⟨[],[],0,0,0,[],[],[],none,0,none,0,none,0,none,0,none,0,false,he,J (by simp),ajP,aF⟩):p:=h
theorem abk {p:Prop} (h:p:=by
 rw [hm] at H
 obtain⟨df,dr,dE,dD,dw,bP,bS,de⟩:=n
 exact H.mono fun e ah ⟨bQ,d0,cn,d1,aZ,d2,bk,d3,bR,d4,he,bM,aF⟩=>⟨df,dr,dE,dD,dw,bP,bS,de,bQ,d0,cn,d1,aZ,d2,bk,d3,bR,d4,true,he,J (by simp),bM,aF⟩):p:=h
theorem aic (aq ar an ao aA:Option Addr) (c0 av c2 c3 c4:Nat) (rs:List aK) (qs:List aQ) (ag af sp:Int) (ws:List Int) (ad:List aO) (os:List Out) (Z:ei aq ar an ao aA c0 av c2 c3 c4 rs qs ws ad os) (kind mem val yes no bq:Int) (h:gR ⟨rs,qs,ag,af,sp,ws,ad,os⟩) (w:World) (R:dI w aq ar an ao aA rs qs ws ad os):
 Calls Tryz.prog 103 #[.agg #[.slice aq rs c0,.slice ar qs av,ag,af,sp,.slice an ws c2,.slice ao ad c3,.slice aA os c4],.agg #[kind,mem,val,yes,no,bq]] w fun e ah=>∃(df:List aK) (dr:List aQ) (dE dD dw:Int) (bP:List Int) (bS:List aO) (de:List Out) (cy:Option Addr) (e0:Nat) (cv:Option Addr) (e1:Nat) (cU:Option Addr) (e2:Nat) (cV:Option Addr) (e3:Nat) (cA:Option Addr) (e4:Nat) (b:Bool),e= .returned (.tuple #[.agg #[.slice cy df e0,.slice cv dr e1,dE,dD,dw,.slice cU bP e2,.slice cV bS e3,.slice cA de e4],b])∧Hid (gC ⟨rs,qs,ag,af,sp,ws,ad,os⟩ ⟨kind,mem,val,yes,no,bq⟩ =if b= true then some ⟨df,dr,dE,dD,dw,bP,bS,de⟩ else none)∧fP w ah cy e0 cv e1 cU e2 cV e3 cA e4 df dr bP bS de∧Below w w ah:=by
 have H:=ahQ aq ar an ao aA c0 av c2 c3 c4 rs qs ag af sp ws ad os Z kind mem val yes no bq h w R
 cases hm:gC ⟨rs,qs,ag,af,sp,ws,ad,os⟩ ⟨kind,mem,val,yes,no,bq⟩ with
 | none=>
  exact YL
 | some n=>
  exact abk
theorem Vb {m n:cw} {a:nk} (h:gR m) (hm:gC m a= some n):-999999≤n.fk∧n.fk≤999999:=by
 have H:=ks.1 (HQ h hm).fV
 rcases H.p with h0 | h1
 ·have:n.fk= 0:=h0
  omega
 ·have:=qt.1 h1
  have e:(cw.fV n).sp= n.fk:=rfl
  omega
theorem Va {m n:cw} {a:nk} (hm:gC m a= some n) (aD:a.kind= 7):0 < n.cl.length:=by
 have e:nZ m a= some n:=by
  unfold gC at hm
  rw [if_neg (by omega),if_neg (by omega),if_pos aD] at hm
  split at hm
  ·exact hm
  ·cases hm
 obtain⟨ps,q,_,_,_,rfl⟩:=IG e
 simp [cw.BU]
theorem ael {m:cw} {v:ByteArray} {r:List ByteArray} (h:lD (ev v)= none):my m (v ::r)= none:=by rw [my,h]
theorem aen {m:cw} {v p:ByteArray} {r:List ByteArray} (h:lD (ev v)= some p) (bp:kB m.cx p r= none):my m (v ::r)= none:=by simp only [my,h,bp]
theorem Rq {m:cw} {v p:ByteArray} {r:List ByteArray} {l:List Int} (h:lD (ev v)= some p) (bp:kB m.cx p r= some l) (cS:qP (ev v) l= none):my m (v ::r)= (jG m (ev v) l).map (fun s=>(m,s)):=by simp only [my,h,bp,cS]
theorem Rp {m:cw} {v p:ByteArray} {r:List ByteArray} {l:List Int} {a:nk} (h:lD (ev v)= some p) (bp:kB m.cx p r= some l) (cS:qP (ev v) l= some a):my m (v ::r)= (gC m a).map (fun n=>(n,oI n a.kind)):=by simp only [my,h,bp,cS]
theorem akJ {rs:List aK} {p:ByteArray} {r:List ByteArray} {l:List Int} (h:kB rs p r= some l):l.length= p.size:=by
 unfold kB at h
 split at h
 ·rename_i he;rw [NI h,he]
 ·cases h
theorem Zu {p:Prop} (h:p:=by
 clear v0 v1 v2 v3 v4 v5 v6 lp
 obtain⟨v0,v1,v2,v3,v4,v5,v6,lp⟩:=eH.aI
 have ajY:=yt.cu eH;have ajZ:=vt.cu eH;have aka:=vu.cu eH;have akb:=yu.cu eH;have akc:=yv.cu eH;have ape:=eH.ib;have aqI:=eH.lt
 refine NT 10 [11] #[true,true,true,true,true,true,true,true,true,true,true,true] (by kernel_rfl) ((cO.out _).2 I) (fun K gf=>?_)
 change wpList _ _ _ (_ ::[]) _ _
 go_wp2
 clear v0 v1 v2 v3 v4 v5 v6 lp
 refine hR 0 fun XR wC=>?_
 replace I:=wC.aH I;replace eH:=wC.ia eH;have apy:=wC.fC;have aqA:=wC.sz;replace yt:=yt.bY wC ajY;replace vt:=vt.bY wC ajZ;replace vu:=vu.bY wC aka;replace yu:=yu.bY wC akb;replace yv:=yv.bY wC akc
 obtain⟨v0,v1,v2,v3,v4,v5,v6,lp⟩:=eH.aI
 refine⟨rfl,(cO.out _).2 I,?_⟩
 change wpQuiet _ _ _ _ (_ ::[]) _
 repeat (go_big_quiet_step (fail))
 refine wpQuiet_nil ?_
 refine gf _ _ ?_
 clear gf K
 refine als (by kernel_rfl) ((cO.out _).2 I) ?_
 go_wp2_with fail
 go_meet
 exact⟨cu,b,df,dr,dE,dD,dw,bP,bS,de,cy,e0,cv,e1,cU,e2,cV,e3,cA,e4,rfl,rfl,Mh,wL,eH,⟨yt,vt,vu,yu,yv⟩,I⟩):p:=h
theorem aeo (B p:Nat) (aq ar an ao aA:Option Addr) (c0 av c2 c3 c4:Nat) (rs:List aK) (qs:List aQ) (ag af sp:Int) (ws:List Int) (ad:List aO) (os:List Out) (cg cj:ByteArray) (cf:Int) (h:gR ⟨rs,qs,ag,af,sp,ws,ad,os⟩) (l:ByteArray) (aT:l.size≤160) (w:World) (KR:B≤p) (mS:B≤w.heap.size) (aR:aB w p 46 #[.slice aq rs c0,.slice ar qs av,ag,af,sp,.slice an ws c2,.slice ao ad c3,.slice aA os c4,cg,cj,cf]) (bM:fP B w aq c0 ar av an c2 ao c3 aA c4 rs qs ws ad os) (bO:∀W,w.grownBy W (some p)→nF W):
  Calls Tryz.prog 56 #[.pointer (some ⟨p,0,none⟩),l] w fun e ah=>∃(df:List aK) (dr:List aQ) (dE dD dw:Int) (bP:List Int) (bS:List aO) (de:List Out) (cy:Option Addr) (e0:Nat) (cv:Option Addr) (e1:Nat) (cU:Option Addr) (e2:Nat) (cV:Option Addr) (e3:Nat) (cA:Option Addr) (e4:Nat) (x:ByteArray) (b:Bool),e= .returned (.tuple #[x,.bool b])∧Hid (my ⟨rs,qs,ag,af,sp,ws,ad,os⟩ (iZ 32 l)= if b= true then some (⟨df,dr,dE,dD,dw,bP,bS,de⟩,x) else none)∧Hid (b= false→(⟨df,dr,dE,dD,dw,bP,bS,de⟩ :cw)=⟨rs,qs,ag,af,sp,ws,ad,os⟩)∧aB ah p 46 #[.slice cy df e0,.slice cv dr e1,dE,dD,dw,.slice cU bP e2,.slice cV bS e3,.slice cA de e4,cg,cj,cf]∧fP B ah cy e0 cv e1 cU e2 cV e3 cA e4 df dr bP bS de∧w.grownBy ah (some p):=by
  have jo:=sl h
  simp only at jo
  obtain⟨m0,m1,m2,m3,m4⟩:=jo
  have dx:=J (bM.HD (by omega) (by omega) (by omega) (by omega) (by omega));have ir:=J h;have pw:=J (fun W (h:yr W)=>ait l 32 (by omega) W h);have TA:=Xq 32 l;have PX:=J (show∀x ∈ iZ 32 l,x.size≤1000 from fun x aw=>by have:=Xr aw;omega);have TB:=Xt 32 l
  generalize iZ 32 l= fS at *
  obtain⟨v0,tS,rfl⟩ :∃v0 tS,fS= v0 ::tS:=by
    cases fS with
    | nil=>exact absurd rfl TB
    | cons a b=>exact⟨a,b,rfl⟩
  have agV:tS.length≤160:=by simp only [List.length_cons] at TA;omega
  obtain⟨op,hop⟩ :∃o,lD (ev v0)= o:=⟨_,rfl⟩
  have Cx:=fun W=>aky v0 W
  rw [hop] at Cx
  have ue:=J hop;have Aq:=J bO;have hd:=J aR;have kV:=J bM;have eL:=J bM.rd;have Mo:=aR.lt;clear TA TB hop h bO aR bM
  go_in
  go_wp2_with fail
  refine (pw.out _ (Aq.out w (vE _ _)).m).mono ?_
  rintro e bh ⟨aoy,wn,rfl,Au,I⟩
  obtain⟨sY,aqB,adL⟩:=VB Au (by simp)
  injection adL with adM _ adN
  subst adM
  subst adN
  have rf:=ph Au jZ
  simp only [List.length_cons] at rf
  have g0:=qz Au jZ (j:=0) (x:=v0) rfl (i:=0) (u:= .string v0) rfl
  simp only [Nat.zero_mul,Nat.add_zero] at g0
  have yR:=(Au.lt sY rfl).2;have bo:=J Au;clear Au;have gh:=J (eL.out.ae I)
  cases op with
  | none=>
    have Al:=J Cx;clear Cx
    simp only [Option.getD_none,Option.isSome_none] at Al
    go_wp2_with fail
    refine (Al.out _).mono ?_
    rintro e OB ⟨rfl,ck⟩
    rw [ck]
    clear ck OB
    go_wp2
    go_ret2
    exact⟨rs,qs,ag,af,sp,ws,ad,os,aq,c0,ar,av,an,c2,ao,c3,aA,c4,⟨#[]⟩,false,rfl,J (ael ue.out),J (fun _=>rfl),hd.out.ae I hd.out.lt,kV.out.bm I,ly I _⟩
  | some pt=>
    have Al:=J Cx;clear Cx
    simp only [Option.getD_some,Option.isSome_some] at Al
    go_wp2_with fail
    refine (Al.out _).mono ?_
    rintro e OB ⟨rfl,ck⟩
    rw [ck]
    clear ck OB
    go_upto_region 5 with fail
    go_cut [9,10] (fun v9 v10 W=>∃(li:List Int) (rC:Bool) (wS:Option Addr) (zy:Nat),v9= .slice wS li zy∧v10= .bool rC∧Hid (kB rs pt tS= if rC= true then some li else none)∧bd bh 3 1 bV W (.slice wS li zy) li∧Below bh bh W)
    case first=>
      have wP:Hid (∀W,Below bh bh W→(wn= 1→aS 1 hC W (some ⟨sY,0,none⟩) tS)∧aS 1 hC W (some ⟨sY,1,none⟩) tS):=J (fun W bL=>⟨fun e=>by
        have:tS= []:=List.length_eq_zero_iff.1 (by omega)
        rw [this];exact aS.nil,by
        have h:=Fe (bo.out.bm bL).hj 1
        simpa using h⟩)
      obtain⟨en,gj⟩ :∃X:World→Prop,∀V,X V↔Below bh bh V:=⟨_,fun _=>Iff.rfl⟩
      have cO:=J gj;clear gj
      haveI:Nonempty (cH en):=⟨⟨bh,(cO.out _).2 (Below.refl _ _)⟩⟩
      have PZ:=J (hd.out.ae I hd.out.lt)
      have dd:=fun K:cH en=>((PZ.out.ae ((cO.out _).1 K.holds) PZ.out.lt).cell 0).trans (show _= some (.slice aq rs c0) from rfl)
      clear g0 yR bo
      by_cases rp:wn= 1
      case' pos=>
        subst rp
        obtain rfl:tS= []:=List.length_eq_zero_iff.1 (by omega)
        clear rf agV
      all_goals
        refine nh en [([0,1,2,3,4,5,6,7],8)] [9,10,11,12,13] (by kernel_rfl) (by kernel_rfl) ((cO.out _).2 (Below.refl _ _).drew) ?_
        have gH:Below bh bh bh.drew:=(Below.refl _ _).drew
        generalize bh.drew= wd at *
        refine gr fun fT dv=>?_
        change wpQuiet _ _ _ _ (_ ::_ ::_ ::_ ::_ ::_ ::_ ::_ ::[]) _
        repeat (go_big_quiet_step (fail))
        refine wpQuiet_nil ?_
        change wpList _ _ _ (_ ::[]) _ _
        go_wp2_with fail
        first
          | refine (Wi aq c0 rs (by omega) dx.out.dZ (mj ir.out.ho).1 pt _ _ tS (by first | omega | simp) (fun x aw=>PX.out x (by simp [aw])) wd (gh.out.fx.ae gH) (wP.out wd gH).2 (Aq.out wd (ly (aj I gH) _))).mono ?_
          | refine (Wi aq c0 rs (by omega) dx.out.dZ (mj ir.out.ho).1 pt _ _ [] (by first | omega | simp) (fun x aw=>PX.out x (by simp [aw])) wd (gh.out.fx.ae gH) ((wP.out wd gH).1 (by first | trivial | rfl)) (Aq.out wd (ly (aj I gH) _))).mono ?_
        rintro e aJ ⟨li,rC,wS,zy,rfl,mJ,CN,aL⟩
        have iq:=aj gH aL;have Ai:=J (CN.base (B':=bh.heap.size) gH.size);clear CN
        go_wp2
        refine gw ((cO.out _).2 iq) (dv _ _ ?_)
        refine kD ?_
        change wpQuiet _ _ _ _ (_ ::_ ::_ ::_ ::_ ::[]) _
        repeat (go_big_quiet_step (fail))
        refine wpQuiet_nil ?_
        go_wp2_with fail
        go_meet
        exact⟨li,rC,wS,zy,rfl,rfl,mJ,Ai.out,iq⟩
    case rest=>
     obtain⟨li,rC,wS,zy,rfl,rfl,mJ,CN,iq⟩:=hcut
     generalize wc= aJ at *
     have Ai:=J CN;clear CN;have bG:=aj I iq;replace g0:=(iq.cell (p:=⟨sY,0,none⟩) yR).trans g0;replace yR:sY < aJ.heap.size:=Nat.lt_of_lt_of_le yR iq.size;have Qa:=J (hd.out.ae bG hd.out.lt);have hs:=J (kV.out.bm bG);have dQ:=J (eL.out.ae bG);clear I iq gh bo
     cases rC
     · have gM:kB rs pt tS= none:=by simpa using mJ.out
       have vr:=J gM;clear gM
       go_wp2
       go_ret2
       exact⟨rs,qs,ag,af,sp,ws,ad,os,aq,c0,ar,av,an,c2,ao,c3,aA,c4,⟨#[]⟩,false,rfl,J (aen ue.out vr.out),J (fun _=>rfl),Qa.out,hs.out,ly bG _⟩
     have Hl:kB rs pt tS= some li:=by simpa using mJ.out
     have xp:=akJ Hl;have An:=J Hl;clear Hl mJ
     have Cf:=fun W (h:aS 1 bV W wS li)=>acS v0 wS zy li (fun q bj=>by rw [ue.out] at bj;cases bj;exact xp) W h
     obtain⟨Nq,Mi⟩ :∃o,qP (ev v0) li= o:=⟨_,rfl⟩
     rw [Mi] at Cf
     have Cr:=J Mi;have Af:=J xp;clear Mi xp
     cases Nq with
     | none=>
       have rI:=J Cf;clear Cf
       simp only [Ki,Option.isSome_none] at rI
       go_wp2_with fail
       refine (rI.out _ (Ai.out.hj (hf:=fW))).mono ?_
       rintro e bB ⟨rfl,bx⟩
       go_upto_region 10 with fail
       have yM:=bx.alloc bx.size (.cells #[(0:Int),(0:Int),(0:Int),(0:Int),(0:Int),(0:Int)] 148)
       generalize bB.alloc (.cells #[(0:Int),(0:Int),(0:Int),(0:Int),(0:Int),(0:Int)] 148)= hJ at *
       have ta:=aj bG yM;replace g0:=(yM.cell (p:=⟨sY,0,none⟩) yR).trans g0;have afY:sY < hJ.heap.size:=Nat.lt_of_lt_of_le yR yM.size;have aco:=J (Ai.out.bm yM)
       obtain⟨en,gj⟩ :∃X:World→Prop,∀V,X V↔Below hJ hJ V:=⟨_,fun _=>Iff.rfl⟩
       have cO:=J gj;clear gj
       haveI:Nonempty (cH en):=⟨⟨hJ,(cO.out _).2 (Below.refl _ _)⟩⟩
       have CD:=J (hd.out.ae ta hd.out.lt);have aot:=J (kV.out.bm ta);have FV:=J (eL.out.ae ta)
       obtain⟨dd,dT,dN,eg,eh,fE,fF,fG,fH,fI,fD⟩:=aB.qf (fun K:cH en=>CD.out.ae ((cO.out _).1 K.holds) CD.out.lt)
       have kE:=fun K:cH en=>(((cO.out _).1 K.holds).cell (p:=⟨sY,0,none⟩) afY).trans g0
       clear g0
       refine nh en [([0,1,2,3,4,5,6,7],8)] [9,10,11,12] (by kernel_rfl) (by kernel_rfl) ((cO.out _).2 (Below.refl _ _).drew) ?_
       have gH:Below hJ hJ hJ.drew:=(Below.refl _ _).drew
       generalize hJ.drew= XT at *
       refine gr fun fT dv=>?_
       change wpQuiet _ _ _ _ (_ ::_ ::_ ::_ ::_ ::_ ::_ ::_ ::[]) _
       repeat (go_big_quiet_step (fail))
       refine wpQuiet_nil ?_
       change wpList _ _ _ (_ ::[]) _ _
       go_wp2_with fail
       refine (ado aq ar an ao aA c0 av c2 c3 c4 rs qs ag af sp ws ad os dx.out ir.out v0 pt ue.out wS zy li Af.out Cr.out XT (FV.out.ae gH) (aco.out.bm gH).hj (Aq.out XT (ly (aj ta gH) _))).mono ?_
       rintro e dB ⟨x,rfl,aw,eD⟩
       have ya:=aj gH eD;have acG:=J aw;clear aw
       go_wp2
       refine gw ((cO.out _).2 ya) (dv _ _ ?_)
       refine kD ?_
       change wpQuiet _ _ _ _ (_ ::_ ::_ ::_ ::[]) _
       repeat (go_big_quiet_step (fail))
       refine wpQuiet_nil ?_
       have uw:=aj ta ya;clear dd dT dN eg eh fE fF fG fH fI fD kE cO this
       cases bj:jG ⟨rs,qs,ag,af,sp,ws,ad,os⟩ (ev v0) li with
       | none=>
         have dH:=J bj;clear bj
         go_wp2
         go_ret2
         exact⟨rs,qs,ag,af,sp,ws,ad,os,aq,c0,ar,av,an,c2,ao,c3,aA,c4,x,false,rfl,J (by rw [Rq ue.out An.out Cr.out,dH.out];rfl),J (fun _=>rfl),hd.out.ae uw hd.out.lt,kV.out.bm uw,ly uw _⟩
       | some y=>
         have e:=acG.out y bj;have dH:=J bj;clear bj
         go_wp2
         go_ret2
         exact⟨rs,qs,ag,af,sp,ws,ad,os,aq,c0,ar,av,an,c2,ao,c3,aA,c4,x,true,rfl,J (by rw [Rq ue.out An.out Cr.out,dH.out,e];rfl),J (fun _=>rfl),hd.out.ae uw hd.out.lt,kV.out.bm uw,ly uw _⟩
     | some a=>
       obtain⟨kind,mem,val,yes,no,bq⟩:=a
       have rI:=J Cf;clear Cf
       simp only [Ki,Option.isSome_some] at rI
       go_wp2_with fail
       refine (rI.out _ (Ai.out.hj (hf:=fW))).mono ?_
       rintro e bB ⟨rfl,bx⟩
       go_upto_region 11 with fail
       obtain⟨ab,DL⟩ :∃b,b= bB.heap.size:=⟨_,rfl⟩
       have yM:=bx.alloc bx.size (.cells #[kind,mem,val,yes,no,bq] 148);have KN:=aB.new bB 148 #[kind,mem,val,yes,no,bq]
       rw [← DL] at KN
       generalize bB.alloc (.cells #[kind,mem,val,yes,no,bq] 148)= hJ at *
       rw [← DL]
       have ta:=aj bG yM
       have afu:w.heap.size≤ab:=by have:=bG.size;have:=bx.size;omega
       clear DL g0 yR;have CD:=J (hd.out.ae ta hd.out.lt);have FV:=J (eL.out.ae ta);have FI:=J KN
       go_cut [13,14] (fun anQ anR W=>∃(cu:Nat) (b:Bool) (df:List aK) (dr:List aQ) (dE dD dw:Int) (bP:List Int) (bS:List aO) (de:List Out) (cy:Option Addr) (e0:Nat) (cv:Option Addr) (e1:Nat) (cU:Option Addr) (e2:Nat) (cV:Option Addr) (e3:Nat) (cA:Option Addr) (e4:Nat),anQ= .pointer (some ⟨cu,0,none⟩)∧anR= .bool b∧hJ.heap.size≤cu∧Hid (gC ⟨rs,qs,ag,af,sp,ws,ad,os⟩ ⟨kind,mem,val,yes,no,bq⟩ =if b= true then some ⟨df,dr,dE,dD,dw,bP,bS,de⟩ else none)∧aB W cu 44 #[.slice cy df e0,.slice cv dr e1,dE,dD,dw,.slice cU bP e2,.slice cV bS e3,.slice cA de e4]∧fP hJ W cy e0 cv e1 cU e2 cV e3 cA e4 df dr bP bS de∧Below hJ hJ W)
       case first=>
         have Po:=J (fun W (h:dI W aq ar an ao aA rs qs ws ad os)=>aic aq ar an ao aA c0 av c2 c3 c4 rs qs ag af sp ws ad os dx.out kind mem val yes no bq ir.out W h);have PO:=FV;clear hd kV eL Aq Qa hs dQ bG bx yM ta afu Ai KN pw rI Al FV mS Mo
         generalize hJ= w at *
         obtain⟨en,gj⟩ :∃X:World→Prop,∀V,X V↔Below w w V:=⟨_,fun _=>Iff.rfl⟩
         have cO:=J gj;clear gj
         haveI:Nonempty (cH en):=⟨⟨w,(cO.out _).2 (Below.refl _ _)⟩⟩
         refine aol en [0,1,2,3,4] #[true,true,true,true,true,false,false,false,false,false,false,false] (by kernel_rfl) (by kernel_rfl) ((cO.out _).2 (Below.refl _ _).drew) (fun K gf=>?_)
         obtain⟨dd,dT,dN,eg,eh,fE,fF,fG,fH,fI,fD⟩:=aB.qf (fun K:cH en=>CD.out.ae ((cO.out _).1 K.holds) CD.out.lt)
         obtain⟨a0,a1,a2,a3,a4,a5⟩:=aB.Kt (fun K:cH en=>FI.out.ae ((cO.out _).1 K.holds) FI.out.lt)
         change wpQuiet _ _ _ _ (_ ::_ ::_ ::_ ::_ ::[]) _
         repeat (go_big_quiet_step (fail))
         refine wpQuiet_nil ?_
         refine gf _ _ ?_
         have I:Below w w w.drew:=(Below.refl _ _).drew;clear gf K dd dT dN eg eh fE fF fG fH fI fD a0 a1 a2 a3 a4 a5
         generalize w.drew= wd at *
         refine alu 5 [6,7,8] #[true,true,true,true,true,true,true,true,true,false,false,false] 9 [] #[true,true,true,true,true,false,false,false,false,true,false,false] (by kernel_rfl) ((cO.out _).2 I) (fun K gf=>?_) (fun K gf=>?_)
         · skip
           change wpList _ _ _ (_ ::[]) _ _
           have uX:=I.size
           go_wp2_with fail
           refine (Po.out _ (PO.out.ae (aj I az))).mono ?_
           rintro e bh ⟨df,dr,dE,dD,dw,bP,bS,de,cy,e0,cv,e1,cU,e2,cV,e3,cA,e4,b,rfl,wL,fu,br⟩
           have au:=be wd br;replace I:=aj I au;replace fu:=fu.base (B':=w.heap.size) (by omega);have yt:=fu.kz;have vt:=fu.iz;have vu:=fu.fi;have yu:=fu.fO;have yv:=fu.lR;clear fu uX
           go_wp2
           refine⟨rfl,(cO.out _).2 I,?_⟩
           change wpQuiet _ _ _ _ (_ ::_ ::_ ::[]) _
           repeat (go_big_quiet_step (fail))
           refine wpQuiet_nil ?_
           refine gf _ _ ?_
           clear gf K
           refine NT 9 [] #[true,true,true,true,true,true,true,true,true,true,false,false] (by kernel_rfl) ((cO.out _).2 I) (fun K gf=>?_)
           change wpList _ _ _ (_ ::[]) _ _
           obtain⟨cu,lO⟩ :∃b,b= bh.heap.size:=⟨_,rfl⟩
           have Mh:w.heap.size≤cu:=by have:=I.size;omega
           go_wp2
           refine cF fun mo al eH=>?_
           replace yt:=yt.bm al;replace vt:=vt.bm al;replace vu:=vu.bm al;replace yu:=yu.bm al;replace yv:=yv.bm al;replace I:=aj I al
           obtain⟨v0,v1,v2,v3,v4,v5,v6,lp⟩:=eH.aI
           rw [← lO] at eH v0 v1 v2 v3 v4 v5 v6 lp
           rw [← lO]
           clear lO v0 v1 v2 v3 v4 v5 v6 lp
           obtain⟨v0,v1,v2,v3,v4,v5,v6,lp⟩:=eH.aI
           refine⟨rfl,(cO.out _).2 I,?_⟩
           change wpQuiet _ _ _ _ ([]) _
           refine wpQuiet_nil ?_
           refine gf _ _ ?_
           clear gf K
           generalize mo= anW at *
           exact Zu
         · skip
           change wpList _ _ _ (_ ::[]) _ _
           obtain⟨cu,lO⟩ :∃b,b= wd.heap.size:=⟨_,rfl⟩
           have Mh:w.heap.size≤cu:=by have:=I.size;omega
           go_wp2
           refine cF fun mo au eH=>?_
           replace I:=aj I au
           obtain⟨v0,v1,v2,v3,v4,v5,v6,lp⟩:=eH.aI
           rw [← lO] at eH v0 v1 v2 v3 v4 v5 v6 lp
           rw [← lO]
           clear lO v0 v1 v2 v3 v4 v5 v6 lp
           obtain⟨v0,v1,v2,v3,v4,v5,v6,lp⟩:=eH.aI
           refine⟨rfl,(cO.out _).2 I,?_⟩
           change wpQuiet _ _ _ _ ([]) _
           refine wpQuiet_nil ?_
           refine gf _ _ ?_
           clear gf K
           refine NT 5 [6,7,8] #[true,true,true,true,true,true,true,true,true,true,false,false] (by kernel_rfl) ((cO.out _).2 I) (fun K gf=>?_)
           change wpList _ _ _ (_ ::[]) _ _
           have uX:=I.size
           go_wp2_with fail
           refine (Po.out _ (PO.out.ae (aj I az))).mono ?_
           rintro e aJ ⟨df,dr,dE,dD,dw,bP,bS,de,cy,e0,cv,e1,cU,e2,cV,e3,cA,e4,b,rfl,wL,fu,aL⟩
           have al:=be mo aL;replace I:=aj I al;replace eH:=eH.to al;clear v0 v1 v2 v3 v4 v5 v6 lp
           obtain⟨v0,v1,v2,v3,v4,v5,v6,lp⟩:=eH.aI
           replace fu:=fu.base (B':=w.heap.size) (by omega);have yt:=fu.kz;have vt:=fu.iz;have vu:=fu.fi;have yu:=fu.fO;have yv:=fu.lR;clear fu uX
           go_wp2
           refine⟨rfl,(cO.out _).2 I,?_⟩
           change wpQuiet _ _ _ _ (_ ::_ ::_ ::[]) _
           repeat (go_big_quiet_step (fail))
           refine wpQuiet_nil ?_
           refine gf _ _ ?_
           clear gf K
           generalize aJ= anW at *
           exact Zu
       case rest=>
         obtain⟨cu,b,df,dr,dE,dD,dw,bP,bS,de,cy,e0,cv,e1,cU,e2,cV,e3,cA,e4,rfl,rfl,Mh,wL,eH,fu,RJ⟩:=hcut
         generalize wc= XR at *
         have Ds:=aj ta RJ
         cases b
         · have ny:gC ⟨rs,qs,ag,af,sp,ws,ad,os⟩ ⟨kind,mem,val,yes,no,bq⟩ =none:=by simpa using wL.out
           have uc:=J ny;clear ny
           go_wp2
           go_ret2
           exact⟨rs,qs,ag,af,sp,ws,ad,os,aq,c0,ar,av,an,c2,ao,c3,aA,c4,⟨#[]⟩,false,rfl,J (by rw [Rp ue.out An.out Cr.out,uc.out];rfl),J (fun _=>rfl),hd.out.ae Ds hd.out.lt,kV.out.bm Ds,ly Ds _⟩
         · have ny:gC ⟨rs,qs,ag,af,sp,ws,ad,os⟩ ⟨kind,mem,val,yes,no,bq⟩ =some ⟨df,dr,dE,dD,dw,bP,bS,de⟩:=by simpa using wL.out
           have uc:=J ny;clear ny;have DF:=hd.out.ae Ds hd.out.lt;have KO:=FI.out.ae RJ FI.out.lt;have aqm:=ta.size
           have agx:cu≠p:=by omega
           have jm:ab≠p:=by omega
           have Qb:=J DF;have acL:=J (fu.base (B':=B) (by omega));have Sk:=DF.lt;have afg:=eH.lt;have aeU:=KO.lt;have nB:=eH.aI;have Dk:=DF.ib;have aom:=DF.bX;clear fu
           go_upto_region 15 with fail
           clear nB Dk aom
           refine hR 0 fun cD aE=>?_
           have dR:=aE.VN Qb.out;have KZ:=aE.dV eH agx;have hA9:=aE.dV KO jm;have JW:=acL.out.gO Qb.out aE.fC;have RV:=pH (ly Ds (some p)) aE.fC
           have n9:=KZ.aI;have a9:=hA9.da;have apH:=KZ.lt;have apE:=hA9.lt;have wR:=J dR;have yn:=J JW;have PD:=J RV;have acw:=J JW.rd.nV;have se:=(sl (HQ ir.out uc.out)).2.2.2.2
           simp only at se
           clear DF KO eH dR KZ hA9 JW RV aE Sk afg aeU
           go_wp2_with fail
           refine (acV df dr dE dD dw bP bS de cy e0 cv e1 cU e2 cV e3 cA e4 ⟨kind,mem,val,yes,no,bq⟩ (Vb ir.out uc.out) (fun aD=>Va uc.out aD) (by omega) cD acw.out (Aq.out cD PD.out).t).mono ?_
           rintro e IH ⟨rfl,Lw⟩
           go_wp2
           go_ret2
           exact⟨df,dr,dE,dD,dw,bP,bS,de,cy,e0,cv,e1,cU,e2,cV,e3,cA,e4,_,true,rfl,J (by rw [Rp ue.out An.out Cr.out,uc.out];rfl),J (fun e=>by cases e),wR.out.ae Lw wR.out.lt,yn.out.bm Lw,pH PD.out (ly Lw _)⟩
open Go.RowKit Go.G9
theorem hk {w:World} {g:Nat} {Q:World→Prop} (k:Nat) {a0 a1 a2 a3 a4 a5 a6 a7 a8 a9 a10:Value} (h:∀W,dy w g k [a0,a1,a2,a3,a4,a5,a6,a7,a8,a9,a10] W→Q W):Q (World.setCell (World.setCell (World.setCell (World.setCell (World.setCell (World.setCell (World.setCell (World.setCell (World.setCell (World.setCell (World.setCell w ⟨g,k,none⟩ a0) ⟨g,k + 1,none⟩ a1) ⟨g,k + 2,none⟩ a2) ⟨g,k + 3,none⟩ a3) ⟨g,k + 4,none⟩ a4) ⟨g,k + 5,none⟩ a5) ⟨g,k + 6,none⟩ a6) ⟨g,k + 7,none⟩ a7) ⟨g,k + 8,none⟩ a8) ⟨g,k + 9,none⟩ a9) ⟨g,k + 10,none⟩ a10):=h _ (dy.cons (dy.cons (dy.cons (dy.cons (dy.cons (dy.cons (dy.cons (dy.cons (dy.cons (dy.cons (dy.cons dy.nil)))))))))))
theorem HX (aq ar an ao aA:Option Addr) (c0 av c2 c3 c4:Nat) (rs:List aK) (qs:List aQ) (ag af sp:Int) (ws:List Int) (ad:List aO) (os:List Out) (cg cj:ByteArray) (cf:Int) (Z:ei aq ar an ao aA c0 av c2 c3 c4 rs qs ws ad os) (w:World) (R:dI w aq ar an ao aA rs qs ws ad os):
 Calls Tryz.prog 54 #[.agg #[.slice aq rs c0,.slice ar qs av,ag,af,sp,.slice an ws c2,.slice ao ad c3,.slice aA os c4,cg,cj,cf]] w fun e ah=>∃(bQ:Option Addr) (d0:Nat) (cn:Option Addr) (d1:Nat) (aZ:Option Addr) (d2:Nat) (bk:Option Addr) (d3:Nat) (bR:Option Addr) (d4:Nat),e= .returned (.agg #[.slice bQ rs d0,.slice cn qs d1,ag,af,sp,.slice aZ ws d2,.slice bk ad d3,.slice bR os d4,cg,cj,cf])∧fP w ah bQ d0 cn d1 aZ d2 bk d3 bR d4 rs qs ws ad os∧Below w w ah:=by
 have dx:=J Z;clear Z
 go_in
 go_upto_region 1 with fail
 refine fe fun aG au aR U=>?_
 replace R:=R.ae au;have I:=au;have bF:=aR.bX;obtain⟨z0,bW,z2,z3,z4,z5,eO,gG,gW,z9,hc⟩:=U.bX
 have bC:=J R;clear R;clear bF z0 bW z2 z3 z4 z5 eO gG gW z9 hc
 obtain⟨en,gj⟩ :∃X:World→Prop,∀V,X V↔aB V w.heap.size 46 #[.slice aq rs c0,.slice ar qs av,ag,af,sp,.slice an ws c2,.slice ao ad c3,.slice aA os c4,cg,cj,cf]:=⟨_,fun _=>Iff.rfl⟩
 have cO:=J gj;clear gj
 haveI:Nonempty (cH en):=⟨⟨aG,(cO.out _).2 aR⟩⟩
 refine nh en [([0,1,3,4],2),([5],6)] [] (by kernel_rfl) (by kernel_rfl) ((cO.out _).2 aR) ?_
 have bF:=aB.qf (fun K:cH en=>(cO.out _).1 K.holds);have gH:Below w w aG.drew:=aj I (Below.refl _ _).drew;have JG:=J (bC.out.ae (Below.refl _ _).drew);have mU:aB aG.drew w.heap.size 46 #[.slice aq rs c0,.slice ar qs av,ag,af,sp,.slice an ws c2,.slice ao ad c3,.slice aA os c4,cg,cj,cf]:=aR
 have Lt:aB aG.drew (w.heap.size + 1) 46 #[.slice none 0 0,.slice none 0 0,(0:Int),(0:Int),(0:Int),.slice none 0 0,.slice none 0 0,.slice none 0 0,.string ⟨#[]⟩,.string ⟨#[]⟩,(0:Int)]:=U;clear aR U
 generalize aG.drew= wd at *
 refine gr fun fT dv=>?_
 change wpQuiet _ _ _ _ (_ ::_ ::_ ::_ ::[]) _
 repeat (go_big_quiet_step (fail))
 refine wpQuiet_nil ?_
 change wpList _ _ _ (_ ::[]) _ _
 go_wp2_with fail
 refine (HY aq ar an ao aA c0 av c2 c3 c4 rs qs ag af sp ws ad os dx.out wd JG.out).mono ?_
 rintro e aJ ⟨bQ,d0,cn,d1,aZ,d2,bk,d3,bR,d4,rfl,gb,aL⟩
 have jP:=mU.to aL;have pK:=Lt.to aL;have iq:=aj gH aL;have LG:=gH.size;have iL:=J (gb.base (B':=w.heap.size) LG);clear gb
 go_wp2
 refine gw ((cO.out _).2 jP) (dv _ _ ?_)
 refine gr fun fT dv=>?_
 change wpQuiet _ _ _ _ (_ ::[]) _
 repeat (go_big_quiet_step (fail))
 refine wpQuiet_nil ?_
 change wpList _ _ _ (_ ::[]) _ _
 have CE:=J pK;have ak:=pK.bX;have ep:=pK.gX;clear pK
 go_wp2
 clear ak ep
 refine hk 0 fun cD aE=>?_
 have dR:=aE.dV jP;have bK:=aE.hP CE.out;have fA:=iL.out.gO CE.out aE.fC;have et:=aE.aH iq
 refine gw ((cO.out _).2 dR) (dv _ _ ?_)
 refine kD ?_
 change wpQuiet _ _ _ _ ([]) _
 refine wpQuiet_nil ?_
 clear bF
 have z0:=bK.bX
 go_wp2
 exact hD ⟨bQ,d0,cn,d1,aZ,d2,bk,d3,bR,d4,rfl,fA,et⟩ (by simp [results,Tryz.results54,go_sem,z0])
theorem ES (aq ar an ao aA:Option Addr) (c0 av c2 c3 c4:Nat) (rs:List aK) (qs:List aQ) (ag af sp:Int) (ws:List Int) (ad:List aO) (os:List Out) (cg cj:ByteArray) (cf:Int) (Z:ei aq ar an ao aA c0 av c2 c3 c4 rs qs ws ad os) (w:World) (R:dI w aq ar an ao aA rs qs ws ad os):
 Calls Tryz.prog 58 #[.agg #[.slice aq rs c0,.slice ar qs av,ag,af,sp,.slice an ws c2,.slice ao ad c3,.slice aA os c4,cg,cj,cf]] w fun e ah=>∃(bQ:Option Addr) (d0:Nat) (cn:Option Addr) (d1:Nat) (aZ:Option Addr) (d2:Nat) (bk:Option Addr) (d3:Nat) (bR:Option Addr) (d4:Nat),e= .returned (.agg #[.slice bQ rs d0,.slice cn qs d1,ag,af,sp,.slice aZ ws d2,.slice bk ad d3,.slice bR os d4,cg,cj,cf])∧fP w ah bQ d0 cn d1 aZ d2 bk d3 bR d4 rs qs ws ad os∧Below w w ah:=by
 have dx:=J Z;clear Z
 go_in
 go_upto_region 1 with fail
 refine fe fun aG au aR U=>?_
 replace R:=R.ae au;have I:=au;have bF:=aR.bX;obtain⟨z0,bW,z2,z3,z4,z5,eO,gG,gW,z9,hc⟩:=U.bX
 have bC:=J R;clear R;clear bF z0 bW z2 z3 z4 z5 eO gG gW z9 hc
 obtain⟨en,gj⟩ :∃X:World→Prop,∀V,X V↔aB V w.heap.size 46 #[.slice aq rs c0,.slice ar qs av,ag,af,sp,.slice an ws c2,.slice ao ad c3,.slice aA os c4,cg,cj,cf]:=⟨_,fun _=>Iff.rfl⟩
 have cO:=J gj;clear gj
 haveI:Nonempty (cH en):=⟨⟨aG,(cO.out _).2 aR⟩⟩
 refine nh en [([0,1,3,4],2),([5],6)] [] (by kernel_rfl) (by kernel_rfl) ((cO.out _).2 aR) ?_
 have bF:=aB.qf (fun K:cH en=>(cO.out _).1 K.holds);have gH:Below w w aG.drew:=aj I (Below.refl _ _).drew;have JG:=J (bC.out.ae (Below.refl _ _).drew);have mU:aB aG.drew w.heap.size 46 #[.slice aq rs c0,.slice ar qs av,ag,af,sp,.slice an ws c2,.slice ao ad c3,.slice aA os c4,cg,cj,cf]:=aR
 have Lt:aB aG.drew (w.heap.size + 1) 46 #[.slice none 0 0,.slice none 0 0,(0:Int),(0:Int),(0:Int),.slice none 0 0,.slice none 0 0,.slice none 0 0,.string ⟨#[]⟩,.string ⟨#[]⟩,(0:Int)]:=U;clear aR U
 generalize aG.drew= wd at *
 refine gr fun fT dv=>?_
 change wpQuiet _ _ _ _ (_ ::_ ::_ ::_ ::[]) _
 repeat (go_big_quiet_step (fail))
 refine wpQuiet_nil ?_
 change wpList _ _ _ (_ ::[]) _ _
 go_wp2_with fail
 refine (ED aq ar an ao aA c0 av c2 c3 c4 rs qs ag af sp ws ad os dx.out wd JG.out).mono ?_
 rintro e aJ ⟨bQ,d0,cn,d1,aZ,d2,bk,d3,bR,d4,rfl,gb,aL⟩
 have jP:=mU.to aL;have pK:=Lt.to aL;have iq:=aj gH aL;have LG:=gH.size;have iL:=J (gb.base (B':=w.heap.size) LG);clear gb
 go_wp2
 refine gw ((cO.out _).2 jP) (dv _ _ ?_)
 refine gr fun fT dv=>?_
 change wpQuiet _ _ _ _ (_ ::[]) _
 repeat (go_big_quiet_step (fail))
 refine wpQuiet_nil ?_
 change wpList _ _ _ (_ ::[]) _ _
 have CE:=J pK;have ak:=pK.bX;have ep:=pK.gX;clear pK
 go_wp2
 clear ak ep
 refine hk 0 fun cD aE=>?_
 have dR:=aE.dV jP;have bK:=aE.hP CE.out;have fA:=iL.out.gO CE.out aE.fC;have et:=aE.aH iq
 refine gw ((cO.out _).2 dR) (dv _ _ ?_)
 refine kD ?_
 change wpQuiet _ _ _ _ ([]) _
 refine wpQuiet_nil ?_
 clear bF
 have z0:=bK.bX
 go_wp2
 exact hD ⟨bQ,d0,cn,d1,aZ,d2,bk,d3,bR,d4,rfl,fA,et⟩ (by simp [results,Tryz.results58,go_sem,z0])
open Go.RowKit Go.G9
def rv (rs:List aK) (ag af:Int):eY:=(gg rs ag af).Gy ⟨#[]⟩ ⟨#[]⟩ 0
theorem Vs (rs:List aK) (ag af:Int):(iH rs ag af= true∨gg rs ag af=⟨[],[],0,0,0,[],[],[]⟩):=by
 cases h:iH rs ag af
 ·exact .inr (HZ h)
 ·exact .inl rfl
def Gd (m:eY) (b:Bool) (w:World) (e:Ending) (ah:World):Prop:=∃(bQ:Option Addr) (d0:Nat) (cn:Option Addr) (d1:Nat) (aZ:Option Addr) (d2:Nat) (bk:Option Addr) (d3:Nat) (bR:Option Addr) (d4:Nat),e= .returned (.tuple #[.agg #[.slice bQ m.cx.length d0,.slice cn m.cP.length d1,.int .i64 m.ek,.int .i64 m.dS,.int .i64 m.fk,.slice aZ m.ds.length d2,.slice bk m.du.length d3,.slice bR m.cl.length d4,.string m.eP,.string m.eR,.int .i64 m.dW],.bool b])∧fP w.heap.size ah bQ d0 cn d1 aZ d2 bk d3 bR d4 m.cx m.cP m.ds m.du m.cl∧Below w.heap.size w ah
theorem Zk {p:Prop} (h:p:=by
 exact⟨none,0,none,0,none,0,none,0,none,0,rfl,⟨bd.nil,bd.nil,bd.nil,bd.nil,bd.nil⟩,aE.aH xZ⟩):p:=h
theorem ZJ {p:Prop} (h:p:=by
 exact⟨bQ,d0,cn,d1,aZ,d2,bk,d3,bR,d4,rfl,ji.out.gO bg.out aE.fC,aE.aH xZ⟩):p:=h
theorem aii (A:Option Addr) (c:Nat) (rs:List aK) (aY:rs.length≤1048576) (ag af:Int) (w:World) (bn:aS 7 aK.cells w A rs) (aX:A= none→rs= []∧c= 0) (fo:rs.length≤c):
 Calls Tryz.prog 31 #[.slice A rs c,ag,af] w (Gd (rv rs ag af) (iH rs ag af) w):=by
 have gp:=J (fun (W:World) (bL:aS 7 aK.cells W A rs)=>aik A c rs aY ag af W bL aX fo);have cC:=J (Vs rs ag af);have bC:=J bn;clear aX bn
 unfold Gd rv
 generalize gg rs ag af= M at *
 generalize iH rs ag af= b at *
 simp only [cw.Gy]
 go_in
 go_upto_region 1 with fail
 refine cF fun aG au U=>?_
 have I:=au;obtain⟨z0,bW,z2,z3,z4,z5,eO,gG,gW,z9,hc⟩:=U.bX;have sz:=I.size;clear z0 bW z2 z3 z4 z5 eO gG gW z9 hc
 go_wp2_with fail
 refine (gp.out aG (bC.out.ae I)).mono ?_
 rintro e aJ ⟨bQ,d0,cn,d1,aZ,d2,bk,d3,bR,d4,rfl,cJ,cI,bI,bD,cz,ap,aL⟩
 have iL:Hid (fP w aJ bQ d0 cn d1 aZ d2 bk d3 bR d4 M.cx M.cP M.ds M.du M.cl):=J ⟨cJ.base sz,cI.base sz,bI.base sz,bD.base sz,cz.base sz⟩;have pK:=U.to aL;have iq:=aj I aL;clear cJ cI bI bD cz ap U I aL
 go_upto_region 2 with fail
 have ai:=aB.new aJ 44 #[.slice bQ M.cx d0,.slice cn M.cP d1,M.ek,M.dS,M.fk,.slice aZ M.ds d2,.slice bk M.du d3,.slice bR M.cl d4];have bx:Below aJ aJ (aJ.alloc (.cells #[.slice bQ M.cx d0,.slice cn M.cP d1,M.ek,M.dS,M.fk,.slice aZ M.ds d2,.slice bk M.du d3,.slice bR M.cl d4] 44)):=bT _ _
 generalize aJ.alloc (.cells #[.slice bQ M.cx d0,.slice cn M.cP d1,M.ek,M.dS,M.fk,.slice aZ M.ds d2,.slice bk M.du d3,.slice bR M.cl d4] 44)= bB at *
 have tf:=pK.to bx;have xZ:=aj iq bx;have ji:=J (iL.out.bm bx);have bg:=J tf;have ak:=tf.bX;have ep:=tf.gX;have FE:=tf.lt;have aC:=ai.aI;have fV:=ai.lt;clear pK iq bx iL tf
 cases b
 ·obtain rfl:M=⟨[],[],0,0,0,[],[],[]⟩:=cC.out.resolve_left (by simp)
  go_wp2
  clear ak ep FE aC fV
  refine hk 0 fun cD aE=>?_
  obtain⟨z0,bW,z2,z3,z4,z5,eO,gG,gW,z9,hc⟩:=(show aB cD w.heap.size 46 #[.slice none 0 0,.slice none 0 0,(0:Int),(0:Int),(0:Int),.slice none 0 0,.slice none 0 0,.slice none 0 0,.string ⟨#[]⟩,.string ⟨#[]⟩,(0:Int)] from aE.own bg.out).bX
  refine bodyPost_ret (v:= .tuple #[.agg #[.slice none 0 0,.slice none 0 0,(0:Int),(0:Int),(0:Int),.slice none 0 0,.slice none 0 0,.slice none 0 0,.string ⟨#[]⟩,.string ⟨#[]⟩,(0:Int)],false]) (by simp [results,Tryz.results31,go_sem,z0,bW,z2,z3,z4,z5,eO,gG,gW,z9,hc]) rfl ?_
  exact Zk
 ·go_wp2
  clear ak ep FE aC fV
  refine hk 0 fun cD aE=>?_
  obtain⟨z0,bW,z2,z3,z4,z5,eO,gG,gW,z9,hc⟩:=(show aB cD w.heap.size 46 #[.slice bQ M.cx d0,.slice cn M.cP d1,M.ek,M.dS,M.fk,.slice aZ M.ds d2,.slice bk M.du d3,.slice bR M.cl d4,.string ⟨#[]⟩,.string ⟨#[]⟩,(0:Int)] from aE.own bg.out).bX
  refine bodyPost_ret (v:= .tuple #[.agg #[.slice bQ M.cx d0,.slice cn M.cP d1,M.ek,M.dS,M.fk,.slice aZ M.ds d2,.slice bk M.du d3,.slice bR M.cl d4,.string ⟨#[]⟩,.string ⟨#[]⟩,(0:Int)],true]) (by simp [results,Tryz.results31,go_sem,z0,bW,z2,z3,z4,z5,eO,gG,gW,z9,hc]) rfl ?_
  exact ZJ
theorem amK (A:Option Addr) (c:Nat) (rs:List aK) (aY:rs.length≤1048576) (ag af:Int) (w:World) (bn:aS 7 aK.cells w A rs) (aX:A= none→rs= []∧c= 0) (fo:rs.length≤c):
 Calls Tryz.prog 32 #[.slice A rs c,ag,af] w (Gd (rv rs ag af) (iH rs ag af) w):=by
 have gp:=J (fun (W:World) (bL:aS 7 aK.cells W A rs)=>amM A c rs aY ag af W bL aX fo);have cC:=J (Vs rs ag af);have bC:=J bn;clear aX bn
 unfold Gd rv
 generalize gg rs ag af= M at *
 generalize iH rs ag af= b at *
 simp only [cw.Gy]
 go_in
 go_upto_region 1 with fail
 refine cF fun aG au U=>?_
 have I:=au;obtain⟨z0,bW,z2,z3,z4,z5,eO,gG,gW,z9,hc⟩:=U.bX;have sz:=I.size;clear z0 bW z2 z3 z4 z5 eO gG gW z9 hc
 go_wp2_with fail
 refine (gp.out aG (bC.out.ae I)).mono ?_
 rintro e aJ ⟨bQ,d0,cn,d1,aZ,d2,bk,d3,bR,d4,rfl,cJ,cI,bI,bD,cz,ap,aL⟩
 have iL:Hid (fP w aJ bQ d0 cn d1 aZ d2 bk d3 bR d4 M.cx M.cP M.ds M.du M.cl):=J ⟨cJ.base sz,cI.base sz,bI.base sz,bD.base sz,cz.base sz⟩;have pK:=U.to aL;have iq:=aj I aL;clear cJ cI bI bD cz ap U I aL
 go_upto_region 2 with fail
 have ai:=aB.new aJ 44 #[.slice bQ M.cx d0,.slice cn M.cP d1,M.ek,M.dS,M.fk,.slice aZ M.ds d2,.slice bk M.du d3,.slice bR M.cl d4];have bx:Below aJ aJ (aJ.alloc (.cells #[.slice bQ M.cx d0,.slice cn M.cP d1,M.ek,M.dS,M.fk,.slice aZ M.ds d2,.slice bk M.du d3,.slice bR M.cl d4] 44)):=bT _ _
 generalize aJ.alloc (.cells #[.slice bQ M.cx d0,.slice cn M.cP d1,M.ek,M.dS,M.fk,.slice aZ M.ds d2,.slice bk M.du d3,.slice bR M.cl d4] 44)= bB at *
 have tf:=pK.to bx;have xZ:=aj iq bx;have ji:=J (iL.out.bm bx);have bg:=J tf;have ak:=tf.bX;have ep:=tf.gX;have FE:=tf.lt;have aC:=ai.aI;have fV:=ai.lt;clear pK iq bx iL tf
 cases b
 ·obtain rfl:M=⟨[],[],0,0,0,[],[],[]⟩:=cC.out.resolve_left (by simp)
  go_wp2
  clear ak ep FE aC fV
  refine hk 0 fun cD aE=>?_
  obtain⟨z0,bW,z2,z3,z4,z5,eO,gG,gW,z9,hc⟩:=(show aB cD w.heap.size 46 #[.slice none 0 0,.slice none 0 0,(0:Int),(0:Int),(0:Int),.slice none 0 0,.slice none 0 0,.slice none 0 0,.string ⟨#[]⟩,.string ⟨#[]⟩,(0:Int)] from aE.own bg.out).bX
  refine bodyPost_ret (v:= .tuple #[.agg #[.slice none 0 0,.slice none 0 0,(0:Int),(0:Int),(0:Int),.slice none 0 0,.slice none 0 0,.slice none 0 0,.string ⟨#[]⟩,.string ⟨#[]⟩,(0:Int)],false]) (by simp [results,Tryz.results32,go_sem,z0,bW,z2,z3,z4,z5,eO,gG,gW,z9,hc]) rfl ?_
  exact Zk
 ·go_wp2
  clear ak ep FE aC fV
  refine hk 0 fun cD aE=>?_
  obtain⟨z0,bW,z2,z3,z4,z5,eO,gG,gW,z9,hc⟩:=(show aB cD w.heap.size 46 #[.slice bQ M.cx d0,.slice cn M.cP d1,M.ek,M.dS,M.fk,.slice aZ M.ds d2,.slice bk M.du d3,.slice bR M.cl d4,.string ⟨#[]⟩,.string ⟨#[]⟩,(0:Int)] from aE.own bg.out).bX
  refine bodyPost_ret (v:= .tuple #[.agg #[.slice bQ M.cx d0,.slice cn M.cP d1,M.ek,M.dS,M.fk,.slice aZ M.ds d2,.slice bk M.du d3,.slice bR M.cl d4,.string ⟨#[]⟩,.string ⟨#[]⟩,(0:Int)],true]) (by simp [results,Tryz.results32,go_sem,z0,bW,z2,z3,z4,z5,eO,gG,gW,z9,hc]) rfl ?_
  exact ZJ
open Go.RowKit Go.G9
theorem ajG {m n:cw} {l x:ByteArray} {b:Bool} (h:my m (iZ 32 l)= if b= true then some (n,x) else none) (aF:b= false→n= m):pe m l= (n,if b then x else (⟨#[63]⟩ :ByteArray)):=by
 unfold pe jk
 rw [h]
 cases b
 ·rw [aF rfl];rfl
 ·rfl
theorem Ca {p:Prop} (h:p:=by
 exact⟨rs,qs,ag,af,sp,ws,ad,os,cg,cj,cf,bQ,d0,cn,d1,aZ,d2,bk,d3,bR,d4,_,rfl,J (by rw [(cC.out).1,(cC.out).2]),fA,et⟩):p:=h
theorem YA {p:Prop} (h:p:=by
 by_cases h2:200 < y.size
 ·go_wp2_with fail
  go_meet
  exact⟨_,rfl,J (by rw [nW,if_pos h2]),rfl⟩
 ·go_wp2_with fail
  go_meet
  exact⟨_,rfl,J (by rw [nW,if_neg h2]),rfl⟩):p:=h
theorem ahw (aq ar an ao aA:Option Addr) (c0 av c2 c3 c4:Nat) (rs:List aK) (qs:List aQ) (ag af sp:Int) (ws:List Int) (ad:List aO) (os:List Out) (cg cj:ByteArray) (cf:Int) (Z:ei aq ar an ao aA c0 av c2 c3 c4 rs qs ws ad os) (ck:cg.size + cj.size≤1048576) (l:ByteArray) (aT:l.size≤1048576) (w:World) (R:dI w aq ar an ao aA rs qs ws ad os) (bO:nF w):
 Calls Tryz.prog 18 #[.agg #[.slice aq rs c0,.slice ar qs av,ag,af,sp,.slice an ws c2,.slice ao ad c3,.slice aA os c4,cg,cj,cf],l] w fun e ah=>∃(df:List aK) (dr:List aQ) (dE dD dw:Int) (bP:List Int) (bS:List aO) (de:List Out) (pF pW:ByteArray) (pB:Int) (cy:Option Addr) (e0:Nat) (cv:Option Addr) (e1:Nat) (cU:Option Addr) (e2:Nat) (cV:Option Addr) (e3:Nat) (cA:Option Addr) (e4:Nat) (y:ByteArray),e= .returned (.tuple #[.agg #[.slice cy df e0,.slice cv dr e1,dE,dD,dw,.slice cU bP e2,.slice cV bS e3,.slice cA de e4,pF,pW,pB],.string y])∧Hid ((oR (⟨rs,qs,ag,af,sp,ws,ad,os,cg,cj,cf⟩ :eY) l,qT (⟨rs,qs,ag,af,sp,ws,ad,os,cg,cj,cf⟩ :eY) l)= ((⟨df,dr,dE,dD,dw,bP,bS,de,pF,pW,pB⟩ :eY),y))∧fP w ah cy e0 cv e1 cU e2 cV e3 cA e4 df dr bP bS de∧Below w w ah:=by
 have dx:=J Z;clear Z;have CB:=bO
 cases aH:jd (⟨rs,qs,ag,af,sp,ws,ad,os,cg,cj,cf⟩ :eY)
 ·have bo:=J aH
  have cC:=J (QQ (l:=l) aH);clear aH
  go_in
  go_upto_region 1 with fail
  refine fe fun aG au aR U=>?_
  replace R:=R.ae au;replace bO:=bO.ae au;have I:=au
  obtain⟨dd,dT,dN,eg,eh,fE,fF,fG,fH,fI,fD⟩:=aR.bX
  obtain⟨z0,bW,z2,z3,z4,z5,eO,gG,gW,z9,hc⟩:=U.bX;clear z0 bW z2 z3 z4 z5 eO gG gW z9 hc
  have ee:=J U;clear U CB
  go_wp2_with fail
  refine (Hy (⟨rs,qs,ag,af,sp,ws,ad,os,cg,cj,cf⟩ :eY) aq ar an ao aA c0 av c2 c3 c4 dx.out.h0 dx.out.h1 dx.out.h2 dx.out.h3 dx.out.h4 ck _ bo.out _ ((R.ae az)).fx ((R.ae az)).dL ((R.ae az)).r2 ((R.ae az)).hG ((R.ae az)).nV dx.out.dZ dx.out.eI dx.out.cp dx.out.ef dx.out.hY ((bO.ae az)).t).mono ?_
  rintro e aJ ⟨rfl,aL⟩
  have al:=be aG aL;replace I:=aj I al;replace R:=R.ae al;replace aR:=aR.to al;clear dd dT dN eg eh fE fF fG fH fI fD
  obtain⟨dd,dT,dN,eg,eh,fE,fF,fG,fH,fI,fD⟩:=aR.bX
  have pS:=I.size;have qj:=al
  go_wp2_with fail
  refine (HX aq ar an ao aA c0 av c2 c3 c4 rs qs ag af sp ws ad os cg cj cf dx.out aJ R).mono ?_
  rintro e bB ⟨bQ,d0,cn,d1,aZ,d2,bk,d3,bR,d4,rfl,gb,bx⟩
  have aP:=be aJ bx;replace I:=aj I aP;replace aR:=aR.to aP;clear dd dT dN eg eh fE fF fG fH fI fD;have iL:=J (gb.base (B':=w.heap.size) pS);clear gb;have bK:=ee.out.ae (aj qj aP) ee.out.lt;have ak:=bK.bX;have ep:=bK.gX;have ja:=J bK;clear bK R
  go_wp2
  clear ak ep
  refine hk 0 fun cD aE=>?_
  have bK:=aE.hP ja.out;have fA:=iL.out.gO ja.out aE.fC;have et:=aE.aH I;clear aE I
  have z0:=bK.bX
  refine bodyPost_ret (v:= .tuple #[.agg #[.slice bQ rs d0,.slice cn qs d1,ag,af,sp,.slice aZ ws d2,.slice bk ad d3,.slice bR os d4,cg,cj,cf],.string (⟨#[110,111]⟩ :ByteArray)]) (by simp [results,Tryz.results18,go_sem,z0]) rfl ?_
  exact Ca
 ·have bo:=J aH
  obtain⟨rC,gB⟩ :∃b,kR l ⟨#[]⟩ =b:=⟨_,rfl⟩
  have yq:=J gB
  cases rC
  ·have cC:=J (QN aH gB)
   clear aH gB
   go_in
   go_upto_region 1 with fail
   refine fe fun aG au aR U=>?_
   replace R:=R.ae au;replace bO:=bO.ae au;have I:=au
   obtain⟨dd,dT,dN,eg,eh,fE,fF,fG,fH,fI,fD⟩:=aR.bX
   obtain⟨z0,bW,z2,z3,z4,z5,eO,gG,gW,z9,hc⟩:=U.bX;clear z0 bW z2 z3 z4 z5 eO gG gW z9 hc
   have ee:=J U;clear U CB
   go_wp2_with fail
   refine (Hy (⟨rs,qs,ag,af,sp,ws,ad,os,cg,cj,cf⟩ :eY) aq ar an ao aA c0 av c2 c3 c4 dx.out.h0 dx.out.h1 dx.out.h2 dx.out.h3 dx.out.h4 ck _ bo.out _ ((R.ae az)).fx ((R.ae az)).dL ((R.ae az)).r2 ((R.ae az)).hG ((R.ae az)).nV dx.out.dZ dx.out.eI dx.out.cp dx.out.ef dx.out.hY ((bO.ae az)).t).mono ?_
   rintro e aJ ⟨rfl,aL⟩
   have al:=be aG aL;replace I:=aj I al;replace R:=R.ae al;replace aR:=aR.to al;clear dd dT dN eg eh fE fF fG fH fI fD
   obtain⟨dd,dT,dN,eg,eh,fE,fF,fG,fH,fI,fD⟩:=aR.bX
   have qj:=al
   go_wp2_with fail
   refine (vY l ⟨#[]⟩ aT (Nat.zero_le _) _ yq.out _).mono ?_
   rintro e bB ⟨rfl,bx⟩
   have aP:=be aJ bx;replace I:=aj I aP;replace R:=R.ae aP;replace aR:=aR.to aP;clear dd dT dN eg eh fE fF fG fH fI fD
   obtain⟨dd,dT,dN,eg,eh,fE,fF,fG,fH,fI,fD⟩:=aR.bX
   have pS:=I.size;replace qj:=aj qj aP
   go_wp2_with fail
   refine (HX aq ar an ao aA c0 av c2 c3 c4 rs qs ag af sp ws ad os cg cj cf dx.out bB R).mono ?_
   rintro e bU ⟨bQ,d0,cn,d1,aZ,d2,bk,d3,bR,d4,rfl,gb,cY⟩
   have bN:=be bB cY;replace I:=aj I bN;replace aR:=aR.to bN;clear dd dT dN eg eh fE fF fG fH fI fD;have iL:=J (gb.base (B':=w.heap.size) pS);clear gb;have bK:=ee.out.ae (aj qj bN) ee.out.lt;have ak:=bK.bX;have ep:=bK.gX;have ja:=J bK;clear bK R
   go_wp2
   clear ak ep
   refine hk 0 fun cD aE=>?_
   have bK:=aE.hP ja.out;have fA:=iL.out.gO ja.out aE.fC;have et:=aE.aH I;clear aE I
   have z0:=bK.bX
   refine bodyPost_ret (v:= .tuple #[.agg #[.slice bQ rs d0,.slice cn qs d1,ag,af,sp,.slice aZ ws d2,.slice bk ad d3,.slice bR os d4,cg,cj,cf],.string (⟨#[98,97,100]⟩ :ByteArray)]) (by simp [results,Tryz.results18,go_sem,z0]) rfl ?_
   exact Ca
  ·obtain⟨KA,vN⟩ :∃b,(cf == 60)= b:=⟨_,rfl⟩
   cases KA
   rotate_left
   ·have cC:=J (QO aH gB vN)
    clear aH gB
    go_in
    go_upto_region 1 with fail
    refine fe fun aG au aR U=>?_
    replace R:=R.ae au;replace bO:=bO.ae au;have I:=au
    obtain⟨dd,dT,dN,eg,eh,fE,fF,fG,fH,fI,fD⟩:=aR.bX
    obtain⟨z0,bW,z2,z3,z4,z5,eO,gG,gW,z9,hc⟩:=U.bX;clear z0 bW z2 z3 z4 z5 eO gG gW z9 hc
    have ee:=J U;clear U CB
    go_wp2_with fail
    refine (Hy (⟨rs,qs,ag,af,sp,ws,ad,os,cg,cj,cf⟩ :eY) aq ar an ao aA c0 av c2 c3 c4 dx.out.h0 dx.out.h1 dx.out.h2 dx.out.h3 dx.out.h4 ck _ bo.out _ ((R.ae az)).fx ((R.ae az)).dL ((R.ae az)).r2 ((R.ae az)).hG ((R.ae az)).nV dx.out.dZ dx.out.eI dx.out.cp dx.out.ef dx.out.hY ((bO.ae az)).t).mono ?_
    rintro e aJ ⟨rfl,aL⟩
    have al:=be aG aL;replace I:=aj I al;replace R:=R.ae al;replace aR:=aR.to al;clear dd dT dN eg eh fE fF fG fH fI fD
    obtain⟨dd,dT,dN,eg,eh,fE,fF,fG,fH,fI,fD⟩:=aR.bX
    have qj:=al
    go_wp2_with fail
    refine (vY l ⟨#[]⟩ aT (Nat.zero_le _) _ yq.out _).mono ?_
    rintro e bB ⟨rfl,bx⟩
    have aP:=be aJ bx;replace I:=aj I aP;replace R:=R.ae aP;replace aR:=aR.to aP;clear dd dT dN eg eh fE fF fG fH fI fD
    obtain⟨dd,dT,dN,eg,eh,fE,fF,fG,fH,fI,fD⟩:=aR.bX
    have pS:=I.size;replace qj:=aj qj aP
    go_wp2_with fail
    refine (HX aq ar an ao aA c0 av c2 c3 c4 rs qs ag af sp ws ad os cg cj cf dx.out bB R).mono ?_
    rintro e bU ⟨bQ,d0,cn,d1,aZ,d2,bk,d3,bR,d4,rfl,gb,cY⟩
    have bN:=be bB cY;replace I:=aj I bN;replace aR:=aR.to bN;clear dd dT dN eg eh fE fF fG fH fI fD;have iL:=J (gb.base (B':=w.heap.size) pS);clear gb;have bK:=ee.out.ae (aj qj bN) ee.out.lt;have ak:=bK.bX;have ep:=bK.gX;have ja:=J bK;clear bK R
    go_wp2
    clear ak ep
    refine hk 0 fun cD aE=>?_
    have bK:=aE.hP ja.out;have fA:=iL.out.gO ja.out aE.fC;have et:=aE.aH I;clear aE I
    have z0:=bK.bX
    refine bodyPost_ret (v:= .tuple #[.agg #[.slice bQ rs d0,.slice cn qs d1,ag,af,sp,.slice aZ ws d2,.slice bk ad d3,.slice bR os d4,cg,cj,cf],.string (⟨#[102,117,108,108]⟩ :ByteArray)]) (by simp [results,Tryz.results18,go_sem,z0]) rfl ?_
    exact Ca
   ·have cC:=J (QR aH gB vN)
    have Ta:=(Wm gB).2;have ir:Hid (gR ⟨rs,qs,ag,af,sp,ws,ad,os⟩):=J (Db aH);have Jt:=J (show (⟨cg,cj,cf⟩ :fU).eP.size + (⟨cg,cj,cf⟩ :fU).eR.size≤1048576 from ck);clear aH gB
    go_in
    go_upto_region 1 with fail
    refine fe fun aG au aR U=>?_
    replace R:=R.ae au;replace bO:=bO.ae au;have I:=au
    obtain⟨dd,dT,dN,eg,eh,fE,fF,fG,fH,fI,fD⟩:=aR.bX
    obtain⟨z0,bW,z2,z3,z4,z5,eO,gG,gW,z9,hc⟩:=U.bX;have Ci:=J CB;have hd:=J aR
    have aqM:=U.lt;clear z0 bW z2 z3 z4 z5 eO gG gW z9 hc;have ee:=J U;clear U CB
    go_wp2_with fail
    refine (Hy (⟨rs,qs,ag,af,sp,ws,ad,os,cg,cj,cf⟩ :eY) aq ar an ao aA c0 av c2 c3 c4 dx.out.h0 dx.out.h1 dx.out.h2 dx.out.h3 dx.out.h4 ck _ bo.out _ ((R.ae az)).fx ((R.ae az)).dL ((R.ae az)).r2 ((R.ae az)).hG ((R.ae az)).nV dx.out.dZ dx.out.eI dx.out.cp dx.out.ef dx.out.hY ((bO.ae az)).t).mono ?_
    rintro e aJ ⟨rfl,aL⟩
    have al:=be aG aL;replace I:=aj I al;replace R:=R.ae al;replace aR:=aR.to al;clear dd dT dN eg eh fE fF fG fH fI fD
    obtain⟨dd,dT,dN,eg,eh,fE,fF,fG,fH,fI,fD⟩:=aR.bX
    have qj:=al
    go_wp2_with fail
    refine (vY l ⟨#[]⟩ aT (Nat.zero_le _) _ yq.out _).mono ?_
    rintro e bB ⟨rfl,bx⟩
    have aP:=be aJ bx;replace I:=aj I aP;replace R:=R.ae aP;replace aR:=aR.to aP;clear dd dT dN eg eh fE fF fG fH fI fD
    obtain⟨dd,dT,dN,eg,eh,fE,fF,fG,fH,fI,fD⟩:=aR.bX
    have pS:=I.size;replace qj:=aj qj aP
    go_wp2_with fail
    refine (HX aq ar an ao aA c0 av c2 c3 c4 rs qs ag af sp ws ad os cg cj cf dx.out bB R).mono ?_
    rintro e bU ⟨bQ,d0,cn,d1,aZ,d2,bk,d3,bR,d4,rfl,gb,cY⟩
    have bN:=be bB cY;replace I:=aj I bN;replace aR:=aR.to bN;clear dd dT dN eg eh fE fF fG fH fI fD;have Lq:=aj qj bN;have iL:=J (gb.base (B':=w.heap.size) pS);clear gb
    go_upto_region 8 with fail
    obtain⟨so,km⟩ :∃b,b= bU.heap.size:=⟨_,rfl⟩
    have Lc:=aB.new bU 46 #[.slice bQ rs d0,.slice cn qs d1,ag,af,sp,.slice aZ ws d2,.slice bk ad d3,.slice bR os d4,cg,cj,cf];have Hd:Below bU bU (bU.alloc (.cells #[.slice bQ rs d0,.slice cn qs d1,ag,af,sp,.slice aZ ws d2,.slice bk ad d3,.slice bR os d4,cg,cj,cf] 46)):=bT _ _
    rw [← km] at Lc
    have aqc:aG.heap.size≤so:=by rw [km];exact Lq.size
    generalize bU.alloc (.cells #[.slice bQ rs d0,.slice cn qs d1,ag,af,sp,.slice aZ ws d2,.slice bk ad d3,.slice bR os d4,cg,cj,cf] 46)= Ox at *
    rw [← km]
    have Sl:=aj Lq Hd;have DE:=aj I Hd;have aci:=J (iL.out.bm Hd);have Cz:Hid (∀W,Ox.grownBy W (some so)→nF W):=J (fun W bL=>Ci.out.ae (DE.grown bL DE.size (fun q bj=>by have al:=Option.some.inj bj;omega)));have qM:=J Lc;have agW:=DE.size;clear km Lc R bO aR I Hd qj Lq
    go_wp2_with fail
    refine (aeo w.heap.size so bQ cn aZ bk bR d0 d1 d2 d3 d4 rs qs ag af sp ws ad os cg cj cf ir.out l Ta Ox (by omega) agW qM.out aci.out Cz.out).mono ?_
    rintro e nE ⟨df,dr,dE,dD,dw,bP,bS,de,cy,e0,cv,e1,cU,e2,cV,e3,cA,e4,x,b,rfl,mI,nH,pJ,ht,KW⟩
    have te:=Sl.grown KW Sl.size (fun q bj=>by have al:=Option.some.inj bj;omega);have GZ:=DE.grown KW DE.size (fun q bj=>by have al:=Option.some.inj bj;omega);have FQ:=J pJ;have jE:=J ht;clear pJ ht KW
    go_upto_if 37 with fail
    go_cut [7] (fun lp W=>∃y,lp= .string y∧Hid (pe ⟨rs,qs,ag,af,sp,ws,ad,os⟩ l= (⟨df,dr,dE,dD,dw,bP,bS,de⟩,y))∧nE= W)
    case first=>
     have cB:=J (ajG mI.out nH.out)
     cases b
     ·go_wp2_with fail
      go_meet
      exact⟨_,rfl,cB,rfl⟩
     ·go_wp2_with fail
      go_meet
      exact⟨_,rfl,cB,rfl⟩
    case rest=>
     obtain⟨y,rfl,FM,hw⟩:=hcut
     subst hw
     clear mI nH
     go_upto_if 40 with fail
     go_cut [7] (fun lp W=>∃jB,lp= .string jB∧Hid (nW y= jB)∧nE= W)
     case first=>
      exact YA
     case rest=>
      obtain⟨jB,rfl,Am,hw⟩:=hcut
      subst hw
      have sh:jB.size≤1048576:=by
       rw [← Am.out]
       unfold nW
       split
       ·decide
       ·omega
      have oe:=fun W (h:jF W)=>ahh ⟨cg,cj,cf⟩ Jt.out ⟨l,jB⟩ aT sh W h
      obtain⟨g,cT⟩ :∃g,iD ⟨cg,cj,cf⟩ ⟨l,jB⟩ =g:=⟨_,rfl⟩
      rw [cT] at oe
      have kF:=J cT;clear cT
      obtain⟨pF,pW,pB⟩:=g
      have rI:=J oe;clear oe
      simp only at rI
      have bF:=(hd.out.ae te hd.out.lt).bX
      go_wp2_with fail
      refine (rI.out nE (Ci.out.ae GZ).t).mono ?_
      rintro e mG ⟨rfl,fL⟩
      have je:=FQ.out.ae fL FQ.out.lt;have yn:=J je;have lQ:=je.bX;have Dj:=je.gX;clear bF je
      go_upto_region 14 with fail
      clear lQ Dj
      refine su 8 fun Ay hS=>?_
      have mA:=hS.VR yn.out;have bD:=(jE.out.bm fL).gO yn.out hS.fC;have dR:=hS.aH (aj te fL);have Ln:=hS.aH (aj GZ fL);have bK:=ee.out.ae dR ee.out.lt
      have ja:=J bK;have ji:=J bD;have lQ:=mA.bX;have ak:=bK.bX;have ep:=bK.gX;clear bK bD hS mA
      go_wp2
      clear lQ ak ep
      refine hk 0 fun WF wB=>?_
      have Ls:=wB.hP ja.out;have oQ:=ji.out.gO ja.out wB.fC;have Jl:=wB.aH Ln;clear wB
      have z0:=Ls.bX
      refine bodyPost_ret (v:= .tuple #[.agg #[.slice cy df e0,.slice cv dr e1,dE,dD,dw,.slice cU bP e2,.slice cV bS e3,.slice cA de e4,pF,pW,pB],.string jB]) (by simp [results,Tryz.results18,go_sem,z0]) rfl ?_
      exact⟨df,dr,dE,dD,dw,bP,bS,de,pF,pW,pB,cy,e0,cv,e1,cU,e2,cV,e3,cA,e4,jB,rfl,J (by
       rw [cC.out.1,cC.out.2]
       unfold yz
       rw [show pe (eY.lC (⟨rs,qs,ag,af,sp,ws,ad,os,cg,cj,cf⟩ :eY)) l= (⟨df,dr,dE,dD,dw,bP,bS,de⟩,y) from FM.out]
       simp only
       rw [Am.out,show iD (eY.log (⟨rs,qs,ag,af,sp,ws,ad,os,cg,cj,cf⟩ :eY)) ⟨l,jB⟩ =⟨pF,pW,pB⟩ from kF.out]
       rfl),oQ,Jl⟩
open Go.RowKit Go.G9
def Ax (B:Nat) (cg cj:ByteArray) (cf:Int) (r:cw×ByteArray) (e:Ending) (ah:World):Prop:=∃(df:List aK) (dr:List aQ) (dE dD dw:Int) (bP:List Int) (bS:List aO) (de:List Out) (cy:Option Addr) (e0:Nat) (cv:Option Addr) (e1:Nat) (cU:Option Addr) (e2:Nat) (cV:Option Addr) (e3:Nat) (cA:Option Addr) (e4:Nat) (y:ByteArray),e= .returned (.tuple #[.agg #[.slice cy df.length e0,.slice cv dr.length e1,.int .i64 dE,.int .i64 dD,.int .i64 dw,.slice cU bP.length e2,.slice cV bS.length e3,.slice cA de.length e4,.string cg,.string cj,.int .i64 cf],.string y])∧Hid (r= (⟨df,dr,dE,dD,dw,bP,bS,de⟩,y))∧fP B ah cy e0 cv e1 cU e2 cV e3 cA e4 df dr bP bS de
theorem EK {B:Nat} {w:World} {bQ:Option Addr} {d0:Nat} {cn:Option Addr} {d1:Nat} {aZ:Option Addr} {d2:Nat} {bk:Option Addr} {d3:Nat} {bR:Option Addr} {d4:Nat} {rs:List aK} {qs:List aQ} {ag af sp:Int} {ws:List Int} {ad:List aO} {os:List Out} (h:fP B w bQ d0 cn d1 aZ d2 bk d3 bR d4 rs qs ws ad os) (hm:gR ⟨rs,qs,ag,af,sp,ws,ad,os⟩):ei bQ cn aZ bk bR d0 d1 d2 d3 d4 rs qs ws ad os:=by
 obtain⟨a0,a1,a2,a3,a4⟩:=sl hm
 simp only at a0 a1 a2 a3 a4
 exact h.HD (by omega) (by omega) (by omega) (by omega) (by omega)
theorem amH (aq ar an ao aA:Option Addr) (c0 av c2 c3 c4:Nat) (rs:List aK) (qs:List aQ) (ag af sp:Int) (ws:List Int) (ad:List aO) (os:List Out) (Z:ei aq ar an ao aA c0 av c2 c3 c4 rs qs ws ad os) (kind mem val yes no bq:Int) (h:gR ⟨rs,qs,ag,af,sp,ws,ad,os⟩) (w:World) (R:dI w aq ar an ao aA rs qs ws ad os):
 Calls Tryz.prog 154 #[.agg #[.slice aq rs c0,.slice ar qs av,ag,af,sp,.slice an ws c2,.slice ao ad c3,.slice aA os c4],.agg #[kind,mem,val,yes,no,bq]] w fun e ah=>∃(df:List aK) (dr:List aQ) (dE dD dw:Int) (bP:List Int) (bS:List aO) (de:List Out) (cy:Option Addr) (e0:Nat) (cv:Option Addr) (e1:Nat) (cU:Option Addr) (e2:Nat) (cV:Option Addr) (e3:Nat) (cA:Option Addr) (e4:Nat) (b:Bool),e= .returned (.tuple #[.agg #[.slice cy df e0,.slice cv dr e1,dE,dD,dw,.slice cU bP e2,.slice cV bS e3,.slice cA de e4],b])∧Hid (gC ⟨rs,qs,ag,af,sp,ws,ad,os⟩ ⟨kind,mem,val,yes,no,bq⟩ =if b= true then some ⟨df,dr,dE,dD,dw,bP,bS,de⟩ else none)∧fP w ah cy e0 cv e1 cU e2 cV e3 cA e4 df dr bP bS de∧Below w w ah:=by
 have H:=amv aq ar an ao aA c0 av c2 c3 c4 rs qs ag af sp ws ad os Z kind mem val yes no bq h w R
 cases hm:gC ⟨rs,qs,ag,af,sp,ws,ad,os⟩ ⟨kind,mem,val,yes,no,bq⟩ with
 | none=>
  exact YL
 | some n=>
  exact abk
theorem vZ (B:Nat) (aq ar an ao aA:Option Addr) (c0 av c2 c3 c4:Nat) (rs:List aK) (qs:List aQ) (ag af sp:Int) (ws:List Int) (ad:List aO) (os:List Out) (cg cj:ByteArray) (cf:Int) (h:gR ⟨rs,qs,ag,af,sp,ws,ad,os⟩) (kind mem val yes no bq:Int) (s:ByteArray) (w:World) (mS:B≤w.heap.size) (bM:fP B w aq c0 ar av an c2 ao c3 aA c4 rs qs ws ad os):
 Calls Tryz.prog 187 #[.agg #[.slice aq rs c0,.slice ar qs av,ag,af,sp,.slice an ws c2,.slice ao ad c3,.slice aA os c4,cg,cj,cf],.agg #[kind,mem,val,yes,no,bq],s] w fun e ah=>Ax B cg cj cf (nc ⟨rs,qs,ag,af,sp,ws,ad,os⟩ ⟨kind,mem,val,yes,no,bq⟩ s) e ah∧Below w w ah:=by
 have dx:=J (EK bM h);have ir:=J h;have dm:=J bM;have R:=bM.rd;clear h bM
 go_in
 go_upto_region 1 with fail
 refine fv fun aG au aR gf U=>?_
 replace R:=R.ae au;have I:=au
 obtain⟨dd,dT,dN,eg,eh,fE,fF,fG,fH,fI,fD⟩:=aR.bX
 have hX:=gf.da;obtain⟨z0,bW,z2,z3,z4,z5,eO,gG,gW,z9,hc⟩:=U.bX;have ee:=J U;have fw:=J aR;have pc:=aR.lt
 have pO:=gf.lt;have rq:=U.lt;clear z0 bW z2 z3 z4 z5 eO gG gW z9 hc U
 go_wp2_with fail
 refine (amH aq ar an ao aA c0 av c2 c3 c4 rs qs ag af sp ws ad os dx.out kind mem val yes no bq ir.out _ R).mono ?_
 rintro e aJ ⟨df,dr,dE,dD,dw,bP,bS,de,cy,e0,cv,e1,cU,e2,cV,e3,cA,e4,b,rfl,wL,ht,aL⟩
 have xw:=aL.size;have jE:=J (ht.base (B':=B) (by have:=I.size;omega));clear ht
 cases b
 ·have ny:nc ⟨rs,qs,ag,af,sp,ws,ad,os⟩ ⟨kind,mem,val,yes,no,bq⟩ s= (⟨rs,qs,ag,af,sp,ws,ad,os⟩,(⟨#[63]⟩ :ByteArray)):=by
   have e:gC ⟨rs,qs,ag,af,sp,ws,ad,os⟩ ⟨kind,mem,val,yes,no,bq⟩ =none:=by simpa using wL.out
   rw [nc,e]
  have uc:=J ny;clear ny
  go_upto_region 2 with fail
  have bx:=aL.alloc aL.size (.cells #[.slice cy df e0,.slice cv dr e1,dE,dD,dw,.slice cU bP e2,.slice cV bS e3,.slice cA de e4] 44)
  generalize aJ.alloc (.cells #[.slice cy df e0,.slice cv dr e1,dE,dD,dw,.slice cU bP e2,.slice cV bS e3,.slice cA de e4] 44)= bB at *
  have hW:=aj I bx;clear dd dT dN eg eh fE fF fG fH fI fD hX;have bF:=(fw.out.ae bx fw.out.lt).bX;have TG:=(fw.out.ae bx fw.out.lt).lt;have cE:=ee.out.ae bx ee.out.lt;have dh:=J cE;have ak:=cE.bX;have ep:=cE.gX;have hp:=cE.lt;clear cE
  go_wp2
  clear ak ep hp bF
  refine hk 0 fun cD aE=>?_
  have bK:=aE.hP dh.out;have fA:=(dm.out.bm hW).gO dh.out aE.fC;have et:=aE.aH hW;clear aE
  have z0:=bK.bX
  refine bodyPost_ret (v:= .tuple #[.agg #[.slice aq rs c0,.slice ar qs av,ag,af,sp,.slice an ws c2,.slice ao ad c3,.slice aA os c4,cg,cj,cf],.string (⟨#[63]⟩ :ByteArray)]) (by simp [results,Tryz.results187,go_sem,z0]) rfl ?_
  exact⟨⟨rs,qs,ag,af,sp,ws,ad,os,aq,c0,ar,av,an,c2,ao,c3,aA,c4,_,rfl,J (uc.out),fA⟩,et⟩
 ·have ny:nc ⟨rs,qs,ag,af,sp,ws,ad,os⟩ ⟨kind,mem,val,yes,no,bq⟩ s= (⟨df,dr,dE,dD,dw,bP,bS,de⟩,s):=by
   have e:gC ⟨rs,qs,ag,af,sp,ws,ad,os⟩ ⟨kind,mem,val,yes,no,bq⟩ =some ⟨df,dr,dE,dD,dw,bP,bS,de⟩:=by simpa using wL.out
   rw [nc,e]
  have uc:=J ny;clear ny
  go_upto_region 4 with fail
  obtain⟨cu,lO⟩ :∃b,b= aJ.heap.size:=⟨_,rfl⟩
  have eH:=aB.new aJ 44 #[.slice cy df e0,.slice cv dr e1,dE,dD,dw,.slice cU bP e2,.slice cV bS e3,.slice cA de e4];have bx:=aL.alloc aL.size (.cells #[.slice cy df e0,.slice cv dr e1,dE,dD,dw,.slice cU bP e2,.slice cV bS e3,.slice cA de e4] 44)
  have DU:Below aJ aJ (aJ.alloc (.cells #[.slice cy df e0,.slice cv dr e1,dE,dD,dw,.slice cU bP e2,.slice cV bS e3,.slice cA de e4] 44)):=bT _ _
  rw [← lO] at eH
  generalize aJ.alloc (.cells #[.slice cy df e0,.slice cv dr e1,dE,dD,dw,.slice cU bP e2,.slice cV bS e3,.slice cA de e4] 44)= bB at *
  rw [← lO]
  clear lO;have hW:=aj I bx;have acj:=J (jE.out.bm DU);clear dd dT dN eg eh fE fF fG fH fI fD hX;have bF:=(fw.out.ae bx fw.out.lt).bX;have TG:=(fw.out.ae bx fw.out.lt).lt;have nB:=eH.aI;have nQ:=eH.lt
  go_upto_region 5 with fail
  obtain⟨Oo,MH⟩ :∃b,b= bB.heap.size:=⟨_,rfl⟩
  have db:=aB.new bB 46 #[.slice aq rs c0,.slice ar qs av,ag,af,sp,.slice an ws c2,.slice ao ad c3,.slice aA os c4,cg,cj,cf];have DX:Below bB bB (bB.alloc (.cells #[.slice aq rs c0,.slice ar qs av,ag,af,sp,.slice an ws c2,.slice ao ad c3,.slice aA os c4,cg,cj,cf] 46)):=bT _ _
  rw [← MH] at db
  generalize bB.alloc (.cells #[.slice aq rs c0,.slice ar qs av,ag,af,sp,.slice an ws c2,.slice ao ad c3,.slice aA os c4,cg,cj,cf] 46)= bU at *
  rw [← MH]
  have Hn:=DX.size
  have aqk:w.heap.size≤Oo:=by have:=hW.size;omega
  have aql:aG.heap.size≤Oo:=by have:=bx.size;omega
  have gS:=aj hW DX;have jl:=aj bx DX;have AT:=eH.to DX;have ack:=J (acj.out.bm DX)
  have aqb:cu≠Oo:=by have:=eH.lt;omega
  clear bF nB TG nQ eH MH;have bO:=J db;have nB:=AT.aI;have fg:=db.bX;have aep:=db.gX;have nQ:=AT.lt;have tA:=db.lt;clear db
  go_upto_region 6 with fail
  clear nB fg aep nQ tA
  refine hR 0 fun vv hH=>?_
  have GY:=hH.VN bO.out;have iu:=ack.out.gO bO.out hH.fC;have kj:=hH.aH jl;have la:=hH.aH gS;have aou:=J GY;have lY:=J iu;have fg:=GY.bX
  have tA:=GY.lt;clear hH GY iu AT;have cE:=ee.out.ae kj ee.out.lt;have dh:=J cE;have ak:=cE.bX;have ep:=cE.gX;have hp:=cE.lt;clear cE
  go_wp2
  clear ak ep hp fg tA
  refine hk 0 fun cD aE=>?_
  have bK:=aE.hP dh.out;have fA:=(lY.out).gO dh.out aE.fC;have et:=aE.aH la;clear aE
  have z0:=bK.bX
  refine bodyPost_ret (v:= .tuple #[.agg #[.slice cy df e0,.slice cv dr e1,dE,dD,dw,.slice cU bP e2,.slice cV bS e3,.slice cA de e4,cg,cj,cf],s]) (by simp [results,Tryz.results187,go_sem,z0]) rfl ?_
  exact⟨⟨df,dr,dE,dD,dw,bP,bS,de,cy,e0,cv,e1,cU,e2,cV,e3,cA,e4,_,rfl,J (uc.out),fA⟩,et⟩
open Go.RowKit Go.G9
def rz (m:cw):Nat→Int→cw×ByteArray
 | 7,n=>nc m ⟨2,n,0,0,0,0⟩ (⟨#[111,107]⟩ :ByteArray)
 | 8,n=>nc m ⟨3,n,0,0,0,0⟩ (⟨#[111,107]⟩ :ByteArray)
 | 9,n=>nc m ⟨5,0,n,0,0,0⟩ (⟨#[111,107]⟩ :ByteArray)
 | 10,n=>nc m ⟨8,n,0,0,0,0⟩ (⟨#[111,107]⟩ :ByteArray)
 | 11,n=>(m,(jG m 11 [n]).getD (⟨#[63]⟩ :ByteArray))
 | 12,n=>(m,(jG m 12 [n]).getD (⟨#[63]⟩ :ByteArray))
 | _,_=>(m,(⟨#[63]⟩ :ByteArray))
theorem Vq (m:cw) (i:Nat) (n:Int) (h7:i≠7) (h8:i≠8) (h9:i≠9) (h10:i≠10) (h11:i≠11) (h12:i≠12):rz m i n= (m,(⟨#[63]⟩ :ByteArray)):=by
 unfold rz
 split <;> first | rfl | (exfalso;omega)
theorem IU {p:Prop} (h:p:=by
 rintro e aJ ⟨⟨df,dr,dE,dD,dw,bP,bS,de,cy,e0,cv,e1,cU,e2,cV,e3,cA,e4,y,rfl,cW,ht⟩,aL⟩
 have jE:=J ht;clear ht;have gJ:=aj I aL;have cE:=ee.out.ae aL ee.out.lt;have dh:=J cE;have ak:=cE.bX;have ep:=cE.gX;clear cE
 go_wp2
 clear ak ep
 refine hk 0 fun cD aE=>?_
 have bK:=aE.hP dh.out;have fA:=(jE.out).gO dh.out aE.fC;have et:=aE.aH gJ;clear aE
 have z0:=bK.bX
 refine bodyPost_ret (v:= .tuple #[.agg #[.slice cy df e0,.slice cv dr e1,dE,dD,dw,.slice cU bP e2,.slice cV bS e3,.slice cA de e4,cg,cj,cf],y]) (by simp [results,Tryz.results114,go_sem,z0]) rfl ?_
 exact⟨⟨df,dr,dE,dD,dw,bP,bS,de,cy,e0,cv,e1,cU,e2,cV,e3,cA,e4,_,rfl,J (cW.out),fA⟩,et⟩):p:=h
theorem Zn {p:Prop} (h:p:=by
 exact⟨⟨rs,qs,ag,af,sp,ws,ad,os,aq,c0,ar,av,an,c2,ao,c3,aA,c4,_,rfl,J (Pq.out),fA⟩,et⟩):p:=h
theorem Zo {p:Prop} (h:p:=by
 exact⟨⟨rs,qs,ag,af,sp,ws,ad,os,aq,c0,ar,av,an,c2,ao,c3,aA,c4,_,rfl,J (abF.out),fA⟩,et⟩):p:=h
theorem Zp {p:Prop} (h:p:=by
 exact⟨⟨rs,qs,ag,af,sp,ws,ad,os,aq,c0,ar,av,an,c2,ao,c3,aA,c4,_,rfl,J (PV.out),fA⟩,et⟩):p:=h
theorem ajj (B:Nat) (aq ar an ao aA:Option Addr) (c0 av c2 c3 c4:Nat) (rs:List aK) (qs:List aQ) (ag af sp:Int) (ws:List Int) (ad:List aO) (os:List Out) (cg cj:ByteArray) (cf:Int) (h:gR ⟨rs,qs,ag,af,sp,ws,ad,os⟩) (s:ByteArray) (n:Int) (w:World) (mS:B≤w.heap.size) (bM:fP B w aq c0 ar av an c2 ao c3 aA c4 rs qs ws ad os):
 Calls Tryz.prog 114 #[.agg #[.slice aq rs c0,.slice ar qs av,ag,af,sp,.slice an ws c2,.slice ao ad c3,.slice aA os c4,cg,cj,cf],s,n] w fun e ah=>Ax B cg cj cf (rz ⟨rs,qs,ag,af,sp,ws,ad,os⟩ (ev s) n) e ah∧Below w w ah:=by
 have cC:=AH s
 generalize ev s= i at *
 obtain⟨-,-,-,-,-,-,-,f7,f8,f9,f10,f11,f12,-,-⟩:=cC
 have nw:gd ag af sp ws ad= true:=h.fV;have Z:=EK bM h;have FO:=J (fun W (h1:aS 1 bV W an ws) (h2:aS 3 aO.cells W ao ad)=>ams ag af sp an c2 ws ao c3 ad Z.h2 Z.h3 Z.cp nw n W h1 h2)
 have qk:-1000000000 < (if ey n then af - (ej ad n).dS else 0)∧(if ey n then af - (ej ad n).dS else 0) < 1000000000:=by
  split
  ·rename_i hm
   have:=Iw nw hm
   omega
  ·omega
 have Pq:Hid (rz ⟨rs,qs,ag,af,sp,ws,ad,os⟩ 11 n= (⟨rs,qs,ag,af,sp,ws,ad,os⟩,if ey n then eN (if ey n then af - (ej ad n).dS else 0) else (⟨#[63]⟩ :ByteArray))):=J (by
  show (_,((if ey n then some (eN (af - (ej ad n).dS)) else none:Option ByteArray).getD (⟨#[63]⟩ :ByteArray)))= _
  cases ey n <;> rfl)
 have lg:=BA.2 h;have agq:=Ni os n os.length;have se:=(sl h).2.2.2.2
 simp only at se
 obtain⟨b,aF⟩ :∃b,ey n= b:=⟨_,rfl⟩
 obtain⟨v1,sf⟩ :∃v,v= if b then (hF os n os.length).1 else 0:=⟨_,rfl⟩
 obtain⟨v2,oB⟩ :∃v,v= if b then (hF os n os.length).2 else 0:=⟨_,rfl⟩
 have Jv:=J (fun W (dj:dI W aq ar an ao aA rs qs ws ad os)=>amJ ⟨rs,qs,ag,af,sp,ws,ad,os⟩ aq ar an ao aA c0 av c2 c3 c4 Z.h0 Z.h1 Z.h2 Z.h3 Z.h4 n (.tuple #[v1,v2,.bool b]) (by rw [uH,lg,aF,sf,oB];cases b <;> rfl) W dj.fx dj.dL dj.r2 dj.hG dj.nV Z.dZ Z.eI Z.cp Z.ef Z.hY)
 have abF:Hid (rz ⟨rs,qs,ag,af,sp,ws,ad,os⟩ 12 n= (⟨rs,qs,ag,af,sp,ws,ad,os⟩,if b then eN v1 ++ (⟨#[32]⟩ :ByteArray) ++ eN v2 else (⟨#[63]⟩ :ByteArray))):=J (by
  show (_,((if ey n then some (nT [(hF os n os.length).1,(hF os n os.length).2]) else none:Option ByteArray).getD (⟨#[63]⟩ :ByteArray)))= _
  rw [aF,sf,oB]
  cases b <;> rfl)
 have sg:(-1000000000 < v1∧v1 < 1000000000)∧-1000000000 < v2∧v2 < 1000000000:=by
  rw [sf,oB]
  cases b
  ·simp
  ·simp only [if_true];omega
 rw [aF] at FO Pq qk
 generalize (if b then af - (ej ad n).dS else 0)= v at *
 have ir:=J h;have dm:=J bM;clear h bM Z lg agq se nw aF sf oB
 go_in
 go_upto_region 1 with fail
 refine fe fun aG au aR U=>?_
 have I:=au
 obtain⟨dd,dT,dN,eg,eh,fE,fF,fG,fH,fI,fD⟩:=aR.bX
 obtain⟨z0,bW,z2,z3,z4,z5,eO,gG,gW,z9,hc⟩:=U.bX;have ee:=J U;have fw:=J aR;have rq:=U.lt
 have uv:B≤aG.heap.size:=by have:=I.size;omega
 have iM:=J (dm.out.bm I);clear z0 bW z2 z3 z4 z5 eO gG gW z9 hc U aR dm
 by_cases h7:i= 7
 ·subst h7
  simp only [Nat.reduceBEq] at f7 f8 f9 f10 f11 f12
  go_wp2_with fail
  refine (vZ B aq ar an ao aA c0 av c2 c3 c4 rs qs ag af sp ws ad os cg cj cf ir.out 2 n 0 0 0 0 (⟨#[111,107]⟩ :ByteArray) _ uv iM.out).mono ?_
  exact IU
 by_cases h8:i= 8
 ·subst h8
  simp only [Nat.reduceBEq] at f7 f8 f9 f10 f11 f12
  go_wp2_with fail
  refine (vZ B aq ar an ao aA c0 av c2 c3 c4 rs qs ag af sp ws ad os cg cj cf ir.out 3 n 0 0 0 0 (⟨#[111,107]⟩ :ByteArray) _ uv iM.out).mono ?_
  exact IU
 by_cases h9:i= 9
 ·subst h9
  simp only [Nat.reduceBEq] at f7 f8 f9 f10 f11 f12
  go_wp2_with fail
  refine (vZ B aq ar an ao aA c0 av c2 c3 c4 rs qs ag af sp ws ad os cg cj cf ir.out 5 0 n 0 0 0 (⟨#[111,107]⟩ :ByteArray) _ uv iM.out).mono ?_
  exact IU
 by_cases h10:i= 10
 ·subst h10
  simp only [Nat.reduceBEq] at f7 f8 f9 f10 f11 f12
  go_wp2_with fail
  refine (vZ B aq ar an ao aA c0 av c2 c3 c4 rs qs ag af sp ws ad os cg cj cf ir.out 8 n 0 0 0 0 (⟨#[111,107]⟩ :ByteArray) _ uv iM.out).mono ?_
  exact IU
 by_cases h11:i= 11
 ·subst h11
  simp only [Nat.reduceBEq] at f7 f8 f9 f10 f11 f12
  go_wp2_with fail
  refine (FO.out _ iM.out.rd.r2 iM.out.rd.hG).mono ?_
  rintro e aJ ⟨rfl,aL⟩
  have gJ:=aj I aL;have hs:=J (iM.out.bm aL)
  cases b
  ·skip
   have cE:=ee.out.ae aL ee.out.lt;have dh:=J cE;have ak:=cE.bX;have ep:=cE.gX;clear cE;have bF:=(fw.out.ae aL fw.out.lt).bX;clear dd dT dN eg eh fE fF fG fH fI fD
   go_wp2
   clear ak ep bF
   refine hk 0 fun cD aE=>?_
   have bK:=aE.hP dh.out;have fA:=(hs.out).gO dh.out aE.fC;have et:=aE.aH gJ;clear aE
   have z0:=bK.bX
   refine bodyPost_ret (v:= .tuple #[.agg #[.slice aq rs c0,.slice ar qs av,ag,af,sp,.slice an ws c2,.slice ao ad c3,.slice aA os c4,cg,cj,cf],.string (⟨#[63]⟩ :ByteArray)]) (by simp [results,Tryz.results114,go_sem,z0]) rfl ?_
   exact Zn
  ·go_upto_region 13 with fail
   have iv:=fw.out.ae aL fw.out.lt
   obtain⟨en,gj⟩ :∃X:World→Prop,∀V,X V↔aB V (w.heap.size) 46 #[.slice aq rs c0,.slice ar qs av,ag,af,sp,.slice an ws c2,.slice ao ad c3,.slice aA os c4,cg,cj,cf]:=⟨_,fun _=>Iff.rfl⟩
   have cO:=J gj;clear gj
   haveI:Nonempty (cH en):=⟨⟨aJ,(cO.out _).2 iv⟩⟩
   refine nh en [([0,1],2),([],3)] [4] (by kernel_rfl) (by kernel_rfl) ((cO.out _).2 iv) ?_
   clear dd dT dN eg eh fE fF fG fH fI fD
   obtain⟨dd,dT,dN,eg,eh,fE,fF,fG,fH,fI,fD⟩:=aB.qf (fun K:cH en=>(cO.out _).1 K.holds)
   have gH:Below w w aJ.drew:=aj gJ (Below.refl _ _).drew;have mU:aB aJ.drew (w.heap.size) 46 #[.slice aq rs c0,.slice ar qs av,ag,af,sp,.slice an ws c2,.slice ao ad c3,.slice aA os c4,cg,cj,cf]:=iv;have ot:=ee.out.ae aL ee.out.lt;have lv:Hid (aB aJ.drew (w.heap.size + 1) 46 #[.slice none 0 0,.slice none 0 0,(0:Int),(0:Int),(0:Int),.slice none 0 0,.slice none 0 0,.slice none 0 0,.string ⟨#[]⟩,.string ⟨#[]⟩,(0:Int)]):=J ot
   have nr:=J (hs.out.bm (Below.refl _ _).drew);clear iv ot
   generalize aJ.drew= wd at *
   refine gr fun fT dv=>?_
   change wpQuiet _ _ _ _ (_ ::_ ::[]) _
   repeat (go_big_quiet_step (fail))
   refine wpQuiet_nil ?_
   change wpList _ _ _ (_ ::[]) _ _
   go_wp2_with fail
   refine (pT v qk.1 qk.2 _).mono ?_
   rintro e bB ⟨rfl,bx⟩
   have hW:=aj gH bx;have gl:=mU.to bx
   go_wp2
   refine gw ((cO.out _).2 gl) (dv _ _ ?_)
   refine gr fun fT dv=>?_
   change wpQuiet _ _ _ _ ([]) _
   refine wpQuiet_nil ?_
   change wpList _ _ _ (_ ::[]) _ _
   have dh:=J (lv.out.ae bx lv.out.lt);have ak:=dh.out.bX;have ep:=dh.out.gX
   go_wp2
   clear ak ep
   refine hk 0 fun cD aE=>?_
   have dR:=aE.dV (gl);have bK:=aE.hP dh.out;have fA:=(nr.out.bm bx).gO dh.out aE.fC;have et:=aE.aH hW;clear aE
   refine gw ((cO.out _).2 dR) (dv _ _ ?_)
   refine kD ?_
   change wpQuiet _ _ _ _ (_ ::[]) _
   repeat (go_big_quiet_step (fail))
   refine wpQuiet_nil ?_
   clear dd dT dN eg eh fE fF fG fH fI fD
   go_wp2
   have z0:=bK.bX
   refine bodyPost_ret (v:= .tuple #[.agg #[.slice aq rs c0,.slice ar qs av,ag,af,sp,.slice an ws c2,.slice ao ad c3,.slice aA os c4,cg,cj,cf],.string (eN v)]) (by simp [results,Tryz.results114,go_sem,z0]) rfl ?_
   exact Zn
 by_cases h12:i= 12
 ·subst h12
  simp only [Nat.reduceBEq] at f7 f8 f9 f10 f11 f12
  go_wp2_with fail
  refine (Jv.out _ iM.out.rd).mono ?_
  rintro e aJ ⟨rfl,aL⟩
  have gJ:=aj I aL;have hs:=J (iM.out.bm aL)
  cases b
  ·skip
   have cE:=ee.out.ae aL ee.out.lt;have dh:=J cE;have ak:=cE.bX;have ep:=cE.gX;clear cE;have bF:=(fw.out.ae aL fw.out.lt).bX;clear dd dT dN eg eh fE fF fG fH fI fD
   go_wp2
   clear ak ep bF
   refine hk 0 fun cD aE=>?_
   have bK:=aE.hP dh.out;have fA:=(hs.out).gO dh.out aE.fC;have et:=aE.aH gJ;clear aE
   have z0:=bK.bX
   refine bodyPost_ret (v:= .tuple #[.agg #[.slice aq rs c0,.slice ar qs av,ag,af,sp,.slice an ws c2,.slice ao ad c3,.slice aA os c4,cg,cj,cf],.string (⟨#[63]⟩ :ByteArray)]) (by simp [results,Tryz.results114,go_sem,z0]) rfl ?_
   exact Zo
  ·have vT:=wm v1 (by omega)
   have xw:=wm v2 (by omega)
   go_upto_region 17 with fail
   have iv:=fw.out.ae aL fw.out.lt
   obtain⟨en,gj⟩ :∃X:World→Prop,∀V,X V↔aB V (w.heap.size) 46 #[.slice aq rs c0,.slice ar qs av,ag,af,sp,.slice an ws c2,.slice ao ad c3,.slice aA os c4,cg,cj,cf]:=⟨_,fun _=>Iff.rfl⟩
   have cO:=J gj;clear gj
   haveI:Nonempty (cH en):=⟨⟨aJ,(cO.out _).2 iv⟩⟩
   refine nh en [([0,1,4],2),([3],5),([6],7)] [8] (by kernel_rfl) (by kernel_rfl) ((cO.out _).2 iv) ?_
   clear dd dT dN eg eh fE fF fG fH fI fD
   obtain⟨dd,dT,dN,eg,eh,fE,fF,fG,fH,fI,fD⟩:=aB.qf (fun K:cH en=>(cO.out _).1 K.holds)
   have gH:Below w w aJ.drew:=aj gJ (Below.refl _ _).drew;have mU:aB aJ.drew (w.heap.size) 46 #[.slice aq rs c0,.slice ar qs av,ag,af,sp,.slice an ws c2,.slice ao ad c3,.slice aA os c4,cg,cj,cf]:=iv;have ot:=ee.out.ae aL ee.out.lt;have lv:Hid (aB aJ.drew (w.heap.size + 1) 46 #[.slice none 0 0,.slice none 0 0,(0:Int),(0:Int),(0:Int),.slice none 0 0,.slice none 0 0,.slice none 0 0,.string ⟨#[]⟩,.string ⟨#[]⟩,(0:Int)]):=J ot
   have nr:=J (hs.out.bm (Below.refl _ _).drew);clear iv ot
   generalize aJ.drew= wd at *
   refine gr fun fT dv=>?_
   change wpQuiet _ _ _ _ (_ ::_ ::_ ::[]) _
   repeat (go_big_quiet_step (fail))
   refine wpQuiet_nil ?_
   change wpList _ _ _ (_ ::[]) _ _
   go_wp2_with fail
   refine (pT v1 sg.1.1 sg.1.2 _).mono ?_
   rintro e bB ⟨rfl,bx⟩
   have hW:=aj gH bx;have gl:=mU.to bx;have Qc:=J (lv.out.ae bx lv.out.lt)
   go_wp2
   refine gw ((cO.out _).2 gl) (dv _ _ ?_)
   refine gr fun fT dv=>?_
   change wpQuiet _ _ _ _ (_ ::[]) _
   repeat (go_big_quiet_step (fail))
   refine wpQuiet_nil ?_
   change wpList _ _ _ (_ ::[]) _ _
   go_wp2_with fail
   refine (pT v2 sg.2.1 sg.2.2 _).mono ?_
   rintro e bU ⟨rfl,cY⟩
   have gS:=aj hW cY;have jl:=gl.to cY
   go_wp2
   refine gw ((cO.out _).2 jl) (dv _ _ ?_)
   refine gr fun fT dv=>?_
   change wpQuiet _ _ _ _ (_ ::[]) _
   repeat (go_big_quiet_step (fail))
   refine wpQuiet_nil ?_
   change wpList _ _ _ (_ ::[]) _ _
   have dh:=J (Qc.out.ae cY Qc.out.lt);have ak:=dh.out.bX;have ep:=dh.out.gX
   go_wp2
   clear ak ep
   refine hk 0 fun cD aE=>?_
   have dR:=aE.dV (jl);have bK:=aE.hP dh.out;have fA:=((nr.out.bm bx).bm cY).gO dh.out aE.fC;have et:=aE.aH gS;clear aE
   refine gw ((cO.out _).2 dR) (dv _ _ ?_)
   refine kD ?_
   change wpQuiet _ _ _ _ (_ ::[]) _
   repeat (go_big_quiet_step (fail))
   refine wpQuiet_nil ?_
   clear dd dT dN eg eh fE fF fG fH fI fD
   go_wp2
   have z0:=bK.bX
   refine bodyPost_ret (v:= .tuple #[.agg #[.slice aq rs c0,.slice ar qs av,ag,af,sp,.slice an ws c2,.slice ao ad c3,.slice aA os c4,cg,cj,cf],.string (eN v1 ++ (⟨#[32]⟩ :ByteArray) ++ eN v2)]) (by simp [results,Tryz.results114,go_sem,z0]) rfl ?_
   exact Zo
 have PV:=J (Vq ⟨rs,qs,ag,af,sp,ws,ad,os⟩ i n h7 h8 h9 h10 h11 h12);have cE:=ee.out.ae (Below.refl _ _) ee.out.lt;have dh:=J cE;have ak:=cE.bX;have ep:=cE.gX;clear cE
 go_wp2
 clear ak ep
 refine hk 0 fun cD aE=>?_
 have bK:=aE.hP dh.out;have fA:=(iM.out).gO dh.out aE.fC;have et:=aE.aH I;clear aE
 have z0:=bK.bX
 refine bodyPost_ret (v:= .tuple #[.agg #[.slice aq rs c0,.slice ar qs av,ag,af,sp,.slice an ws c2,.slice ao ad c3,.slice aA os c4,cg,cj,cf],.string (⟨#[63]⟩ :ByteArray)]) (by simp [results,Tryz.results114,go_sem,z0]) rfl ?_
 exact Zp
open Go.RowKit Go.G9
theorem Fb (s:ByteArray):∃v b,eV s= b∧Go.G9.jA s= .tuple #[.int .i64 v,.bool b]∧(b= true→hh s.data.toList= v):=by
 cases h:eV s
 ·exact⟨0,false,rfl,We h,fun e=>by cases e⟩
 ·exact⟨_,true,rfl,Wf h,fun _=>rfl⟩
theorem Fj (s:ByteArray) (aV:s.size≤1048576) (v:Int) (b:Bool) (h:Go.G9.jA s= .tuple #[v,b]) (w:World):Calls Tryz.prog 113 #[s] w fun e ah=>e= .returned (.tuple #[v,b])∧Below w w ah:=by
 have bC:=J (fun W=>ajb s (by unfold maxLen;omega) W)
 rw [h] at bC
 clear h
 go_in
 go_wp2_with fail
 refine (bC.out _).mono ?_
 rintro e bh ⟨rfl,br⟩
 have au:=be w br;have I:Below w w bh:=au
 go_wp2
 go_ret2
 exact⟨rfl,(aj I az)⟩
def HR (m:cw) (b:Bool) (v:Int):Option aK→cw×ByteArray
 | some r=>if b then nc m ⟨1,v,r.id,0,0,0⟩ (⟨#[111,107]⟩ :ByteArray) else (m,(⟨#[63]⟩ :ByteArray))
 | none=>(m,(⟨#[63]⟩ :ByteArray))
theorem Vg {m:cw} {v:Int} {r:aK}:HR m true v (some r)= nc m ⟨1,v,r.id,0,0,0⟩ (⟨#[111,107]⟩ :ByteArray):=by rw [HR,if_pos rfl]
def BC (m:cw) (x y:ByteArray):cw×ByteArray:=HR m (eV y) (hh y.data.toList) (sX m.cx x)
theorem aap {p:Prop} (h:p:=by
 skip
 go_in
 go_upto_region 1 with fail
 refine fe fun aG au aR U=>?_
 have I:=au
 obtain⟨dd,dT,dN,eg,eh,fE,fF,fG,fH,fI,fD⟩:=aR.bX
 obtain⟨z0,bW,z2,z3,z4,z5,eO,gG,gW,z9,hc⟩:=U.bX;have ee:=J U;have fw:=J aR;have pc:=aR.lt
 have rq:=U.lt;have iM:=J (dm.out.bm I);clear z0 bW z2 z3 z4 z5 eO gG gW z9 hc U aR
 go_wp2_with fail
 refine (Cv.out _).mono ?_
 rintro e aJ ⟨rfl,aL⟩
 have gJ:=aj I aL;have bF:=(fw.out.ae aL fw.out.lt).bX;have tE:=(fw.out.ae aL fw.out.lt).lt;clear dd dT dN eg eh fE fF fG fH fI fD
 go_wp2_with fail
 refine (JD.out _ (iM.out.bm aL).rd.fx).mono ?_
 rintro e bB ⟨rfl,bx⟩
 have hW:=aj gJ bx;have gl:=aj aL bx;clear bF tE
 simp only [wx,Option.isSome_some,Option.isSome_none]
 go_upto_region 3 with fail
 obtain⟨rC,gB⟩ :∃b,b= bB.heap.size:=⟨_,rfl⟩
 have eH:=aB.new bB 89 #[(0:Int),.string ⟨#[]⟩,(0:Int),false,false,false,(0:Int)];have jl:=gl.alloc gl.size (.cells #[(0:Int),.string ⟨#[]⟩,(0:Int),false,false,false,(0:Int)] 89);have gS:=hW.alloc hW.size (.cells #[(0:Int),.string ⟨#[]⟩,(0:Int),false,false,false,(0:Int)] 89)
 rw [← gB] at eH
 generalize bB.alloc (.cells #[(0:Int),.string ⟨#[]⟩,(0:Int),false,false,false,(0:Int)] 89)= bU at *
 rw [← gB]
 clear gB;have bF:=(fw.out.ae jl fw.out.lt).bX;have Ht:=(fw.out.ae jl fw.out.lt).lt;have kp:=J (iM.out.bm jl);have cE:=ee.out.ae jl ee.out.lt;have dh:=J cE;have ak:=cE.bX;have ep:=cE.gX;have hp:=cE.lt;clear cE
 go_wp2
 clear ak ep hp bF
 refine hk 0 fun cD aE=>?_
 have bK:=aE.hP dh.out;have fA:=(kp.out).gO dh.out aE.fC;have et:=aE.aH gS;clear aE
 have z0:=bK.bX
 refine bodyPost_ret (v:= .tuple #[.agg #[.slice aq rs c0,.slice ar qs av,ag,af,sp,.slice an ws c2,.slice ao ad c3,.slice aA os c4,cg,cj,cf],.string (⟨#[63]⟩ :ByteArray)]) (by simp [results,Tryz.results111,go_sem,z0]) rfl ?_
 exact⟨⟨rs,qs,ag,af,sp,ws,ad,os,aq,c0,ar,av,an,c2,ao,c3,aA,c4,_,rfl,J (yj.out),fA⟩,et⟩):p:=h
theorem aji (B:Nat) (aq ar an ao aA:Option Addr) (c0 av c2 c3 c4:Nat) (rs:List aK) (qs:List aQ) (ag af sp:Int) (ws:List Int) (ad:List aO) (os:List Out) (cg cj:ByteArray) (cf:Int) (h:gR ⟨rs,qs,ag,af,sp,ws,ad,os⟩) (x y:ByteArray) (hy:y.size≤1048576) (w:World) (mS:B≤w.heap.size) (bM:fP B w aq c0 ar av an c2 ao c3 aA c4 rs qs ws ad os):
 Calls Tryz.prog 111 #[.agg #[.slice aq rs c0,.slice ar qs av,ag,af,sp,.slice an ws c2,.slice ao ad c3,.slice aA os c4,cg,cj,cf],x,y] w fun e ah=>Ax B cg cj cf (BC ⟨rs,qs,ag,af,sp,ws,ad,os⟩ x y) e ah∧Below w w ah:=by
 obtain⟨v,b,aF,bp,ax⟩:=Fb y
 have Cv:=J (fun W=>Fj y hy v b bp W)
 obtain⟨o,cG⟩ :∃o,sX rs x= o:=⟨_,rfl⟩
 have Z:=EK bM h;have JD:=J (fun W (h1:aS 7 aK.cells W aq rs)=>alY aq c0 rs Z.h0 (mj h.ho).1 x o cG W h1)
 have yj:Hid (BC ⟨rs,qs,ag,af,sp,ws,ad,os⟩ x y= HR ⟨rs,qs,ag,af,sp,ws,ad,os⟩ b v o):=J (by
  rw [BC,aF,show sX (cw.cx ⟨rs,qs,ag,af,sp,ws,ad,os⟩) x= o from cG]
  cases o
  ·rfl
  ·cases b
   ·rfl
   ·rw [ax rfl])
 have ir:=J h;have dm:=J bM;clear h bM Z aF bp ax cG
 cases b
 ·rcases o with - | r
  ·exact aap
  ·skip
   go_in
   go_upto_region 1 with fail
   refine fe fun aG au aR U=>?_
   have I:=au
   obtain⟨dd,dT,dN,eg,eh,fE,fF,fG,fH,fI,fD⟩:=aR.bX
   obtain⟨z0,bW,z2,z3,z4,z5,eO,gG,gW,z9,hc⟩:=U.bX;have ee:=J U;have fw:=J aR;have pc:=aR.lt
   have rq:=U.lt;have iM:=J (dm.out.bm I);clear z0 bW z2 z3 z4 z5 eO gG gW z9 hc U aR
   go_wp2_with fail
   refine (Cv.out _).mono ?_
   rintro e aJ ⟨rfl,aL⟩
   have gJ:=aj I aL;have bF:=(fw.out.ae aL fw.out.lt).bX;have tE:=(fw.out.ae aL fw.out.lt).lt;clear dd dT dN eg eh fE fF fG fH fI fD
   go_wp2_with fail
   refine (JD.out _ (iM.out.bm aL).rd.fx).mono ?_
   rintro e bB ⟨rfl,bx⟩
   have hW:=aj gJ bx;have gl:=aj aL bx;clear bF tE
   simp only [wx,Option.isSome_some,Option.isSome_none]
   go_upto_region 3 with fail
   obtain⟨rC,gB⟩ :∃b,b= bB.heap.size:=⟨_,rfl⟩
   have eH:=aB.new bB 89 #[r.id,r.name,r.gD,r.second,r.kZ,r.lK,r.hx];have jl:=gl.alloc gl.size (.cells #[r.id,r.name,r.gD,r.second,r.kZ,r.lK,r.hx] 89);have gS:=hW.alloc hW.size (.cells #[r.id,r.name,r.gD,r.second,r.kZ,r.lK,r.hx] 89)
   rw [← gB] at eH
   generalize bB.alloc (.cells #[r.id,r.name,r.gD,r.second,r.kZ,r.lK,r.hx] 89)= bU at *
   rw [← gB]
   clear gB;have bF:=(fw.out.ae jl fw.out.lt).bX;have Ht:=(fw.out.ae jl fw.out.lt).lt;have kp:=J (iM.out.bm jl);have cE:=ee.out.ae jl ee.out.lt;have dh:=J cE;have ak:=cE.bX;have ep:=cE.gX;have hp:=cE.lt;clear cE
   go_wp2
   clear ak ep hp bF
   refine hk 0 fun cD aE=>?_
   have bK:=aE.hP dh.out;have fA:=(kp.out).gO dh.out aE.fC;have et:=aE.aH gS;clear aE
   have z0:=bK.bX
   refine bodyPost_ret (v:= .tuple #[.agg #[.slice aq rs c0,.slice ar qs av,ag,af,sp,.slice an ws c2,.slice ao ad c3,.slice aA os c4,cg,cj,cf],.string (⟨#[63]⟩ :ByteArray)]) (by simp [results,Tryz.results111,go_sem,z0]) rfl ?_
   exact⟨⟨rs,qs,ag,af,sp,ws,ad,os,aq,c0,ar,av,an,c2,ao,c3,aA,c4,_,rfl,J (yj.out),fA⟩,et⟩
 ·rcases o with - | r
  ·exact aap
  ·skip
   go_in
   go_upto_region 1 with fail
   refine fe fun aG au aR U=>?_
   have I:=au
   obtain⟨dd,dT,dN,eg,eh,fE,fF,fG,fH,fI,fD⟩:=aR.bX
   obtain⟨z0,bW,z2,z3,z4,z5,eO,gG,gW,z9,hc⟩:=U.bX;have ee:=J U;have fw:=J aR;have pc:=aR.lt
   have rq:=U.lt;have iM:=J (dm.out.bm I);clear z0 bW z2 z3 z4 z5 eO gG gW z9 hc U aR
   go_wp2_with fail
   refine (Cv.out _).mono ?_
   rintro e aJ ⟨rfl,aL⟩
   have gJ:=aj I aL;have bF:=(fw.out.ae aL fw.out.lt).bX;have tE:=(fw.out.ae aL fw.out.lt).lt;clear dd dT dN eg eh fE fF fG fH fI fD
   go_wp2_with fail
   refine (JD.out _ (iM.out.bm aL).rd.fx).mono ?_
   rintro e bB ⟨rfl,bx⟩
   have hW:=aj gJ bx;have gl:=aj aL bx;clear bF tE
   simp only [wx,Option.isSome_some,Option.isSome_none]
   go_upto_region 3 with fail
   obtain⟨rC,gB⟩ :∃b,b= bB.heap.size:=⟨_,rfl⟩
   have eH:=aB.new bB 89 #[r.id,r.name,r.gD,r.second,r.kZ,r.lK,r.hx];have jl:=gl.alloc gl.size (.cells #[r.id,r.name,r.gD,r.second,r.kZ,r.lK,r.hx] 89);have gS:=hW.alloc hW.size (.cells #[r.id,r.name,r.gD,r.second,r.kZ,r.lK,r.hx] 89)
   rw [← gB] at eH
   generalize bB.alloc (.cells #[r.id,r.name,r.gD,r.second,r.kZ,r.lK,r.hx] 89)= bU at *
   rw [← gB]
   clear gB;have bF:=(fw.out.ae jl fw.out.lt).bX;have Ht:=(fw.out.ae jl fw.out.lt).lt;have kp:=J (iM.out.bm jl);have n0:=(eH.cell 0).trans (show _= some (.int .i64 r.id) from rfl);have nQ:=eH.lt
   go_wp2_with fail
   refine (vZ B aq ar an ao aA c0 av c2 c3 c4 rs qs ag af sp ws ad os cg cj cf ir.out 1 v r.id 0 0 0 (⟨#[111,107]⟩ :ByteArray) _ (by have:=gS.size;omega) kp.out).mono ?_
   rintro e dB ⟨⟨df,dr,dE,dD,dw,bP,bS,de,cy,e0,cv,e1,cU,e2,cV,e3,cA,e4,lq,rfl,cW,ht⟩,eD⟩
   have jE:=J ht;clear ht;have kj:=aj jl eD;have la:=aj gS eD;clear bF n0 eH nQ;have cE:=ee.out.ae kj ee.out.lt;have dh:=J cE;have ak:=cE.bX;have ep:=cE.gX;have hp:=cE.lt;clear cE
   go_wp2
   clear ak ep hp
   refine hk 0 fun cD aE=>?_
   have bK:=aE.hP dh.out;have fA:=(jE.out).gO dh.out aE.fC;have et:=aE.aH la;clear aE
   have z0:=bK.bX
   refine bodyPost_ret (v:= .tuple #[.agg #[.slice cy df e0,.slice cv dr e1,dE,dD,dw,.slice cU bP e2,.slice cV bS e3,.slice cA de e4,cg,cj,cf],lq]) (by simp [results,Tryz.results111,go_sem,z0]) rfl ?_
   exact⟨⟨df,dr,dE,dD,dw,bP,bS,de,cy,e0,cv,e1,cU,e2,cV,e3,cA,e4,_,rfl,J (yj.out.trans (Vg.trans cW.out)),fA⟩,et⟩
theorem akY {w:World} {A:Option Addr} {x y z:ByteArray} (h:aS 1 hC w A [x,y,z]):∃b o,A= some ⟨b,o,none⟩∧b < w.heap.size∧w.cell? ⟨b,o,none⟩ =some (.string x)∧w.cell? ⟨b,o + 1,none⟩ =some (.string y)∧w.cell? ⟨b,o + 2,none⟩ =some (.string z):=by
 obtain⟨b,o,e,aF,aH⟩:=h (by simp)
 exact⟨b,o,e,aF,by simpa using aH 0 x rfl 0 _ rfl,by simpa using aH 1 y rfl 0 _ rfl,by simpa using aH 2 z rfl 0 _ rfl⟩
def zX (m:cw) (x y z:ByteArray):cw×ByteArray:=if eV x && (eV y && eV z) then qQ m ⟨7,0,0,hh x.data.toList,hh y.data.toList,hh z.data.toList⟩ else (m,(⟨#[63]⟩ :ByteArray))
theorem Qr {m:cw} {a:nk} (h:gC m a= none):qQ m a= (m,(⟨#[63]⟩ :ByteArray)):=by rw [qQ,h]
theorem acU {m n:cw} {x y z:Int} (h:gC m ⟨7,0,0,x,y,z⟩ =some n):qQ m ⟨7,0,0,x,y,z⟩ =(n,if EG n then (⟨#[97,100,111,112,116,101,100]⟩ :ByteArray) else (⟨#[108,111,115,116]⟩ :ByteArray)):=by
 rw [qQ,h]
 show (n,oI n 7)= _
 rw [oI,if_neg (by decide),if_pos rfl]
theorem OX {p:Prop} (h:p:=by
 skip
 have cE:=ee.out.ae jl ee.out.lt;have dh:=J cE;have ak:=cE.bX;have ep:=cE.gX;have hp:=cE.lt;clear cE
 go_wp2
 clear ak ep hp bF
 refine hk 0 fun cD aE=>?_
 have bK:=aE.hP dh.out;have fA:=(kp.out).gO dh.out aE.fC;have et:=aE.aH gS;clear aE
 have z0:=bK.bX
 refine bodyPost_ret (v:= .tuple #[.agg #[.slice aq rs c0,.slice ar qs av,ag,af,sp,.slice an ws c2,.slice ao ad c3,.slice aA os c4,cg,cj,cf],.string (⟨#[63]⟩ :ByteArray)]) (by simp [results,Tryz.results112,go_sem,z0]) rfl ?_
 exact⟨⟨rs,qs,ag,af,sp,ws,ad,os,aq,c0,ar,av,an,c2,ao,c3,aA,c4,_,rfl,J (JL.out),fA⟩,et⟩):p:=h
theorem Zl {p:Prop} (h:p:=by
 exact⟨⟨df,dr,dE,dD,dw,bP,bS,de,cy,e0,cv,e1,cU,e2,cV,e3,cA,e4,_,rfl,J (PW.out),fA⟩,et⟩):p:=h
theorem YU {p:Prop} (h:p:=by
 exact⟨⟨df,dr,dE,dD,dw,bP,bS,de,cy,e0,cv,e1,cU,e2,cV,e3,some ⟨ki,off,none⟩,e4,_,rfl,J (Pn.out),fA⟩,et⟩):p:=h
theorem ajl (B:Nat) (aq ar an ao aA:Option Addr) (c0 av c2 c3 c4:Nat) (rs:List aK) (qs:List aQ) (ag af sp:Int) (ws:List Int) (ad:List aO) (os:List Out) (cg cj:ByteArray) (cf:Int) (h:gR ⟨rs,qs,ag,af,sp,ws,ad,os⟩) (A:Option Addr) (sW:Nat) (x y z:ByteArray) (aw:x.size≤1048576) (hy:y.size≤1048576) (ck:z.size≤1048576) (w:World) (mS:B≤w.heap.size) (bM:fP B w aq c0 ar av an c2 ao c3 aA c4 rs qs ws ad os) (CR:aS 1 hC w A [x,y,z]):
 Calls Tryz.prog 112 #[.agg #[.slice aq rs c0,.slice ar qs av,ag,af,sp,.slice an ws c2,.slice ao ad c3,.slice aA os c4,cg,cj,cf],.slice A 3 sW] w fun e ah=>Ax B cg cj cf (zX ⟨rs,qs,ag,af,sp,ws,ad,os⟩ x y z) e ah∧Below w w ah:=by
 obtain⟨v1,dF,br,uE,sf⟩:=Fb x
 obtain⟨v2,dJ,aL,za,oB⟩:=Fb y
 obtain⟨v3,fa,bx,Mt,Tz⟩:=Fb z
 have Ct:=J (fun W=>Fj x aw v1 dF uE W);have Cu:=J (fun W=>Fj y hy v2 dJ za W);have acr:=J (fun W=>Fj z ck v3 fa Mt W)
 have JL:Hid (zX ⟨rs,qs,ag,af,sp,ws,ad,os⟩ x y z= if dF && (dJ && fa) then qQ ⟨rs,qs,ag,af,sp,ws,ad,os⟩ ⟨7,0,0,v1,v2,v3⟩ else (⟨rs,qs,ag,af,sp,ws,ad,os⟩,(⟨#[63]⟩ :ByteArray))):=J (by
  rw [zX,br,aL,bx]
  cases dF
  ·rfl
  cases dJ
  ·rfl
  cases fa
  ·rfl
  rw [sf rfl,oB rfl,Tz rfl])
 obtain⟨kJ,uJ,rfl,DR,g0,g1,g2⟩:=akY CR
 have kF:=J (And.intro g0 (And.intro g1 g2));have rJ:=J DR;have ir:=J h;have dm:=J bM;clear h bM br aL bx uE za Mt sf oB Tz g0 g1 g2 DR CR
 go_in
 go_upto_region 1 with fail
 refine fe fun aG au aR U=>?_
 have I:=au
 obtain⟨dd,dT,dN,eg,eh,fE,fF,fG,fH,fI,fD⟩:=aR.bX
 obtain⟨z0,bW,z2,z3,z4,z5,eO,gG,gW,z9,hc⟩:=U.bX;have ee:=J U;have fw:=J aR;have pc:=aR.lt
 have rq:=U.lt;have iM:=J (dm.out.bm I);clear z0 bW z2 z3 z4 z5 eO gG gW z9 hc U aR dd dT dN eg eh fE fF fG fH fI fD;have g0:=(I.cell (p:=⟨kJ,_,none⟩) rJ.out).trans kF.out.1;have nR:kJ < aG.heap.size:=Nat.lt_of_lt_of_le rJ.out I.size
 go_wp2_with fail
 refine (Ct.out _).mono ?_
 rintro e aJ ⟨rfl,aL⟩
 have gJ:=aj I aL;clear g0 nR;have g1:=(gJ.cell (p:=⟨kJ,_,none⟩) rJ.out).trans kF.out.2.1;have nR:kJ < aJ.heap.size:=Nat.lt_of_lt_of_le rJ.out gJ.size
 go_wp2_with fail
 refine (Cu.out _).mono ?_
 rintro e bB ⟨rfl,bx⟩
 have hW:=aj gJ bx;have gl:=aj aL bx;clear g1 nR;have g2:=(hW.cell (p:=⟨kJ,_,none⟩) rJ.out).trans kF.out.2.2;have nR:kJ < bB.heap.size:=Nat.lt_of_lt_of_le rJ.out hW.size
 go_wp2_with fail
 refine (acr.out _).mono ?_
 rintro e bU ⟨rfl,cY⟩
 have gS:=aj hW cY;have jl:=aj gl cY;clear g2 nR;have bF:=(fw.out.ae jl fw.out.lt).bX;have Ht:=(fw.out.ae jl fw.out.lt).lt;have kp:=J (iM.out.bm jl)
 go_upto_region 4 with fail
 cases dF
 ·exact OX
 cases dJ
 ·exact OX
 cases fa
 ·exact OX
 go_wp2_with fail
 refine (vZ B aq ar an ao aA c0 av c2 c3 c4 rs qs ag af sp ws ad os cg cj cf ir.out 7 0 0 v1 v2 v3 (⟨#[108,111,115,116]⟩ :ByteArray) _ (by have:=gS.size;omega) kp.out).mono ?_
 rintro e dB ⟨⟨df,dr,dE,dD,dw,bP,bS,de,cy,e0,cv,e1,cU,e2,cV,e3,cA,e4,lq,rfl,cW,ht⟩,eD⟩
 have jE:=J ht;clear ht;have kj:=aj jl eD;have la:=aj gS eD;clear bF Ht
 go_upto_region 7 with fail
 obtain⟨cu,lO⟩ :∃b,b= dB.heap.size:=⟨_,rfl⟩
 have eH:=aB.new dB 46 #[.slice cy df e0,.slice cv dr e1,dE,dD,dw,.slice cU bP e2,.slice cV bS e3,.slice cA de e4,cg,cj,cf];have rX:=kj.alloc kj.size (.cells #[.slice cy df e0,.slice cv dr e1,dE,dD,dw,.slice cU bP e2,.slice cV bS e3,.slice cA de e4,cg,cj,cf] 46)
 have AQ:=la.alloc la.size (.cells #[.slice cy df e0,.slice cv dr e1,dE,dD,dw,.slice cU bP e2,.slice cV bS e3,.slice cA de e4,cg,cj,cf] 46);have sN:=jE.out.bm (bT dB (.cells #[.slice cy df e0,.slice cv dr e1,dE,dD,dw,.slice cU bP e2,.slice cV bS e3,.slice cA de e4,cg,cj,cf] 46))
 rw [← lO] at eH
 generalize dB.alloc (.cells #[.slice cy df e0,.slice cv dr e1,dE,dD,dw,.slice cU bP e2,.slice cV bS e3,.slice cA de e4,cg,cj,cf] 46)= ju at *
 rw [← lO]
 clear lO;have nB:=eH.bX;have nQ:=eH.lt;have Ah:=J sN;clear jE eH
 cases hm:gC ⟨rs,qs,ag,af,sp,ws,ad,os⟩ ⟨7,0,0,v1,v2,v3⟩ with
 | none=>
  have e:=cW.out
  rw [nc,hm] at e
  have PW:Hid (zX ⟨rs,qs,ag,af,sp,ws,ad,os⟩ x y z= (⟨df,dr,dE,dD,dw,bP,bS,de⟩,(⟨#[63]⟩ :ByteArray))):=J (JL.out.trans ((Qr hm).trans (by injection e with e1 e2;rw [e1])))
  obtain rfl:(⟨#[63]⟩ :ByteArray)= lq:=(Prod.mk.inj e).2
  clear e hm sN
  have bj:((⟨#[63]⟩ :ByteArray).toList == [108,111,115,116])= false:=by decide +kernel
  have cE:=ee.out.ae rX ee.out.lt;have dh:=J cE;have ak:=cE.bX;have ep:=cE.gX;have hp:=cE.lt;clear cE
  go_wp2
  clear ak ep hp nB nQ bj
  refine hk 0 fun cD aE=>?_
  have bK:=aE.hP dh.out;have fA:=(Ah.out).gO dh.out aE.fC;have et:=aE.aH AQ;clear aE
  have z0:=bK.bX
  refine bodyPost_ret (v:= .tuple #[.agg #[.slice cy df e0,.slice cv dr e1,dE,dD,dw,.slice cU bP e2,.slice cV bS e3,.slice cA de e4,cg,cj,cf],.string (⟨#[63]⟩ :ByteArray)]) (by simp [results,Tryz.results112,go_sem,z0]) rfl ?_
  exact Zl
 | some k=>
  have e:=cW.out
  rw [nc,hm] at e
  obtain rfl:(⟨#[108,111,115,116]⟩ :ByteArray)= lq:=(Prod.mk.inj e).2
  have aD:=(Prod.mk.inj e).1
  rw [aD] at hm
  have uD:0 < de.length:=Va hm rfl
  have se:de.length≤1048576:=by have:=(sl (HQ ir.out hm)).2.2.2.2;simp only at this;omega
  have Pn:=J (JL.out.trans (acU hm))
  obtain⟨j,bE⟩ :∃j,j + 1= de.length:=⟨de.length - 1,by omega⟩
  obtain⟨ki,off,o,rfl,ew,cG,Sy⟩:=sN.rd.nV.at_ (Below.refl _ _) (k:=j) (by omega)
  have vQ:EG ⟨df,dr,dE,dD,dw,bP,bS,de⟩ =o.hB:=by simp only [EG,← bE,Nat.add_sub_cancel,cG]
  have u2:=Sy 2 _ rfl (ay.self _)
  simp only [ay.self] at u2
  obtain⟨so,km⟩ :∃b,o.hB= b:=⟨_,rfl⟩
  rw [km] at u2 vQ
  rw [vQ] at Pn
  have Bg:((de.length:Int) - 1)= (j:Int):=by omega
  have ic:j < de.length:=by omega
  have bj:((⟨#[108,111,115,116]⟩ :ByteArray).toList == [108,111,115,116])= true:=by decide +kernel
  clear e hm sN aD uD bE cG Sy vQ km
  cases so
  ·skip
   have cE:=ee.out.ae rX ee.out.lt;have dh:=J cE;have ak:=cE.bX;have ep:=cE.gX;have hp:=cE.lt;clear cE
   go_wp2
   clear ak ep hp nB nQ bj u2 Bg ic se
   refine hk 0 fun cD aE=>?_
   have bK:=aE.hP dh.out;have fA:=(Ah.out).gO dh.out aE.fC;have et:=aE.aH AQ;clear aE
   have z0:=bK.bX
   refine bodyPost_ret (v:= .tuple #[.agg #[.slice cy df e0,.slice cv dr e1,dE,dD,dw,.slice cU bP e2,.slice cV bS e3,.slice (some ⟨ki,off,none⟩) de e4,cg,cj,cf],.string (⟨#[108,111,115,116]⟩ :ByteArray)]) (by simp [results,Tryz.results112,go_sem,z0]) rfl ?_
   exact YU
  ·skip
   have cE:=ee.out.ae rX ee.out.lt;have dh:=J cE;have ak:=cE.bX;have ep:=cE.gX;have hp:=cE.lt;clear cE
   go_wp2
   clear ak ep hp nB nQ bj u2 Bg ic se
   refine hk 0 fun cD aE=>?_
   have bK:=aE.hP dh.out;have fA:=(Ah.out).gO dh.out aE.fC;have et:=aE.aH AQ;clear aE
   have z0:=bK.bX
   refine bodyPost_ret (v:= .tuple #[.agg #[.slice cy df e0,.slice cv dr e1,dE,dD,dw,.slice cU bP e2,.slice cV bS e3,.slice (some ⟨ki,off,none⟩) de e4,cg,cj,cf],.string (⟨#[97,100,111,112,116,101,100]⟩ :ByteArray)]) (by simp [results,Tryz.results112,go_sem,z0]) rfl ?_
   exact YU
end Go.Proofs.YtlaaemmmbodaaaaGreatDoor
