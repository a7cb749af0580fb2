/- Parts. -/
import Derived.Test.YtlaaemmmbodaaaaGreatDoorEx6
set_option maxHeartbeats 16000000
set_option maxRecDepth 100000
set_option linter.unnecessarySimpa false
set_option linter.unusedSimpArgs false
set_option linter.unusedVariables false
namespace Go.Proofs.YtlaaemmmbodaaaaGreatDoor
open Go.RowKit Go.G9
theorem adl {p:Prop} (h:p:=by
 clear aO
 go_in
 go_wp2_with fail
 refine (ox an c0 rs h0 ar c1 qs h1 _ eg.out _ (aU.below av) (aT.below av)).mono ?_
 rintro e bd ⟨rfl,bz⟩
 have au:=be w bz;have I:Below w w bd:=au
 go_wp2
 go_ret2
 exact⟨some ⟨_,0,none⟩,0,rfl,aV.made _ (by have:=I.size;first | omega | (simp;omega)) _,(ah I av)⟩):p:=h
theorem acM {p:Prop} (h:p:=by
 clear aO hm
 go_in
 go_wp2_with fail
 refine (ox an c0 rs h0 ar c1 qs h1 _ eg.out _ (aU.below av) (aT.below av)).mono ?_
 rintro e bd ⟨rfl,bz⟩
 have au:=be w bz;have I:Below w w bd:=au
 go_wp2_with fail
 refine (iG mem _ dR.out _).mono ?_
 rintro e w0 ⟨rfl,h0⟩
 rw [h0]
 clear h0 w0
 go_wp2
 go_ret2
 exact⟨some ⟨_,0,none⟩,0,rfl,aV.made _ (by have:=I.size;first | omega | (simp;omega)) _,(ah I av)⟩):p:=h
theorem KV {p:Prop} (h:p:=by
 go_wp2
 go_ret2
 exact⟨some ⟨_,0,none⟩,0,rfl,aV.made _ (by have:=I.size;first | omega | (simp;omega)) _,(ah I av)⟩):p:=h
theorem Zf (an:Option Addr) (c0:Nat) (rs:List aJ) (h0:rs.length≤1048576) (ar:Option Addr) (c1:Nat) (qs:List aL) (h1:qs.length≤1048576) (aR:ar= none→qs= []∧c1= 0) (id mem:Int) (w:World) (aU:aH 7 aJ.cells w an rs) (aT:aH 3 aL.cells w ar qs):Calls Tryz.prog 230 #[.slice an rs c0,.slice ar qs c1,id,mem] w fun e ag=>∃A c,e= .returned (.tuple #[.slice A (jb (jO rs qs id mem)).length c,.bool (jO rs qs id mem).isSome])∧aV w 115 3 aL.cells ag (.slice A (jb (jO rs qs id mem)).length c) (jb (jO rs qs id mem))∧Below w w ag:=by
 obtain⟨i0,hi,dy,dC,dN⟩:=info_parts sH
 have uf:=J aR;clear aR
 cases aO:dD rs qs
 ·have eg:=J aO
  rw [XP aO]
  exact adl
 cases hm:eG mem
 ·have eg:=J aO;have dR:=J hm
  rw [XQ hm]
  exact acM
 have jE:(hz rs qs).length≤1048576:=Nat.le_trans (XA rs qs) h0
 cases aX:hasB (hz rs qs) id
 ·have eg:=J aO;have dR:=J hm;have eA:=J aX
  rw [XR aX]
  clear aO hm aX
  go_in
  go_wp2_with fail
  refine (ox an c0 rs h0 ar c1 qs h1 _ eg.out _ (aU.below av) (aT.below av)).mono ?_
  rintro e bd ⟨rfl,bz⟩
  have au:=be w bz;have I:Below w w bd:=au;replace aU:=aU.below au;replace aT:=aT.below au
  go_wp2_with fail
  refine (iG mem _ dR.out _).mono ?_
  rintro e w0 ⟨rfl,h0⟩
  rw [h0]
  clear h0 w0
  go_wp2_with fail
  refine (Ph an c0 rs h0 ar c1 qs h1 eg.out _ (aU.below av) (aT.below av)).mono ?_
  rintro e aM ⟨py,c5,rfl,iw,aN⟩
  have ao:=be bd aN;replace I:=ah I ao;have yG:=iw.dE (hf:=fZ);clear iw
  go_wp2_with fail
  refine (zr py c5 (hz rs qs) id jE _ eA.out _ (yG.below av)).mono ?_
  rintro e bB ⟨rfl,bG⟩
  have aK:=be aM bG;replace I:=ah I aK
  exact KV
 ·have eg:=J aO;have dR:=J hm;have eA:=J aX
  rw [XS aO hm aX]
  clear aO hm aX
  go_in
  go_wp2_with fail
  refine (ox an c0 rs h0 ar c1 qs h1 _ eg.out _ (aU.below av) (aT.below av)).mono ?_
  rintro e bd ⟨rfl,bz⟩
  have au:=be w bz;have I:Below w w bd:=au;replace aU:=aU.below au;replace aT:=aT.below au
  go_wp2_with fail
  refine (iG mem _ dR.out _).mono ?_
  rintro e w0 ⟨rfl,h0⟩
  rw [h0]
  clear h0 w0
  go_wp2_with fail
  refine (Ph an c0 rs h0 ar c1 qs h1 eg.out _ (aU.below av) (aT.below av)).mono ?_
  rintro e aM ⟨py,c5,rfl,iw,aN⟩
  have ao:=be bd aN;replace I:=ah I ao;replace aT:=aT.below ao;have yG:=iw.dE (hf:=fZ);clear iw
  go_wp2_with fail
  refine (zr py c5 (hz rs qs) id jE _ eA.out _ (yG.below av)).mono ?_
  exact aay
theorem Qg {T:Type}:∀{xs:List T} {j:Nat} {x:T},xs[j]? =some x→xs.set j x= xs
 | [],j,x,h=>by simp at h
 | y ::xs,0,x,h=>by simp at h;subst h;rfl
 | y ::xs,j + 1,x,h=>by simp at h;rw [List.set_cons_succ,Qg h]
theorem Zg (an:Option Addr) (c0:Nat) (rs:List aJ) (h0:rs.length≤1048576) (ar:Option Addr) (c1:Nat) (qs:List aL) (h1:qs.length≤1048576) (aR:ar= none→qs= []∧c1= 0) (mem:Int) (w:World) (aU:aH 7 aJ.cells w an rs) (aT:aH 3 aL.cells w ar qs):Calls Tryz.prog 231 #[.slice an rs c0,.slice ar qs c1,mem] w fun e ag=>∃A c,e= .returned (.tuple #[.slice A (jb (jX rs qs mem)).length c,.bool (jX rs qs mem).isSome])∧aV w 115 3 aL.cells ag (.slice A (jb (jX rs qs mem)).length c) (jb (jX rs qs mem))∧Below w w ag:=by
 obtain⟨i0,hi,dy,dC,dN⟩:=info_parts sH
 have uf:=J aR;clear aR
 cases aO:dD rs qs
 ·have eg:=J aO
  rw [Kw (by simp [mb,aO])]
  exact adl
 cases hm:eG mem
 ·have eg:=J aO;have dR:=J hm
  rw [Zn hm]
  exact acM
 by_cases iA:qs.length= 0
 ·have eg:=J aO;have dR:=J hm
  rw [Kw (by rw [mb,JU iA,Bool.and_false])]
  obtain rfl:=List.length_eq_zero_iff.1 iA
  clear aO hm iA
  go_in
  go_wp2_with fail
  refine (ox an c0 rs h0 ar c1 [] h1 _ eg.out _ (aU.below av) (aT.below av)).mono ?_
  rintro e bd ⟨rfl,bz⟩
  have au:=be w bz;have I:Below w w bd:=au
  go_wp2_with fail
  refine (iG mem _ dR.out _).mono ?_
  rintro e w0 ⟨rfl,h0⟩
  rw [h0]
  clear h0 w0
  exact KV
 obtain⟨j,bH⟩ :∃j,qs.length= j + 1:=⟨qs.length - 1,by omega⟩
 obtain⟨gJ,gL,⟨qr,cg,dw⟩,rfl,_,aZ,_⟩:=aT.at_ (Below.refl _ _) (k:=j) (by omega)
 obtain⟨t,cE⟩:=oA aO aZ
 have eH:=J bH;have cV:=J aZ;have bX:=J cE;have dR:=J hm
 have ie:j≤1048576:=by omega
 have tz:((j:Int) + 1 == 0)= false:=beq_eq_false_iff_ne.2 (by omega);have cX:=J (fun W h du=>ox an c0 rs h0 (some ⟨gJ,gL,none⟩) c1 qs h1 _ aO W h du)
 cases az:kt t ⟨qr,cg,dw⟩
 case false=>
  have fV:=J az
  rw [Kw (by rw [mb,xR bH aZ cE,az,Bool.and_false])]
  rw [bH] at cX ⊢
  clear az hm bH aZ cE aO iA h1
  go_in
  go_wp2_with fail
  refine (cX.out _ (aU.below av) (aT.below av)).mono ?_
  rintro e bd ⟨rfl,bz⟩
  have au:=be w bz;have I:Below w w bd:=au;replace aU:=aU.below au;replace aT:=aT.below au
  go_wp2_with fail
  refine (iG mem _ dR.out _).mono ?_
  rintro e w0 ⟨rfl,h0⟩
  rw [h0]
  clear h0 w0
  obtain⟨_,_,y,e9,fS,hy,db⟩:=aT.at_ (Below.refl _ _) (k:=j) (by have:=eH.out;omega)
  cases e9
  obtain rfl:(⟨qr,cg,dw⟩ :aL)= y:=Option.some.inj (cV.out.symm.trans hy)
  clear hy;have cu:=db 0 _ rfl;have dI:=db 1 _ rfl;have dj:=db 2 _ rfl
  simp only [Nat.add_zero] at cu
  have g0:=cu (ax.self _);have g1:=dI (ax.self _);have g2:=dj (ax.self _)
  simp only [ax.self] at g0
  simp only [ax.self] at g1
  simp only [ax.self] at g2
  clear db cu dI dj
  go_wp2_with fail
  refine (pK an c0 rs h0 ⟨qr,cg,dw⟩ t bX.out false fV.out _ (aU.below av)).mono ?_
  rintro e aM ⟨rfl,aN⟩
  have ao:=be bd aN;replace I:=ah I ao
  exact KV
 cases aX:cg == mem
 case true=>
  have fV:=J az
  rw [Zo ((JV bH aZ).trans aX)]
  rw [bH] at cX ⊢
  clear az hm bH aZ cE aO iA h1
  go_in
  go_wp2_with fail
  refine (cX.out _ (aU.below av) (aT.below av)).mono ?_
  rintro e bd ⟨rfl,bz⟩
  have au:=be w bz;have I:Below w w bd:=au;replace aU:=aU.below au;replace aT:=aT.below au
  go_wp2_with fail
  refine (iG mem _ dR.out _).mono ?_
  rintro e w0 ⟨rfl,h0⟩
  rw [h0]
  clear h0 w0
  obtain⟨_,_,y,e9,fS,hy,db⟩:=aT.at_ (Below.refl _ _) (k:=j) (by have:=eH.out;omega)
  cases e9
  obtain rfl:(⟨qr,cg,dw⟩ :aL)= y:=Option.some.inj (cV.out.symm.trans hy)
  clear hy;have cu:=db 0 _ rfl;have dI:=db 1 _ rfl;have dj:=db 2 _ rfl
  simp only [Nat.add_zero] at cu
  have g0:=cu (ax.self _);have g1:=dI (ax.self _);have g2:=dj (ax.self _)
  simp only [ax.self] at g0
  simp only [ax.self] at g1
  simp only [ax.self] at g2
  clear db cu dI dj;clear g0 g1 g2
  obtain⟨_,_,y,e9,fS,hy,db⟩:=aT.at_ (Below.refl _ _) (k:=j) (by have:=eH.out;omega)
  cases e9
  obtain rfl:(⟨qr,cg,dw⟩ :aL)= y:=Option.some.inj (cV.out.symm.trans hy)
  clear hy;have cu:=db 0 _ rfl;have dI:=db 1 _ rfl;have dj:=db 2 _ rfl
  simp only [Nat.add_zero] at cu
  have g0:=cu (ax.self _);have g1:=dI (ax.self _);have g2:=dj (ax.self _)
  simp only [ax.self] at g0
  simp only [ax.self] at g1
  simp only [ax.self] at g2
  clear db cu dI dj
  go_wp2_with fail
  refine (pK an c0 rs h0 ⟨qr,cg,dw⟩ t bX.out true fV.out _ (aU.below av)).mono ?_
  rintro e aM ⟨rfl,aN⟩
  have ao:=be bd aN;replace I:=ah I ao;replace aT:=aT.below ao;clear g0 g1 g2
  obtain⟨_,_,y,e9,fS,hy,db⟩:=aT.at_ (Below.refl _ _) (k:=j) (by have:=eH.out;omega)
  cases e9
  obtain rfl:(⟨qr,cg,dw⟩ :aL)= y:=Option.some.inj (cV.out.symm.trans hy)
  clear hy;have cu:=db 0 _ rfl;have dI:=db 1 _ rfl;have dj:=db 2 _ rfl
  simp only [Nat.add_zero] at cu
  have g0:=cu (ax.self _);have g1:=dI (ax.self _);have g2:=dj (ax.self _)
  simp only [ax.self] at g0
  simp only [ax.self] at g1
  simp only [ax.self] at g2
  clear db cu dI dj
  exact KV
 case false=>
  have fV:=J az
  rw [Zp (show mb rs qs= true by rw [mb,aO,xR bH aZ cE,az];rfl) hm ((JV bH aZ).trans aX),Zq bH aZ]
  have xE:(qs.set j ⟨qr,cg,true⟩).length= j + 1:=by rw [List.length_set,bH]
  have En:=J xE
  rw [bH] at cX ⊢
  clear az hm bH aZ cE aO iA h1 xE
  go_in
  go_wp2_with fail
  refine (cX.out _ (aU.below av) (aT.below av)).mono ?_
  rintro e bd ⟨rfl,bz⟩
  have au:=be w bz;have I:Below w w bd:=au;replace aU:=aU.below au;replace aT:=aT.below au
  go_wp2_with fail
  refine (iG mem _ dR.out _).mono ?_
  rintro e w0 ⟨rfl,h0⟩
  rw [h0]
  clear h0 w0
  obtain⟨_,_,y,e9,fS,hy,db⟩:=aT.at_ (Below.refl _ _) (k:=j) (by have:=eH.out;omega)
  cases e9
  obtain rfl:(⟨qr,cg,dw⟩ :aL)= y:=Option.some.inj (cV.out.symm.trans hy)
  clear hy;have cu:=db 0 _ rfl;have dI:=db 1 _ rfl;have dj:=db 2 _ rfl
  simp only [Nat.add_zero] at cu
  have g0:=cu (ax.self _);have g1:=dI (ax.self _);have g2:=dj (ax.self _)
  simp only [ax.self] at g0
  simp only [ax.self] at g1
  simp only [ax.self] at g2
  clear db cu dI dj
  go_wp2_with fail
  refine (pK an c0 rs h0 ⟨qr,cg,dw⟩ t bX.out true fV.out _ (aU.below av)).mono ?_
  rintro e aM ⟨rfl,aN⟩
  have ao:=be bd aN;replace I:=ah I ao;replace aT:=aT.below ao;clear g0 g1 g2
  obtain⟨_,_,y,e9,fS,hy,db⟩:=aT.at_ (Below.refl _ _) (k:=j) (by have:=eH.out;omega)
  cases e9
  obtain rfl:(⟨qr,cg,dw⟩ :aL)= y:=Option.some.inj (cV.out.symm.trans hy)
  clear hy;have cu:=db 0 _ rfl;have dI:=db 1 _ rfl;have dj:=db 2 _ rfl
  simp only [Nat.add_zero] at cu
  have g0:=cu (ax.self _);have g1:=dI (ax.self _);have g2:=dj (ax.self _)
  simp only [ax.self] at g0
  simp only [ax.self] at g1
  simp only [ax.self] at g2
  clear db cu dI dj;have gm:=J (fun e u=>(aT.below (bZ aM (.cells #[] e))):∀(e:TypeId) (u:Unit),aH 3 aL.cells (aM.alloc (.cells #[] e)) (some ⟨gJ,gL,none⟩) qs);have tP:=I.size
  go_upto_region 5 with ((at_builtin;refine vx rfl _ _ 37 rfl aM.heap.size 115 i0 _ 3 24 Tryz.underlying37 hi dy dC dN rfl (by decide) aL.cells jP tL aM.heap.size rfl (aq.new _ _ _) (Nat.le_refl _) (some ⟨gJ,gL,none⟩) c1 qs (j + 1) eH.out.symm rfl (gm.out _ ()) (fun h=>by cases h) (by have:=eH.out;unfold maxLen;omega) (by have:=eH.out;omega) ?_;intro bo cM nt fB eW))
  have oo:Below aM aM nt:=ah (bZ _ _) eW;have pB:aV w 115 3 aL.cells nt (.slice bo qs cM) qs:=fB.base (by omega)
  rw [eH.out] at pB
  have qW:=(pB.lt bo rfl).1;have CH:=(pB.lt bo rfl).2;replace I:=ah I oo;clear fB eW oo g0 g1 g2 gm;have dY:=rV pB jP cV.out (i:=0) (u:= .int .i64 qr) rfl;have eB:=rV pB jP cV.out (i:=1) (u:= .int .i64 cg) rfl;have cp:=rV pB jP cV.out (i:=2) (u:= .bool dw) rfl
  simp only [Nat.add_zero] at dY
  go_upto_region 6 with fail
  clear dY eB cp
  refine cR fun ru aK eh=>?_
  replace pB:=pB.later aK;replace I:=ah I aK;have fy:=eh.cC;have ahy:=eh.frozen 2
  have XV:∀k,(Value.slice bo (j + 1) cM).ownBlock= some k→¬k= nt.heap.size:=fun k az e=>by have h9:bo= k:=Option.some.inj az;omega
  go_upto_region 7 with fail
  clear fy
  refine kN 2 fun mo eN=>?_
  replace I:=eN.aE I;replace eh:=eN.PI eh;replace pB:=pB.bW eN XV;have fy:=eh.cC;clear XV ahy;have z0:=Bg pB jP (j:=j) (i:=0) (by have:=eH.out;omega) (by decide);have bw:=Bg pB jP (j:=j) (i:=1) (by have:=eH.out;omega) (by decide);have z2:=Bg pB jP (j:=j) (i:=2) (by have:=eH.out;omega) (by decide)
  have dY:=rV pB jP cV.out (i:=0) (u:= .int .i64 qr) rfl;have eB:=rV pB jP cV.out (i:=1) (u:= .int .i64 cg) rfl;have cp:=rV pB jP cV.out (i:=2) (u:= .bool dw) rfl
  simp only [Nat.add_zero] at z0 dY
  have s1:=Bh pB jP (y:=⟨qr,cg,dw⟩) (u:= .int .i64 qr) (i:=0) cV.out (by decide) rfl
  rw [Qg cV.out] at s1
  have s2:=Bh s1 jP (y:=⟨qr,cg,dw⟩) (u:= .int .i64 cg) (i:=1) cV.out (by decide) rfl
  rw [Qg cV.out] at s2
  have pT:=Bh s2 jP (y:=⟨qr,cg,true⟩) (u:= .bool true) (i:=2) cV.out (by decide) rfl
  simp only [Nat.add_zero] at pT
  have rE:Below w w (((mo.setCell ⟨bo,j * 3,none⟩ (.int .i64 qr)).setCell ⟨bo,j * 3 + 1,none⟩ (.int .i64 cg)).setCell ⟨bo,j * 3 + 2,none⟩ (.bool true)):=((I.setCell (by exact qW) _).setCell (by exact qW) _).setCell (by exact qW) _;have LL:=J pT;have adW:=J rE;clear s1 s2 pT rE
  go_wp2
  go_ret2
  refine⟨some ⟨bo,0,none⟩,cM,by simp only [jb,Option.getD_some,En.out];rfl,?_,adW.out⟩
  simp only [jb,Option.getD_some]
  rw [En.out]
  exact LL.out
open Go.RowKit Go.G9
theorem agl {rs:List aJ} {qs:List aL} (h:rC rs qs= none):dD rs qs= false∨qs.length= 0∨jN rs qs= true:=by
 by_cases h0:qs.length= 0
 ·exact .inr (.inl h0)
 ·have aZ:qs[qs.length - 1]? =some qs[qs.length - 1]:=List.getElem?_eq_getElem (by omega)
  unfold rC at h
  rw [aZ] at h
  dsimp only at h
  split at h
  ·cases h
  ·rename_i aE
   cases aO:dD rs qs with
   | false=>exact .inl rfl
   | true=>
    refine .inr (.inr ?_)
    cases aS:jN rs qs with
    | true=>rfl
    | false=>exact absurd (by rw [aO,aS];rfl) aE
theorem TL {rs:List aJ} {qs ps:List aL} {q:aL} (h:rC rs qs= some (ps,q)):∃j,qs.length= j + 1∧qs[j]? =some q∧ps= qs.take j∧dD rs qs= true∧jN rs qs= false:=by
 obtain⟨_,h2,j,h3,h4,h5⟩:=TK h
 refine⟨j,h3,h4,h5,h2,?_⟩
 unfold rC at h
 rw [show qs.length - 1= j by omega,h4] at h
 dsimp only at h
 split at h
 ·rename_i aE
  simp only [Bool.and_eq_true,Bool.not_eq_true'] at aE
  exact aE.2
 ·cases h
def MF (j:Nat) (ap:Nat) (xs:List aL):lC (Option Addr×Nat) where
 par:=fun n=>if n= ap then [0] else []
 val:=fun n p=>if n= ap then .slice p.1 j p.2 else match n with
  | 0=> .slice p.1 0 0
  | _=>undef
 post:=fun n bp p cW V=>if n= ap then∃g bo,(bp 0).1= some ⟨g,0,none⟩∧p.1= some ⟨bo,0,none⟩∧aV g 115 3 aL.cells V (.slice p.1 xs.length p.2) xs else match n with
  | 0=>p.1= some ⟨cW.heap.size,0,none⟩∧aq V cW.heap.size 115 #[]
  | _=>True
theorem adn {p:Prop} (h:p:=by
 rintro e aM ⟨rfl,aN⟩
 have ao:=be aF aN;replace I:=ah I ao;replace ad:=ad.to ao;clear al;have al:=ad.cC;have ep:=ad.og
 go_wp2
 clear al
 refine sT 0 fun cS aC=>?_
 replace I:=aC.aE I;replace ad:=aC.vS ad;have al:=ad.cC
 exact hg ⟨rfl,I⟩ (by simp [results,Tryz.results303,go_sem,al])):p:=h
theorem ace {p:Prop} (h:p:=by
 rcases agl aY with h | h | h
 ·rw [aO] at h;cases h
 ·exact absurd h iA
 ·exact h):p:=h
theorem akF (an:Option Addr) (c0:Nat) (rs:List aJ) (h0:rs.length≤1048576) (ga:rs.length≤c0) (ar:Option Addr) (c1:Nat) (qs:List aL) (h1:qs.length≤1048576) (hT:qs.length≤c1) (aY:rC rs qs= none) (w:World) (aU:aH 7 aJ.cells w an rs) (aT:aH 3 aL.cells w ar qs):Calls Tryz.prog 303 #[.slice an rs c0,.slice ar qs c1] w fun e ag=>e= .returned (.tuple #[.slice none 0 0,.agg #[(0:Int),(0:Int),false],false])∧Below w w ag:=by
 have ff:=J aU;have gm:=J aT;clear aU aT
 cases aO:dD rs qs
 ·have eg:=J aO
  clear aO aY
  go_in
  go_upto_region 1 with fail
  refine cR fun aF au ad=>?_
  have I:=au;have al:=ad.cC
  go_wp2_with fail
  refine (nA an c0 rs h0 ga ar c1 qs h1 _ eg.out _ (ff.out.below (ah I av)) (gm.out.below (ah I av))).mono ?_
  exact adn
 by_cases iA:qs.length= 0
 ·obtain rfl:=List.length_eq_zero_iff.1 iA
  have eg:=J aO;clear aO aY iA
  go_in
  go_upto_region 1 with fail
  refine cR fun aF au ad=>?_
  have I:=au;have al:=ad.cC
  go_wp2_with fail
  refine (nA an c0 rs h0 ga ar c1 [] h1 _ eg.out _ (ff.out.below (ah I av)) (gm.out.below (ah I av))).mono ?_
  exact adn
 have aS:jN rs qs= true:=by
  exact ace
 obtain⟨j,⟨qr,cg,dw⟩,bH,aZ⟩:=He aS
 obtain⟨gJ,gL,_,rfl,_,_,_⟩:=gm.out.at_ (Below.refl _ _) (k:=j) (by omega)
 have Lw:Hid (mb rs qs= true):=J (by rw [mb,aO,aS];rfl);have eP:((j:Int) + 1 == 0)= false:=beq_eq_false_iff_ne.2 (by omega);have cX:=J (fun W h du=>nA an c0 rs h0 ga (some ⟨gJ,gL,none⟩) c1 qs h1 _ aO W h du);have cB:=J (fun W h du=>AZ an c0 rs h0 ga (some ⟨gJ,gL,none⟩) c1 qs h1 _ Lw.out W h du)
 rw [bH] at cX cB ⊢
 clear aO aY aS aZ bH iA h1 hT
 go_in
 go_upto_region 1 with fail
 refine cR fun aF au ad=>?_
 have I:=au;have al:=ad.cC
 go_wp2_with fail
 refine (cX.out _ (ff.out.below (ah I av)) (gm.out.below (ah I av))).mono ?_
 rintro e aM ⟨rfl,aN⟩
 have ao:=be aF aN;replace I:=ah I ao;replace ad:=ad.to ao;clear al;have al:=ad.cC
 go_wp2_with fail
 refine (cB.out _ (ff.out.below (ah I av)) (gm.out.below (ah I av))).mono ?_
 rintro e bB ⟨rfl,bG⟩
 have aK:=be aM bG;replace I:=ah I aK;replace ad:=ad.to aK;clear al;have al:=ad.cC;have ep:=ad.og
 go_wp2
 clear al
 refine sT 0 fun cS aC=>?_
 replace I:=aC.aE I;replace ad:=aC.vS ad;have al:=ad.cC
 exact hg ⟨rfl,I⟩ (by simp [results,Tryz.results303,go_sem,al])
theorem adI {p:Prop} (h:p:=by
 change wpList _ _ _ (_ ::[]) _ _
 go_wp2
 first | exact ia ⟨(some ⟨k.world.heap.size,0,none⟩,0),rfl,bZ _ _,rfl,aq.new _ _ _⟩ | exact ia ⟨some ⟨k.world.heap.size,0,none⟩,0,rfl,bZ _ _,rfl,aq.new _ _ _⟩):p:=h
theorem acr {p:Prop} (h:p:=by
 change wpList _ _ _ (_ ::[]) _ _
 obtain⟨gO,uw,qS,⟨mK,mL⟩,mM⟩:=fQ 0 (by simp [MF])
 have mN:=mL.to mM;have jW:(bp 0).1= some ⟨gO.heap.size,0,none⟩:=mK;have qD:=J (qA.out.below ((iO.out _).1 k.holds));have qC:=J mN;clear mN mL mK qS mM fQ
 rw [jW]
 have mj:=J jW;clear jW
 go_wp2_with ((at_builtin;refine vx rfl _ _ 37 rfl gO.heap.size 115 i0 _ 3 24 Tryz.underlying37 hi dy dC dN rfl (by decide) aL.cells jP tL gO.heap.size rfl qC.out (Nat.le_refl _) (some ⟨gJ,gL,none⟩) c1 (qs.take j) j nb.out.symm rfl qD.out (fun h=>by cases h) (by have:=nb.out;unfold maxLen;omega) (by have:=nb.out;omega) ?_;intro bo cM ag fB eW))
 first | exact ia ⟨(some ⟨bo,0,none⟩,cM),rfl,eW,gO.heap.size,bo,mj.out,rfl,fB⟩ | exact ia ⟨some ⟨bo,0,none⟩,cM,rfl,eW,gO.heap.size,bo,mj.out,rfl,fB⟩):p:=h
theorem OY (an:Option Addr) (c0:Nat) (rs:List aJ) (h0:rs.length≤1048576) (ga:rs.length≤c0) (ar:Option Addr) (c1:Nat) (qs:List aL) (h1:qs.length≤1048576) (hT:qs.length≤c1) (j:Nat) (bH:qs.length= j + 1) (qr cg:Int) (dw:Bool) (aZ:qs[j]? =some ⟨qr,cg,dw⟩) (aO:dD rs qs= true) (aS:jN rs qs= false) (w:World) (aU:aH 7 aJ.cells w an rs) (aT:aH 3 aL.cells w ar qs):Calls Tryz.prog 303 #[.slice an rs c0,.slice ar qs c1] w fun e ag=>
  ∃g c,e= .returned (.tuple #[.slice (some ⟨g,0,none⟩) (qs.take j).length c,.agg #[qr,cg,dw],true])∧aV w 115 3 aL.cells ag (.slice (some ⟨g,0,none⟩) (qs.take j).length c) (qs.take j)∧Below w w ag:=by
 obtain⟨i0,hi,dy,dC,dN⟩:=info_parts sH
 have ff:=J aU;have gm:=J aT;clear aU aT
 obtain⟨t,cE⟩:=oA aO aZ
 obtain⟨gJ,gL,_,rfl,_,_,_⟩:=gm.out.at_ (Below.refl _ _) (k:=j) (by omega)
 have az:kt t ⟨qr,cg,dw⟩ =false:=(xR bH aZ cE).symm.trans aS;have eH:=J bH;have cV:=J aZ;have Lw:Hid (mb rs qs= false):=J (by rw [mb,aO,aS];rfl)
 have ie:j≤1048576:=by omega
 have NY:j≤c1:=by omega
 have eP:((j:Int) + 1 == 0)= false:=beq_eq_false_iff_ne.2 (by omega)
 have bl:(qs.take j).length= j:=by rw [List.length_take];omega
 have nb:=J bl;have qA:=J (DH gm.out j)
 rw [bl]
 have cX:=J (fun W h du=>nA an c0 rs h0 ga (some ⟨gJ,gL,none⟩) c1 qs h1 _ aO W h du);have cB:=J (fun W h du=>AZ an c0 rs h0 ga (some ⟨gJ,gL,none⟩) c1 qs h1 _ Lw.out W h du)
 rw [bH] at cX cB ⊢
 clear aO aS az cE aZ bH h1 hT bl
 go_in
 go_upto_region 1 with fail
 refine cR fun aF au ad=>?_
 have I:=au;have al:=ad.cC
 go_wp2_with fail
 refine (cX.out _ (ff.out.below (ah I av)) (gm.out.below (ah I av))).mono ?_
 rintro e aM ⟨rfl,aN⟩
 have ao:=be aF aN;replace I:=ah I ao;replace ad:=ad.to ao;clear al;have al:=ad.cC
 go_wp2_with fail
 refine (cB.out _ (ff.out.below (ah I av)) (gm.out.below (ah I av))).mono ?_
 rintro e bB ⟨rfl,bG⟩
 have aK:=be aM bG;replace I:=ah I aK;replace ad:=ad.to aK;clear al;have al:=ad.cC
 go_upto_region 4 with fail
 have tP:=I.size;have JG:=ad.lt
 obtain⟨pz,yV⟩ :∃X:World→Prop,∀V,X V↔(Below w w V):=⟨_,fun _=>Iff.rfl⟩
 have iO:=J yV;clear yV
 haveI:Nonempty (cN pz):=⟨⟨bB,((iO.out _).2 (I))⟩⟩
 clear al
 obtain⟨_,_,y,e9,fS,hy,db⟩:=gm.out.at_ (Below.refl _ _) (k:=j) (by have:=eH.out;omega)
 cases e9
 obtain rfl:(⟨qr,cg,dw⟩ :aL)= y:=Option.some.inj (cV.out.symm.trans hy)
 clear hy;have qi:=db;have cu:=qi 0 _ rfl;have dI:=qi 1 _ rfl;have dj:=qi 2 _ rfl
 simp only [Nat.add_zero] at cu
 have g0:=fun K:cN pz=>cu ⟨K.world,((iO.out _).1 K.holds)⟩
 have g1:=fun K:cN pz=>dI ⟨K.world,((iO.out _).1 K.holds)⟩
 have g2:=fun K:cN pz=>dj ⟨K.world,((iO.out _).1 K.holds)⟩
 clear db qi cu dI dj
 refine BC (MF j 4 (qs.take j)) pz [([],0),([1,2,3],4)] [5,6,7,8] [([9],10)] [11] (by kernel_rfl) (by kernel_rfl) ((iO.out _).2 (I.drew)) (fun W eE h k=>((iO.out _).2 (((iO.out _).1 h).trans (k.mono ((iO.out _).1 h).size)))) ?_
 intro bp
 refine iL (some 26) rfl (.slice (bp 0).1 0 0) rfl fun hd eT=>?_
 change wpQuiet _ _ _ _ ([]) _
 refine wpQuiet_nil ?_
 refine⟨fun k fQ=>?_,eT _ ?_⟩
 ·exact adI
 simp only [Act.put]
 go_simp
 refine iL (some 30) rfl (.slice (bp 4).1 j (bp 4).2) rfl fun hd eT=>?_
 change wpQuiet _ _ _ _ (_ ::_ ::_ ::[]) _
 repeat (go_big_quiet_step (fail))
 refine wpQuiet_nil ?_
 refine⟨fun k fQ=>?_,eT _ ?_⟩
 ·exact acr
 simp only [Act.put]
 go_simp
 refine tW ?_
 change wpQuiet _ _ _ _ (_ ::_ ::_ ::_ ::[]) _
 repeat (go_big_quiet_step (fail))
 refine wpQuiet_nil ?_
 intro cW V W aW bI
 clear g0 g1 g2
 obtain⟨g,bo,e0,e4,DE⟩ :∃g bo,(bp 0).1= some ⟨g,0,none⟩∧(bp 4).1= some ⟨bo,0,none⟩∧aV g 115 3 aL.cells (V 4) (.slice (bp 4).1 (qs.take j).length (bp 4).2) (qs.take j):=aW.post 4 (by simp)
 obtain⟨a0,_⟩ :(bp 0).1= some ⟨(cW 0).heap.size,0,none⟩∧aq (V 0) (cW 0).heap.size 115 #[]:=aW.post 0 (by simp)
 have iU:(cW 0).heap.size= g:=by rw [a0] at e0;exact congrArg Addr.block (Option.some.inj e0)
 have cm:=(DE.later (aW.later 4 (by simp))).base (B':=bB.heap.size) (by rw [← iU];exact (aW.nC 0 (by simp)).size);have cx:Below bB bB W:=ah av (aW.whole 4 (by simp)).rr;replace I:=ah I cx;replace ad:=ad.to cx;have al:=ad.cC;clear aW DE a0 e0 iU bI
 generalize bp 4= pO at *
 obtain⟨D,d⟩:=pO
 simp only at cm e4
 subst e4
 rw [nb.out] at cm
 refine ha fun gz dZ=>?_
 change wpQuiet _ _ _ _ (_ ::[]) _
 repeat (go_big_quiet_step (fail))
 refine wpQuiet_nil ?_
 change wpList _ _ _ (_ ::[]) _ _
 have ep:=ad.og
 have ih:∀k,(Value.slice (some ⟨bo,0,none⟩) j d).ownBlock= some k→¬k= w.heap.size:=fun k az e=>by have:=(cm.lt k az).1;omega
 go_wp2
 clear al
 refine sT 0 fun cS aC=>?_
 replace I:=aC.aE I;replace ad:=aC.vS ad;replace cm:=cm.bW aC ih;have al:=ad.cC
 refine hn ((iO.out _).2 I) (dZ _ _ ?_)
 refine mA ?_
 change wpQuiet _ _ _ _ (_ ::[]) _
 repeat (go_big_quiet_step (fail))
 refine wpQuiet_nil ?_
 go_wp2
 refine bodyPost_ret (v:= .tuple #[.slice (some ⟨bo,0,none⟩) j d,.agg #[qr,cg,dw],true]) (by simp [results,Tryz.results303,go_sem,al]) rfl ?_
 exact⟨bo,d,rfl,cm.base (by omega),I⟩
theorem abQ {p:Prop} (h:p:=by
 rintro e aM ⟨rfl,aN⟩
 have ao:=be aF aN;replace I:=ah I ao;replace ad:=ad.to ao;clear z0 bw z2
 obtain⟨z0,bw,z2⟩:=ad.cC
 have ep:=ad.og;have sd:=ad.lt;have rA:=J I;have jl:=J ad;have ahK:=(ad.alloc (.cells #[] 115)).frozen 0
 go_wp2
 have cD:=(((jl.out.gH 0 (.int .i64 0)).gH 1 (.int .i64 0)).gH 2 (.bool false)).alloc (.cells #[] 115);obtain⟨QI,QJ,QK⟩:=cD.cC;have lW:Below w w (((aM.setCell ⟨w.heap.size,0,none⟩ (.int .i64 0)).setCell ⟨w.heap.size,1,none⟩ (.int .i64 0)).setCell ⟨w.heap.size,2,none⟩ (.bool false)):=((rA.out.setCell (Nat.le_refl w.heap.size) _).setCell (Nat.le_refl w.heap.size) _).setCell (Nat.le_refl w.heap.size) _
 refine bodyPost_ret (v:= .tuple #[.slice aM.heap.size 0 0,.agg #[(0:Int),(0:Int),false],false]) (by simp [results,Tryz.results286,go_sem,QI,QJ,QK]) rfl ?_
 exact⟨_,_,rfl,lW.alloc lW.size _⟩):p:=h
theorem apq (an:Option Addr) (c0:Nat) (rs:List aJ) (h0:rs.length≤1048576) (ga:rs.length≤c0) (ar:Option Addr) (c1:Nat) (qs:List aL) (h1:qs.length≤1048576) (hT:qs.length≤c1) (aY:rC rs qs= none) (w:World) (aU:aH 7 aJ.cells w an rs) (aT:aH 3 aL.cells w ar qs):Calls Tryz.prog 286 #[.slice an rs c0,.slice ar qs c1] w fun e ag=>∃A c,e= .returned (.tuple #[.slice A 0 c,.agg #[(0:Int),(0:Int),false],false])∧Below w w ag:=by
 have ff:=J aU;have gm:=J aT;clear aU aT
 cases aO:dD rs qs
 ·have eg:=J aO
  clear aO aY
  go_in
  go_upto_region 1 with fail
  refine cR fun aF au ad=>?_
  have I:=au
  obtain⟨z0,bw,z2⟩:=ad.cC
  go_wp2_with fail
  refine (ox an c0 rs h0 ar c1 qs h1 _ eg.out _ (ff.out.below (ah I av)) (gm.out.below (ah I av))).mono ?_
  exact abQ
 by_cases iA:qs.length= 0
 ·obtain rfl:=List.length_eq_zero_iff.1 iA
  have eg:=J aO;clear aO aY iA
  go_in
  go_upto_region 1 with fail
  refine cR fun aF au ad=>?_
  have I:=au
  obtain⟨z0,bw,z2⟩:=ad.cC
  go_wp2_with fail
  refine (ox an c0 rs h0 ar c1 [] h1 _ eg.out _ (ff.out.below (ah I av)) (gm.out.below (ah I av))).mono ?_
  exact abQ
 have aS:jN rs qs= true:=by
  exact ace
 obtain⟨j,⟨qr,cg,dw⟩,bH,aZ⟩:=He aS
 obtain⟨t,cE⟩:=oA aO aZ
 obtain⟨gJ,gL,_,rfl,_,_,_⟩:=gm.out.at_ (Below.refl _ _) (k:=j) (by omega)
 have az:kt t ⟨qr,cg,dw⟩ =true:=(xR bH aZ cE).symm.trans aS;have eH:=J bH;have cV:=J aZ;have bX:=J cE;have fV:=J az
 have ie:j≤1048576:=by omega
 have eP:((j:Int) + 1 == 0)= false:=beq_eq_false_iff_ne.2 (by omega);have cX:=J (fun W h du=>ox an c0 rs h0 (some ⟨gJ,gL,none⟩) c1 qs h1 _ aO W h du)
 rw [bH] at cX ⊢
 clear aO aY aS az cE aZ bH iA h1 hT
 go_in
 go_upto_region 1 with fail
 refine cR fun aF au ad=>?_
 have I:=au
 obtain⟨z0,bw,z2⟩:=ad.cC
 go_wp2_with fail
 refine (cX.out _ (ff.out.below (ah I av)) (gm.out.below (ah I av))).mono ?_
 rintro e aM ⟨rfl,aN⟩
 have ao:=be aF aN;replace I:=ah I ao;replace ad:=ad.to ao;clear z0 bw z2
 obtain⟨z0,bw,z2⟩:=ad.cC
 obtain⟨_,_,y,e9,fS,hy,db⟩:=gm.out.at_ I (k:=j) (by have:=eH.out;omega)
 cases e9
 obtain rfl:(⟨qr,cg,dw⟩ :aL)= y:=Option.some.inj (cV.out.symm.trans hy)
 clear hy;have cu:=db 0 _ rfl;have dI:=db 1 _ rfl;have dj:=db 2 _ rfl
 simp only [Nat.add_zero] at cu
 have g0:=cu (ax.self _);have g1:=dI (ax.self _);have g2:=dj (ax.self _)
 simp only [ax.self] at g0
 simp only [ax.self] at g1
 simp only [ax.self] at g2
 clear db cu dI dj
 go_wp2_with fail
 refine (pK an c0 rs h0 ⟨qr,cg,dw⟩ t bX.out true fV.out _ (ff.out.below (ah I av))).mono ?_
 rintro e bB ⟨rfl,bG⟩
 have aK:=be aM bG;replace I:=ah I aK;replace ad:=ad.to aK;clear z0 bw z2
 obtain⟨z0,bw,z2⟩:=ad.cC
 clear g0 g1 g2;have ep:=ad.og;have sd:=ad.lt;have rA:=J I;have jl:=J ad;have ahK:=(ad.alloc (.cells #[] 115)).frozen 0
 go_wp2
 have cD:=(((jl.out.gH 0 (.int .i64 0)).gH 1 (.int .i64 0)).gH 2 (.bool false)).alloc (.cells #[] 115);obtain⟨QI,QJ,QK⟩:=cD.cC;have lW:Below w w (((bB.setCell ⟨w.heap.size,0,none⟩ (.int .i64 0)).setCell ⟨w.heap.size,1,none⟩ (.int .i64 0)).setCell ⟨w.heap.size,2,none⟩ (.bool false)):=((rA.out.setCell (Nat.le_refl w.heap.size) _).setCell (Nat.le_refl w.heap.size) _).setCell (Nat.le_refl w.heap.size) _
 refine bodyPost_ret (v:= .tuple #[.slice bB.heap.size 0 0,.agg #[(0:Int),(0:Int),false],false]) (by simp [results,Tryz.results286,go_sem,QI,QJ,QK]) rfl ?_
 exact⟨_,_,rfl,lW.alloc lW.size _⟩
theorem Kv (an:Option Addr) (c0:Nat) (rs:List aJ) (h0:rs.length≤1048576) (ga:rs.length≤c0) (ar:Option Addr) (c1:Nat) (qs:List aL) (h1:qs.length≤1048576) (hT:qs.length≤c1) (j:Nat) (bH:qs.length= j + 1) (qr cg:Int) (dw:Bool) (aZ:qs[j]? =some ⟨qr,cg,dw⟩) (aO:dD rs qs= true) (aS:jN rs qs= false) (w:World) (aU:aH 7 aJ.cells w an rs) (aT:aH 3 aL.cells w ar qs):Calls Tryz.prog 286 #[.slice an rs c0,.slice ar qs c1] w fun e ag=>
  ∃g c,e= .returned (.tuple #[.slice (some ⟨g,0,none⟩) (qs.take j).length c,.agg #[qr,cg,dw],true])∧aV w 115 3 aL.cells ag (.slice (some ⟨g,0,none⟩) (qs.take j).length c) (qs.take j)∧Below w w ag:=by
 obtain⟨i0,hi,dy,dC,dN⟩:=info_parts sH
 have ff:=J aU;have gm:=J aT;clear aU aT
 obtain⟨t,cE⟩:=oA aO aZ
 obtain⟨gJ,gL,_,rfl,_,_,_⟩:=gm.out.at_ (Below.refl _ _) (k:=j) (by omega)
 have az:kt t ⟨qr,cg,dw⟩ =false:=(xR bH aZ cE).symm.trans aS;have eH:=J bH;have cV:=J aZ;have bX:=J cE;have fV:=J az
 have ie:j≤1048576:=by omega
 have NY:j≤c1:=by omega
 have eP:((j:Int) + 1 == 0)= false:=beq_eq_false_iff_ne.2 (by omega)
 have bl:(qs.take j).length= j:=by rw [List.length_take];omega
 have nb:=J bl;have qA:=J (DH gm.out j)
 rw [bl]
 have cX:=J (fun W h du=>ox an c0 rs h0 (some ⟨gJ,gL,none⟩) c1 qs h1 _ aO W h du)
 rw [bH] at cX ⊢
 clear aO aS az cE aZ bH h1 hT bl
 go_in
 go_upto_region 1 with fail
 refine cR fun aF au ad=>?_
 have I:=au;have al:=ad.cC
 go_wp2_with fail
 refine (cX.out _ (ff.out.below (ah I av)) (gm.out.below (ah I av))).mono ?_
 rintro e aM ⟨rfl,aN⟩
 have ao:=be aF aN;replace I:=ah I ao;replace ad:=ad.to ao;clear al;have al:=ad.cC
 obtain⟨_,_,y,e9,fS,hy,db⟩:=gm.out.at_ I (k:=j) (by have:=eH.out;omega)
 cases e9
 obtain rfl:(⟨qr,cg,dw⟩ :aL)= y:=Option.some.inj (cV.out.symm.trans hy)
 clear hy;have cu:=db 0 _ rfl;have dI:=db 1 _ rfl;have dj:=db 2 _ rfl
 simp only [Nat.add_zero] at cu
 have g0:=cu (ax.self _);have g1:=dI (ax.self _);have g2:=dj (ax.self _)
 simp only [ax.self] at g0
 simp only [ax.self] at g1
 simp only [ax.self] at g2
 clear db cu dI dj
 go_wp2_with fail
 refine (pK an c0 rs h0 ⟨qr,cg,dw⟩ t bX.out false fV.out _ (ff.out.below (ah I av))).mono ?_
 rintro e bB ⟨rfl,bG⟩
 have aK:=be aM bG;replace I:=ah I aK;replace ad:=ad.to aK;clear al;have al:=ad.cC;clear g0 g1 g2
 go_upto_region 4 with fail
 have tP:=I.size;have JG:=ad.lt
 obtain⟨pz,yV⟩ :∃X:World→Prop,∀V,X V↔(Below w w V):=⟨_,fun _=>Iff.rfl⟩
 have iO:=J yV;clear yV
 haveI:Nonempty (cN pz):=⟨⟨bB,((iO.out _).2 (I))⟩⟩
 clear al
 obtain⟨_,_,y,e9,fS,hy,db⟩:=gm.out.at_ (Below.refl _ _) (k:=j) (by have:=eH.out;omega)
 cases e9
 obtain rfl:(⟨qr,cg,dw⟩ :aL)= y:=Option.some.inj (cV.out.symm.trans hy)
 clear hy;have qi:=db;have cu:=qi 0 _ rfl;have dI:=qi 1 _ rfl;have dj:=qi 2 _ rfl
 simp only [Nat.add_zero] at cu
 have g0:=fun K:cN pz=>cu ⟨K.world,((iO.out _).1 K.holds)⟩
 have g1:=fun K:cN pz=>dI ⟨K.world,((iO.out _).1 K.holds)⟩
 have g2:=fun K:cN pz=>dj ⟨K.world,((iO.out _).1 K.holds)⟩
 clear db qi cu dI dj
 refine BC (MF j 5 (qs.take j)) pz [([],0),([1,2,3,4],5)] [6,7,8,9,10] [([11],12)] [13] (by kernel_rfl) (by kernel_rfl) ((iO.out _).2 (I.drew)) (fun W eE h k=>((iO.out _).2 (((iO.out _).1 h).trans (k.mono ((iO.out _).1 h).size)))) ?_
 intro bp
 refine iL (some 29) rfl (.slice (bp 0).1 0 0) rfl fun hd eT=>?_
 change wpQuiet _ _ _ _ ([]) _
 refine wpQuiet_nil ?_
 refine⟨fun k fQ=>?_,eT _ ?_⟩
 ·exact adI
 simp only [Act.put]
 go_simp
 refine iL (some 34) rfl (.slice (bp 5).1 j (bp 5).2) rfl fun hd eT=>?_
 change wpQuiet _ _ _ _ (_ ::_ ::_ ::_ ::[]) _
 repeat (go_big_quiet_step (fail))
 refine wpQuiet_nil ?_
 refine⟨fun k fQ=>?_,eT _ ?_⟩
 ·exact acr
 simp only [Act.put]
 go_simp
 refine tW ?_
 change wpQuiet _ _ _ _ (_ ::_ ::_ ::_ ::_ ::[]) _
 repeat (go_big_quiet_step (fail))
 refine wpQuiet_nil ?_
 intro cW V W aW bI
 clear g0 g1 g2
 obtain⟨g,bo,e0,e4,DE⟩ :∃g bo,(bp 0).1= some ⟨g,0,none⟩∧(bp 5).1= some ⟨bo,0,none⟩∧aV g 115 3 aL.cells (V 5) (.slice (bp 5).1 (qs.take j).length (bp 5).2) (qs.take j):=aW.post 5 (by simp)
 obtain⟨a0,_⟩ :(bp 0).1= some ⟨(cW 0).heap.size,0,none⟩∧aq (V 0) (cW 0).heap.size 115 #[]:=aW.post 0 (by simp)
 have iU:(cW 0).heap.size= g:=by rw [a0] at e0;exact congrArg Addr.block (Option.some.inj e0)
 have cm:=(DE.later (aW.later 5 (by simp))).base (B':=bB.heap.size) (by rw [← iU];exact (aW.nC 0 (by simp)).size);have cx:Below bB bB W:=ah av (aW.whole 5 (by simp)).rr;replace I:=ah I cx;replace ad:=ad.to cx;have al:=ad.cC;clear aW DE a0 e0 iU bI
 generalize bp 5= pO at *
 obtain⟨D,d⟩:=pO
 simp only at cm e4
 subst e4
 rw [nb.out] at cm
 refine ha fun gz dZ=>?_
 change wpQuiet _ _ _ _ (_ ::[]) _
 repeat (go_big_quiet_step (fail))
 refine wpQuiet_nil ?_
 change wpList _ _ _ (_ ::[]) _ _
 have ep:=ad.og
 have ih:∀k,(Value.slice (some ⟨bo,0,none⟩) j d).ownBlock= some k→¬k= w.heap.size:=fun k az e=>by have:=(cm.lt k az).1;omega
 go_wp2
 clear al
 refine sT 0 fun cS aC=>?_
 replace I:=aC.aE I;replace ad:=aC.vS ad;replace cm:=cm.bW aC ih;have al:=ad.cC
 refine hn ((iO.out _).2 I) (dZ _ _ ?_)
 refine mA ?_
 change wpQuiet _ _ _ _ (_ ::[]) _
 repeat (go_big_quiet_step (fail))
 refine wpQuiet_nil ?_
 go_wp2
 refine bodyPost_ret (v:= .tuple #[.slice (some ⟨bo,0,none⟩) j d,.agg #[qr,cg,dw],true]) (by simp [results,Tryz.results286,go_sem,al]) rfl ?_
 exact⟨bo,d,rfl,cm.base (by omega),I⟩
open Go.RowKit Go.G9
theorem amc (ef y n a:Int) (h:0≤y∧y≤1000∧0≤n∧n≤1000) (v:Bool) (aw:pC ef y n= v) (w:World):
 Calls Tryz.prog 288 #[ef,.agg #[y,n,a]] w fun e ag=>e= .returned v∧Below w w ag:=by
 go_in
 go_wp2_with (go_at_call 316;refine (amd _ _ _ (by omega) (by omega) (by omega) (by omega) _ aw _).mono ?_;rintro e ag ⟨rfl,rfl⟩)
 go_ret
 exact⟨rfl,bZ _ _⟩
theorem ZT {y n a:Int} (h:tQ y n a= true):(0≤y∧y≤1000)∧(0≤n∧n≤1000):=by
 simp only [tQ,Bool.and_eq_true,rM] at h
 exact⟨h.1,h.2.1⟩
theorem anb {B:Nat} {w:World} {cq cK ct:Option Addr} {d0 d1 d4:Nat} {rs:List aJ} {qs:List aL} {os:List Out} (h0:aV B 89 7 aJ.cells w (.slice cq rs d0) rs) (h1:aV B 115 3 aL.cells w (.slice cK qs d1) qs) (h4:aV B 163 3 Out.cells w (.slice ct os d4) os):
 gA B w cq d0 cK d1 none 0 none 0 ct d4 rs qs [] [] os:=⟨h0,h1,aV.nil,aV.nil,h4⟩
theorem aaA {p:Prop} (h:p:=by
 have al:=ad.aG;have ep:=ad.jh
 go_wp2
 clear al
 refine iK 0 fun cS aC=>?_
 replace I:=aC.aE I;replace ad:=aC.jg ad;have al:=ad.aG
 exact hg ⟨rfl,I⟩ (by simp [results,Tryz.results253,go_sem,al])):p:=h
theorem alA (an ar aj ak aA:Option Addr) (c0 c1 c2 c3 c4:Nat) (rs:List aJ) (qs:List aL) (af ae sp:Int) (ws:List Int) (U:List aI) (os:List Out) (Z:eC an ar aj ak aA c0 c1 c2 c3 c4 rs qs ws U os) (mem val yes no bx:Int) (aw:pw ⟨rs,qs,af,ae,sp,ws,U,os⟩ ⟨7,mem,val,yes,no,bx⟩ =none) (w:World) (R:ea w an ar aj ak aA rs qs ws U os):
 Calls Tryz.prog 253 #[.agg #[.slice an rs c0,.slice ar qs c1,af,ae,sp,.slice aj ws c2,.slice ak U c3,.slice aA os c4],.agg #[yes,no,bx]] w fun e ag=>e= .returned (.tuple #[.agg #[.slice none 0 0,.slice none 0 0,(0:Int),(0:Int),(0:Int),.slice none 0 0,.slice none 0 0,.slice none 0 0],false])∧Below w w ag:=by
 have bJ:=J R;have bf:=J Z;clear R Z
 cases bO:rC rs qs with
 | none=>
  have fG:=J bO;clear bO aw
  go_in
  go_upto_region 1 with fail
  refine fr fun aF au ai dt ad=>?_
  have I:=au;have aD:=ai.aG;have al:=ad.aG
  go_wp2_with fail
  refine (akF an c0 rs bf.out.h0 bf.out.dY ar c1 qs bf.out.h1 bf.out.eB fG.out _ (bJ.out.fF.below (ah I av)) (bJ.out.dJ.below (ah I av))).mono ?_
  rintro e aM ⟨rfl,aN⟩
  have ao:=be aF aN;replace I:=ah I ao;clear aD;replace ad:=ad.to ao;clear al;have al:=ad.aG
  go_upto_region 2 with fail
  refine cR fun ru aK eh=>?_
  replace I:=ah I aK;clear al;replace ad:=ad.to aK
  exact aaA
 | some pq=>
  obtain⟨ps,⟨qr,cg,dw⟩⟩:=pq
  obtain⟨j,bH,aZ,Oz,aO,aS⟩:=TL bO
  subst Oz
  have eH:=J bH;have cV:=J aZ;have eg:=J aO;have cH:=J aS
  cases cE:tQ yes no bx
  case false=>
   have bX:=J cE;clear bO aw bH aZ aO aS cE
   go_in
   go_upto_region 1 with fail
   refine fr fun aF au ai dt ad=>?_
   have I:=au;have aD:=ai.aG;have fl:=dt.cC;have al:=ad.aG
   go_wp2_with fail
   refine (OY an c0 rs bf.out.h0 bf.out.dY ar c1 qs bf.out.h1 bf.out.eB j eH.out qr cg dw cV.out eg.out cH.out _ (bJ.out.fF.below (ah I av)) (bJ.out.dJ.below (ah I av))).mono ?_
   rintro e aM ⟨g1,d1,rfl,cm,aN⟩
   have ao:=be aF aN;replace I:=ah I ao;clear aD;replace dt:=dt.to ao;clear fl;have fl:=dt.cC;replace ad:=ad.to ao;clear al;have al:=ad.aG;clear cm
   go_upto_region 2 with fail
   refine cR fun ru aK eh=>?_
   replace I:=ah I aK;clear fl;replace dt:=dt.to aK;have fl:=dt.cC;clear al;replace ad:=ad.to aK;have al:=ad.aG
   go_wp2_with fail
   refine (Pc yes no bx _ bX.out _).mono ?_
   rintro e ca ⟨rfl,cU⟩
   have bS:=be ru cU;replace I:=ah I bS;clear fl;replace ad:=ad.to bS;clear al
   exact aaA
  case true=>
   have cY:os.length= 12:=by
    by_cases h:os.length= 12
    ·exact h
    ·simp [pw,bO,cE,h] at aw
   have GC:((os.length:Int) == 12)= true:=by rw [cY];rfl
   have bX:=J cE;clear bO aw bH aZ aO aS cE cY
   go_in
   go_upto_region 1 with fail
   refine fr fun aF au ai dt ad=>?_
   have I:=au;have aD:=ai.aG;have fl:=dt.cC;have al:=ad.aG
   go_wp2_with fail
   refine (OY an c0 rs bf.out.h0 bf.out.dY ar c1 qs bf.out.h1 bf.out.eB j eH.out qr cg dw cV.out eg.out cH.out _ (bJ.out.fF.below (ah I av)) (bJ.out.dJ.below (ah I av))).mono ?_
   rintro e aM ⟨g1,d1,rfl,cm,aN⟩
   have ao:=be aF aN;replace I:=ah I ao;replace ai:=ai.to ao;clear aD;have aD:=ai.aG;replace dt:=dt.to ao;clear fl;have fl:=dt.cC;replace ad:=ad.to ao;clear al;have al:=ad.aG;clear cm
   go_upto_region 2 with fail
   refine cR fun ru aK eh=>?_
   replace I:=ah I aK;clear aD;replace ai:=ai.to aK;have aD:=ai.aG;clear fl;replace dt:=dt.to aK;have fl:=dt.cC;clear al;replace ad:=ad.to aK;have al:=ad.aG
   go_wp2_with fail
   refine (Pc yes no bx _ bX.out _).mono ?_
   rintro e ca ⟨rfl,cU⟩
   have bS:=be ru cU;replace I:=ah I bS;replace ai:=ai.to bS;clear aD;have aD:=ai.aG;clear fl;replace ad:=ad.to bS;clear al;have al:=ad.aG;have ep:=ad.jh
   go_wp2
   clear aD al
   refine iK 0 fun cS aC=>?_
   replace I:=aC.aE I;replace ad:=aC.jg ad;have al:=ad.aG
   exact hg ⟨rfl,I⟩ (by simp [results,Tryz.results253,go_sem,al])
theorem aaB {p:Prop} (h:p:=by
 have al:=ad.aG;have ep:=ad.jh
 go_wp2
 clear al
 refine iK 0 fun cS aC=>?_
 replace I:=aC.aE I;replace ad:=aC.jg ad;have al:=ad.aG
 exact hg ⟨rfl,I⟩ (by simp [results,Tryz.results232,go_sem,al])):p:=h
theorem aaz {p:Prop} (h:p:=by
 have al:=ad.aG;have ep:=ad.jh
 go_wp2
 clear aD al
 refine iK 0 fun cS aC=>?_
 replace I:=aC.aE I;replace ad:=aC.jg ad;have al:=ad.aG
 exact hg ⟨rfl,I⟩ (by simp [results,Tryz.results232,go_sem,al])):p:=h
theorem aqf (an ar aj ak aA:Option Addr) (c0 c1 c2 c3 c4:Nat) (rs:List aJ) (qs:List aL) (af ae sp:Int) (ws:List Int) (U:List aI) (os:List Out) (Z:eC an ar aj ak aA c0 c1 c2 c3 c4 rs qs ws U os) (mem val yes no bx:Int) (aw:sp≠0∨pw ⟨rs,qs,af,ae,sp,ws,U,os⟩ ⟨7,mem,val,yes,no,bx⟩ =none) (w:World) (R:ea w an ar aj ak aA rs qs ws U os):
 Calls Tryz.prog 232 #[.agg #[.slice an rs c0,.slice ar qs c1,af,ae,sp,.slice aj ws c2,.slice ak U c3,.slice aA os c4],.agg #[yes,no,bx]] w fun e ag=>e= .returned (.tuple #[.agg #[.slice none 0 0,.slice none 0 0,(0:Int),(0:Int),(0:Int),.slice none 0 0,.slice none 0 0,.slice none 0 0],false])∧Below w w ag:=by
 have bJ:=J R;have bf:=J Z;clear R Z
 cases bO:rC rs qs with
 | none=>
  have fG:=J bO;clear bO aw
  go_in
  go_upto_region 1 with fail
  refine fr fun aF au ai dt ad=>?_
  have I:=au;have aD:=ai.aG;have al:=ad.aG
  go_wp2_with fail
  refine (apq an c0 rs bf.out.h0 bf.out.dY ar c1 qs bf.out.h1 bf.out.eB fG.out _ (bJ.out.fF.below (ah I av)) (bJ.out.dJ.below (ah I av))).mono ?_
  rintro e aM ⟨A9,c9,rfl,aN⟩
  have ao:=be aF aN;replace I:=ah I ao;clear aD;replace ad:=ad.to ao;clear al;have al:=ad.aG
  go_upto_region 2 with fail
  refine cR fun ru aK eh=>?_
  replace I:=ah I aK;clear al;replace ad:=ad.to aK
  exact aaB
 | some pq=>
  obtain⟨ps,⟨qr,cg,dw⟩⟩:=pq
  obtain⟨j,bH,aZ,Oz,aO,aS⟩:=TL bO
  subst Oz
  have eH:=J bH;have cV:=J aZ;have eg:=J aO;have cH:=J aS
  by_cases rf:sp= 0
  case neg=>
   have aX:(sp != 0)= true:=by simpa using rf
   clear bO aw bH aZ aO aS rf
   go_in
   go_upto_region 1 with fail
   refine fr fun aF au ai dt ad=>?_
   have I:=au;have aD:=ai.aG;have al:=ad.aG
   go_wp2_with fail
   refine (Kv an c0 rs bf.out.h0 bf.out.dY ar c1 qs bf.out.h1 bf.out.eB j eH.out qr cg dw cV.out eg.out cH.out _ (bJ.out.fF.below (ah I av)) (bJ.out.dJ.below (ah I av))).mono ?_
   rintro e aM ⟨g1,d1,rfl,cm,aN⟩
   have ao:=be aF aN;replace I:=ah I ao;replace ai:=ai.to ao;clear aD;have aD:=ai.aG;replace ad:=ad.to ao;clear al;have al:=ad.aG;clear cm
   go_upto_region 2 with fail
   refine cR fun ru aK eh=>?_
   replace I:=ah I aK;clear aD;replace ai:=ai.to aK;have aD:=ai.aG;clear al;replace ad:=ad.to aK
   exact aaz
  case pos=>
  have aX:(sp != 0)= false:=by simpa using rf
  have aw:pw ⟨rs,qs,af,ae,sp,ws,U,os⟩ ⟨7,mem,val,yes,no,bx⟩ =none:=aw.resolve_left (fun h=>h rf);clear rf
  cases cE:tQ yes no bx
  case false=>
   have bX:=J cE;clear bO aw bH aZ aO aS cE
   go_in
   go_upto_region 1 with fail
   refine fr fun aF au ai dt ad=>?_
   have I:=au;have aD:=ai.aG;have fl:=dt.cC;have al:=ad.aG
   go_wp2_with fail
   refine (Kv an c0 rs bf.out.h0 bf.out.dY ar c1 qs bf.out.h1 bf.out.eB j eH.out qr cg dw cV.out eg.out cH.out _ (bJ.out.fF.below (ah I av)) (bJ.out.dJ.below (ah I av))).mono ?_
   rintro e aM ⟨g1,d1,rfl,cm,aN⟩
   have ao:=be aF aN;replace I:=ah I ao;replace ai:=ai.to ao;clear aD;have aD:=ai.aG;replace dt:=dt.to ao;clear fl;have fl:=dt.cC;replace ad:=ad.to ao;clear al;have al:=ad.aG;clear cm
   go_upto_region 2 with fail
   refine cR fun ru aK eh=>?_
   replace I:=ah I aK;clear aD;replace ai:=ai.to aK;have aD:=ai.aG;clear fl;replace dt:=dt.to aK;have fl:=dt.cC;clear al;replace ad:=ad.to aK;have al:=ad.aG
   go_wp2_with fail
   refine (Pe yes no bx _ bX.out _).mono ?_
   rintro e ca ⟨rfl,cU⟩
   have bS:=be ru cU;replace I:=ah I bS;clear aD;clear fl;replace ad:=ad.to bS;clear al
   exact aaB
  case true=>
   have cY:os.length= 12:=by
    by_cases h:os.length= 12
    ·exact h
    ·simp [pw,bO,cE,h] at aw
   have GC:((os.length:Int) == 12)= true:=by rw [cY];rfl
   have bX:=J cE;clear bO aw bH aZ aO aS cE cY
   go_in
   go_upto_region 1 with fail
   refine fr fun aF au ai dt ad=>?_
   have I:=au;have aD:=ai.aG;have fl:=dt.cC;have al:=ad.aG
   go_wp2_with fail
   refine (Kv an c0 rs bf.out.h0 bf.out.dY ar c1 qs bf.out.h1 bf.out.eB j eH.out qr cg dw cV.out eg.out cH.out _ (bJ.out.fF.below (ah I av)) (bJ.out.dJ.below (ah I av))).mono ?_
   rintro e aM ⟨g1,d1,rfl,cm,aN⟩
   have ao:=be aF aN;replace I:=ah I ao;replace ai:=ai.to ao;clear aD;have aD:=ai.aG;replace dt:=dt.to ao;clear fl;have fl:=dt.cC;replace ad:=ad.to ao;clear al;have al:=ad.aG;clear cm
   go_upto_region 2 with fail
   refine cR fun ru aK eh=>?_
   replace I:=ah I aK;clear aD;replace ai:=ai.to aK;have aD:=ai.aG;clear fl;replace dt:=dt.to aK;have fl:=dt.cC;clear al;replace ad:=ad.to aK;have al:=ad.aG
   go_wp2_with fail
   refine (Pe yes no bx _ bX.out _).mono ?_
   rintro e ca ⟨rfl,cU⟩
   have bS:=be ru cU;replace I:=ah I bS;replace ai:=ai.to bS;clear aD;have aD:=ai.aG;clear fl;replace ad:=ad.to bS;clear al
   exact aaz
open Go.RowKit Go.G9
def arx (hB:Bool) (o:Out):lC Nat where
 par:=fun _=>[]
 val:=fun n p=>match n with
  | 8=> .bool hB
  | 10=> .slice (some ⟨p,0,none⟩) 1 1
  | _=>undef
 post:=fun n _ p cW V=>match n with
  | 10=>cW.heap.size= p∧aq V p 163 #[.int .i64 o.fW,.int .i64 o.mover,.bool o.hB]
  | _=>True
theorem aaI {p:Prop} (h:p:=by
 have h0:i= 0:=by have:=(List.getElem?_eq_some_iff.1 hy).1;simp at this;omega
 subst h0;simp at hy;subst hy
 rw [Nat.zero_mul,Nat.zero_add]
 exact (CJ.cell _).trans (by simpa [Out.cells] using hu)):p:=h
theorem aaM {p:Prop} (h:p:=by
 exact⟨cq,d0,some ⟨g1,0,none⟩,d1,none,0,none,0,Y,gT,rfl,anb (ch.base (by omega)) (by rw [ue.out];exact cm.base (by omega)) (by rw [Ii.out];exact cv.base (by omega)),I⟩):p:=h
theorem aqg (an ar aj ak aA:Option Addr) (c0 c1 c2 c3 c4:Nat) (rs:List aJ) (qs:List aL) (af ae sp:Int) (ws:List Int) (U:List aI) (os:List Out) (Z:eC an ar aj ak aA c0 c1 c2 c3 c4 rs qs ws U os) (yes no bx:Int) (aX:(sp != 0)= false) (j:Nat) (bH:qs.length= j + 1) (qr cg:Int) (dw:Bool) (aZ:qs[j]? =some ⟨qr,cg,dw⟩) (aO:dD rs qs= true) (aS:jN rs qs= false) (cE:tQ yes no bx= true) (cY:os.length < 12) (w:World) (R:ea w an ar aj ak aA rs qs ws U os):
 Calls Tryz.prog 232 #[.agg #[.slice an rs c0,.slice ar qs c1,af,ae,sp,.slice aj ws c2,.slice ak U c3,.slice aA os c4],.agg #[yes,no,bx]] w fun e ag=>∃cq d0 cK d1 bg d2 bn d3 ct d4,e= .returned (.tuple #[.agg #[.slice cq rs d0,.slice cK (qs.take j).length d1,af,ae,(0:Int),.slice bg ([]:List Int).length d2,.slice bn ([]:List aI).length d3,.slice ct (os ++ [(⟨qr,cg,pC (tG rs ⟨qr,cg,dw⟩) yes no⟩ :Out)]).length d4],true])∧gA w ag cq d0 cK d1 bg d2 bn d3 ct d4 rs (qs.take j) [] [] (os ++ [(⟨qr,cg,pC (tG rs ⟨qr,cg,dw⟩) yes no⟩ :Out)])∧Below w w ag:=by
 obtain⟨i0,hi,dy,dC,dN⟩:=info_parts GV
 have bJ:=J R;have bf:=J Z;clear R Z
 obtain⟨⟨Bp,Bq,Br,dp,rd,Bn,rx,YO⟩,bu⟩:=oA aO aZ
 obtain⟨hB,xz⟩ :∃hB,pC (tG rs ⟨qr,cg,dw⟩) yes no= hB:=⟨_,rfl⟩
 have eP:tG rs ⟨qr,cg,dw⟩ =rx:=by simp only [tG];rw [bu]
 have rH:=ZT cE
 rw [xz]
 rw [eP] at xz
 have zi:(os ++ [(⟨qr,cg,hB⟩ :Out)]).length= os.length + 1:=by simp
 rw [zi]
 have Ii:=J zi;have GC:((os.length:Int) == 12)= false:=beq_eq_false_iff_ne.2 (by omega)
 have ie:(qs.take j).length= j:=by rw [List.length_take];omega
 rw [ie]
 have eH:=J bH;have cV:=J aZ;have eg:=J aO;have cH:=J aS;have bX:=J cE;have qz:=J bu;have Ln:=J xz;have ue:=J ie;clear bH aZ aO aS cE bu xz eP zi ie
 go_in
 go_upto_region 1 with fail
 refine fr fun aF au ai dt ad=>?_
 have I:=au
 obtain⟨f0,f1,f2,f3,f4,f5,f6,f7⟩:=ai.aG
 have fl:=dt.cC;have al:=ad.aG;have gy:=ad.lt
 go_wp2_with fail
 refine (Kv an c0 rs bf.out.h0 bf.out.dY ar c1 qs bf.out.h1 bf.out.eB j eH.out qr cg dw cV.out eg.out cH.out _ (bJ.out.fF.below (ah I av)) (bJ.out.dJ.below (ah I av))).mono ?_
 rintro e aM ⟨g1,d1,rfl,cm,aN⟩
 have ao:=be aF aN;replace I:=ah I ao;replace ai:=ai.to ao;clear f0 f1 f2 f3 f4 f5 f6 f7
 obtain⟨f0,f1,f2,f3,f4,f5,f6,f7⟩:=ai.aG
 replace dt:=dt.to ao;clear fl;have fl:=dt.cC;replace ad:=ad.to ao;clear al;have al:=ad.aG
 rw [ue.out]
 rw [ue.out] at cm
 go_upto_region 2 with fail
 have EL:=cm.later (bZ aM (.cells #[qr,cg,dw] 115));clear cm;have aK:Below aM aM (World.alloc aM (.cells #[qr,cg,dw] 115)):=bZ aM _
 have eh:aq (World.alloc aM (.cells #[qr,cg,dw] 115)) (aM.heap.size) 115 #[qr,cg,dw]:=by repeat (first | exact aq.new _ _ _ | exact aq.fu _ _ _ _ | exact aq.fx _ _ _ _ _ | exact aq.gb _ _ _ _ _ _ | refine aq.alloc ?_ _)
 generalize World.alloc aM (.cells #[qr,cg,dw] 115)= ru at *
 replace I:=ah I aK
 obtain⟨iH,q1,gr⟩:=eh.cC
 clear f0 f1 f2 f3 f4 f5 f6 f7;replace ai:=ai.to aK
 obtain⟨f0,f1,f2,f3,f4,f5,f6,f7⟩:=ai.aG
 clear fl;replace dt:=dt.to aK;have fl:=dt.cC;clear al;replace ad:=ad.to aK;have al:=ad.aG;have cm:=EL;clear EL
 go_wp2_with fail
 refine (Pe yes no bx _ bX.out _).mono ?_
 rintro e ca ⟨rfl,cU⟩
 have bS:=be ru cU;replace I:=ah I bS;replace cm:=cm.later bS;replace ai:=ai.to bS;clear f0 f1 f2 f3 f4 f5 f6 f7
 obtain⟨f0,f1,f2,f3,f4,f5,f6,f7⟩:=ai.aG
 replace dt:=dt.to bS;clear fl;have fl:=dt.cC;replace ad:=ad.to bS;clear al;have al:=ad.aG;replace eh:=eh.to bS;clear iH q1 gr
 obtain⟨iH,q1,gr⟩:=eh.cC
 obtain⟨alX,VB,OH⟩:=rL qz.out
 have qp:=(List.getElem?_eq_some_iff.1 OH).1
 obtain⟨eb,kJ,fF,hA0,oO,lK,gE⟩:=bJ.out.fF.at_ I qp
 obtain rfl:=Option.some.inj (lK.symm.trans OH)
 have aoK:=gE 6 _ rfl;have aek:=J VB;have BK:=J hA0;clear gE lK VB OH hA0
 go_upto_region 4 with fail
 clear f0 f1 f2 f3 f4 f5 f6 f7
 obtain⟨f0,f1,f2,f3,f4,f5,f6,f7⟩:=aq.qd (fun K:ax ca.heap.size ca=>(ai.below K.below ai.lt))
 clear fl;have fl:=aq.jV (fun K:ax ca.heap.size ca=>(dt.below K.below dt.lt));clear al;have al:=aq.qd (fun K:ax ca.heap.size ca=>(ad.below K.below ad.lt));clear iH q1 gr
 obtain⟨iH,q1,gr⟩:=aq.jV (fun K:ax ca.heap.size ca=>(eh.below K.below eh.lt))
 have TX:=fun K=>(f0 K).trans (show some (Value.slice an rs c0)= some (Value.slice (some ⟨eb,kJ,none⟩) rs c0) by rw [BK.out])
 clear f0;have f0:=TX;clear TX;have aeE:Hid (∀K:ax ca.heap.size ca,aH 7 aJ.cells K.world (some ⟨eb,kJ,none⟩) rs):=J (fun K=>by have h:=bJ.out.fF.below (ah I K.below);rw [BK.out] at h;exact h)
 refine ew (by kernel_rfl) (by kernel_rfl) ?_
 repeat (go_big_quiet_step (fail))
 go_big_quiet_step ((go_at_call 72;exact ax.same _ (vj (some ⟨eb,kJ,none⟩) c0 rs bf.out.h0 qr alX aek.out _ (aeE.out _))))
 repeat (go_big_quiet_step (fail))
 refine wpQuiet_nil ?_
 intro K
 clear aoK;clear f0 f1 f2 f3 f4 f5 f6 f7;clear fl;clear al;clear iH q1 gr;have cx:Below ca ca K.world:=ah av K.below;replace I:=ah I cx;replace cm:=cm.later cx;replace ai:=ai.to cx
 obtain⟨f0,f1,f2,f3,f4,f5,f6,f7⟩:=ai.aG
 replace dt:=dt.to cx;have fl:=dt.cC;replace ad:=ad.to cx;have al:=ad.aG;replace eh:=eh.to cx
 obtain⟨iH,q1,gr⟩:=eh.cC
 have vu:=I.size
 go_wp2_with fail
 refine (Xb an ar aj ak aA c0 c1 c2 c3 c4 rs qs af ae sp ws U os bf.out (some ⟨g1,0,none⟩) j d1 _ (bJ.out.below (ah I av))).mono ?_
 rintro e gZ ⟨cq,d0,ct,d4,rfl,ch,cv,pe⟩
 have eD:Below K.world.heap.size K.world gZ:=ah av pe;replace I:=ah I eD;replace cm:=cm.later eD;replace ai:=ai.to eD;clear f0 f1 f2 f3 f4 f5 f6 f7;replace dt:=dt.to eD;clear fl;have fl:=dt.cC;replace ad:=ad.to eD;clear al;have al:=ad.aG;replace eh:=eh.to eD;clear iH q1 gr
 obtain⟨iH,q1,gr⟩:=eh.cC
 have aqZ:=I.size;have akq:=ad.lt
 go_upto_region 6 with fail
 have EK:=ch.later (bZ gZ (.cells #[.slice cq rs d0,.slice g1 j d1,af,ae,(0:Int),.slice none 0 0,.slice none 0 0,.slice ct os d4] 44));have sj:=cv.later (bZ gZ (.cells #[.slice cq rs d0,.slice g1 j d1,af,ae,(0:Int),.slice none 0 0,.slice none 0 0,.slice ct os d4] 44))
 clear ch cv;have rb:Below gZ gZ (World.alloc gZ (.cells #[.slice cq rs d0,.slice g1 j d1,af,ae,(0:Int),.slice none 0 0,.slice none 0 0,.slice ct os d4] 44)):=bZ gZ _
 have aQ:aq (World.alloc gZ (.cells #[.slice cq rs d0,.slice g1 j d1,af,ae,(0:Int),.slice none 0 0,.slice none 0 0,.slice ct os d4] 44)) (gZ.heap.size) 44 #[.slice cq rs d0,.slice g1 j d1,af,ae,(0:Int),.slice none 0 0,.slice none 0 0,.slice ct os d4]:=by repeat (first | exact aq.new _ _ _ | exact aq.fu _ _ _ _ | exact aq.fx _ _ _ _ _ | exact aq.gb _ _ _ _ _ _ | refine aq.alloc ?_ _)
 replace cm:=cm.later rb
 generalize World.alloc gZ (.cells #[.slice cq rs d0,.slice g1 j d1,af,ae,(0:Int),.slice none 0 0,.slice none 0 0,.slice ct os d4] 44)= tS at *
 replace I:=ah I rb;have bF:=aQ.aG;replace ai:=ai.to rb;clear fl;replace dt:=dt.to rb;have fl:=dt.cC;clear al;replace ad:=ad.to rb;have al:=ad.aG;clear iH q1 gr;replace eh:=eh.to rb
 obtain⟨iH,q1,gr⟩:=eh.cC
 have ch:=EK.base (B':=w.heap.size) vu;have cv:=sj.base (B':=w.heap.size) vu;clear EK sj
 obtain⟨Ed,Uq⟩ :∃X:World→Prop,∀V,X V↔(Below w w V∧aq V (w.heap.size) 44 #[.slice an rs c0,.slice ar qs c1,af,ae,sp,.slice aj ws c2,.slice ak U c3,.slice aA os c4]∧aq V (w.heap.size + 1) 146 #[yes,no,bx]∧aq V (aM.heap.size) 115 #[qr,cg,dw]∧aq V (gZ.heap.size) 44 #[.slice cq rs d0,.slice g1 j d1,af,ae,(0:Int),.slice none 0 0,.slice none 0 0,.slice ct os d4]):=⟨_,fun _=>Iff.rfl⟩
 have qa:=J Uq;clear Uq
 haveI:Nonempty (cN Ed):=⟨⟨tS,((qa.out _).2 ⟨I,ai,dt,eh,aQ⟩)⟩⟩
 clear fl;clear al;clear iH q1 gr;clear bF;have fl:=aq.jV (fun K:cN Ed=>((qa.out _).1 K.holds).2.2.1)
 obtain⟨iH,q1,gr⟩:=aq.jV (fun K:cN Ed=>((qa.out _).1 K.holds).2.2.2.1)
 have bF:=aq.qd (fun K:cN Ed=>((qa.out _).1 K.holds).2.2.2.2)
 refine HQ (arx hB ⟨qr,cg,hB⟩) Ed [([0,1,2,3,4,5,6,7],8),([9],10)] [] [([],[],11,true),([],[12],13,true)] [] [] (by kernel_rfl) (by kernel_rfl) ((qa.out _).2 ⟨I.drew,ai,dt,eh,aQ⟩) (fun W eE h k=>((qa.out _).2 ⟨((qa.out _).1 h).1.trans (k.mono ((qa.out _).1 h).1.size),((qa.out _).1 h).2.1.below k ((qa.out _).1 h).2.1.lt,((qa.out _).1 h).2.2.1.below k ((qa.out _).1 h).2.2.1.lt,((qa.out _).1 h).2.2.2.1.below k ((qa.out _).1 h).2.2.2.1.lt,((qa.out _).1 h).2.2.2.2.below k ((qa.out _).1 h).2.2.2.2.lt⟩)) ?_
 intro bp
 refine iL (some 61) rfl (.bool hB) rfl fun hd eT=>?_
 change wpQuiet _ _ _ _ (_ ::_ ::_ ::_ ::_ ::_ ::_ ::_ ::[]) _
 repeat (go_big_quiet_step (fail))
 refine wpQuiet_nil ?_
 refine⟨fun k fQ=>?_,eT _ ?_⟩
 ·change wpList _ _ _ (_ ::[]) _ _
  go_wp2_with fail
  refine (amc rx yes no bx (by omega) hB Ln.out _).mono ?_
  rintro e mY ⟨rfl,fS⟩
  go_wp2
  exact ia ⟨0,rfl,fS,trivial⟩
 simp only [Act.put]
 go_simp
 refine iL (some 63) rfl (.slice (some ⟨bp 10,0,none⟩) 1 1) rfl fun hd eT=>?_
 change wpQuiet _ _ _ _ (_ ::[]) _
 repeat (go_big_quiet_step (fail))
 refine wpQuiet_nil ?_
 refine⟨fun k fQ=>?_,eT _ ?_⟩
 ·exact QW
 simp only [Act.put]
 go_simp
 refine tW ?_
 change wpQuiet _ _ _ _ ([]) _
 refine wpQuiet_nil ?_
 intro cW V W aW bI
 obtain⟨Ay,rE⟩ :(cW 10).heap.size= bp 10∧aq (V 10) (bp 10) 163 #[qr,cg,.bool hB]:=aW.post 10 (by simp)
 have CJ:=rE.below (aW.later 10 (by simp)) rE.lt;clear fl;clear iH q1 gr;clear bF;have zk:Below tS tS W:=ah av (aW.whole 10 (by simp)).rr;replace I:=ah I zk;replace cm:=cm.later zk;replace ch:=ch.later zk;replace cv:=cv.later zk;replace ai:=ai.to zk;replace ad:=ad.to zk;have al:=ad.aG;replace eh:=eh.to zk
 obtain⟨iH,q1,gr⟩:=eh.cC
 replace aQ:=aQ.to zk;have bF:=aQ.aG;clear aW Ay rE bI
 generalize bp 10= Bu at *
 have LJ:Hid (aH 3 Out.cells W (some ⟨Bu,0,none⟩) [(⟨qr,cg,hB⟩ :Out)]):=J (fun _=>⟨Bu,0,rfl,CJ.lt,fun i y hy j u hu=>by
  exact aaI⟩)
 have qV:=cv.cA aQ;have sC:=cv.cA ad;have FZ:=cv.apart ch (by decide);have Ga:=cv.apart cm (by decide);have oP:=cv.lt;have lj:=J cv;have lB:=J cm;have lP:=J ch;have cb:=J aQ;have jl:=J ad;have ez:=J I;have zY:=J qV;have zZ:=J sC;have BK:=J FZ;have Lm:=J Ga;have zX:=J oP;have Qp:=I.size;clear cv cm ch CJ qV sC FZ Ga oP
 refine qx fun gz dZ=>?_
 refine wpQuiet_nil ?_
 refine wpQuiet_nil ?_
 change wpList _ _ _ (_ ::[]) _ _
 go_wp2_with ((at_builtin;refine lA rfl _ _ 42 rfl _ 163 i0 _ 3 24 Tryz.underlying42 hi dy dC dN rfl (by decide) Out.cells Bf PB _ os rfl lj.out ⟨Bu,0,none⟩ 1 ⟨qr,cg,hB⟩ rfl LJ.out (by unfold maxLen;omega) (by omega) (by omega) ?_;intro v9 mY kX lq Av;clear Av;obtain⟨Y,gT,rfl,q1,gr,ns⟩:=kX.form Bf;clear q1 gr ns;rw [Ii.out] at kX))
 have er:=cb.out.kG lq (fun e=>zY.out _ e.symm rfl);have bQ:=jl.out.kG lq (fun e=>zZ.out _ e.symm rfl);have ch:=lP.out.kept lq (fun k az e=>BK.out k e.symm az.symm);have cm:=lB.out.kept lq (fun k az e=>Lm.out k e.symm az.symm);have cv:=kX;have Eh:Below w w mY:=ez.out.grown lq (by omega) (fun q aZ=>by have:=(zX.out q aZ).1;omega);clear aQ ad ai dt eh I iH q1 gr bF al lq kX
 refine Ah (dZ _ _ ?_)
 refine qx fun EC uH=>?_
 refine wpQuiet_nil ?_
 change wpQuiet _ _ _ _ (_ ::[]) _
 haveI:Nonempty (cN (fun _=>True)):=⟨⟨w,trivial⟩⟩
 try simp only [Act.put]
 try go_simp
 repeat (go_big_quiet_step (fail))
 refine wpQuiet_nil ?_
 change wpList _ _ _ (_ ::[]) _ _
 have I:=Eh;clear Eh;have al:=bQ.aG;have bF:=er.aG;have fC:=ch.cA er;have ih:=cm.cA er;have fI:=cv.cA er;have MT:=er.frozen 7
 go_wp2
 clear al bF
 refine kN 7 fun IF jY=>?_
 replace I:=jY.aE I;replace bQ:=jY.dM bQ;replace er:=jY.PK er;replace ch:=ch.bW jY fC;replace cm:=cm.bW jY ih;replace cv:=cv.bW jY fI;have al:=bQ.aG;have bF:=er.aG
 clear fC ih fI MT
 refine Ah (uH _ _ ?_)
 refine BB ?_
 refine wpQuiet_nil ?_
 refine wpQuiet_nil ?_
 have fC:=ch.cA bQ;have ih:=cm.cA bQ;have fI:=cv.cA bQ;have CB:=bQ.frozen 0;have CC:=bQ.frozen 1;have CD:=bQ.frozen 2;have CE:=bQ.frozen 3;have CF:=bQ.frozen 4;have ahB:=bQ.frozen 5;have ahC:=bQ.frozen 6;have ahD:=bQ.frozen 7
 go_wp2
 clear al bF
 refine iK 0 fun IG kO=>?_
 replace I:=kO.aE I;replace bQ:=kO.jg bQ;replace ch:=ch.bW kO fC;replace cm:=cm.bW kO ih;replace cv:=cv.bW kO fI;have al:=bQ.aG
 refine bodyPost_ret (v:= .tuple #[.agg #[.slice cq rs d0,.slice g1 j d1,af,ae,(0:Int),.slice none 0 0,.slice none 0 0,.slice Y (os.length + 1) gT],true]) (by simp [results,Tryz.results232,go_sem,al]) rfl ?_
 exact aaM
open Go.RowKit Go.G9
def arw (Bp:Int) (Bq:ByteArray) (Br:Int) (rs rd Bn:Bool) (rx:Int) (hB:Bool) (o:Out):lC Nat where
 par:=fun _=>[]
 val:=fun n p=>match n with
  | 9=> .agg #[.int .i64 Bp,.string Bq,.int .i64 Br,.bool rs,.bool rd,.bool Bn,.int .i64 rx]
  | 15=> .bool hB
  | 17=> .slice (some ⟨p,0,none⟩) 1 1
  | _=>undef
 post:=fun n _ p cW V=>match n with
  | 17=>cW.heap.size= p∧aq V p 163 #[.int .i64 o.fW,.int .i64 o.mover,.bool o.hB]
  | _=>True
theorem alB (an ar aj ak aA:Option Addr) (c0 c1 c2 c3 c4:Nat) (rs:List aJ) (qs:List aL) (af ae sp:Int) (ws:List Int) (U:List aI) (os:List Out) (Z:eC an ar aj ak aA c0 c1 c2 c3 c4 rs qs ws U os) (yes no bx:Int) (j:Nat) (bH:qs.length= j + 1) (qr cg:Int) (dw:Bool) (aZ:qs[j]? =some ⟨qr,cg,dw⟩) (aO:dD rs qs= true) (aS:jN rs qs= false) (cE:tQ yes no bx= true) (cY:os.length < 12) (w:World) (R:ea w an ar aj ak aA rs qs ws U os):
 Calls Tryz.prog 253 #[.agg #[.slice an rs c0,.slice ar qs c1,af,ae,sp,.slice aj ws c2,.slice ak U c3,.slice aA os c4],.agg #[yes,no,bx]] w fun e ag=>∃cq d0 cK d1 bg d2 bn d3 ct d4,e= .returned (.tuple #[.agg #[.slice cq rs d0,.slice cK (qs.take j).length d1,af,ae,(0:Int),.slice bg ([]:List Int).length d2,.slice bn ([]:List aI).length d3,.slice ct (os ++ [(⟨qr,cg,pC (tG rs ⟨qr,cg,dw⟩) yes no⟩ :Out)]).length d4],true])∧gA w ag cq d0 cK d1 bg d2 bn d3 ct d4 rs (qs.take j) [] [] (os ++ [(⟨qr,cg,pC (tG rs ⟨qr,cg,dw⟩) yes no⟩ :Out)])∧Below w w ag:=by
 obtain⟨i0,hi,dy,dC,dN⟩:=info_parts GV
 have bJ:=J R;have bf:=J Z;clear R Z
 obtain⟨⟨Bp,Bq,Br,dp,rd,Bn,rx,YO⟩,bu⟩:=oA aO aZ
 obtain⟨hB,xz⟩ :∃hB,pC (tG rs ⟨qr,cg,dw⟩) yes no= hB:=⟨_,rfl⟩
 have eP:tG rs ⟨qr,cg,dw⟩ =rx:=by simp only [tG];rw [bu]
 have rH:=ZT cE
 rw [xz]
 rw [eP] at xz
 have zi:(os ++ [(⟨qr,cg,hB⟩ :Out)]).length= os.length + 1:=by simp
 rw [zi]
 have Ii:=J zi;have GC:((os.length:Int) == 12)= false:=beq_eq_false_iff_ne.2 (by omega)
 have ie:(qs.take j).length= j:=by rw [List.length_take];omega
 rw [ie]
 have eH:=J bH;have cV:=J aZ;have eg:=J aO;have cH:=J aS;have bX:=J cE;have qz:=J bu;have Ln:=J xz;have ue:=J ie;clear bH aZ aO aS cE bu xz eP zi ie
 go_in
 go_upto_region 1 with fail
 refine fr fun aF au ai dt ad=>?_
 have I:=au;have aD:=ai.aG;have fl:=dt.cC;have al:=ad.aG;have gy:=ad.lt
 go_wp2_with fail
 refine (OY an c0 rs bf.out.h0 bf.out.dY ar c1 qs bf.out.h1 bf.out.eB j eH.out qr cg dw cV.out eg.out cH.out _ (bJ.out.fF.below (ah I av)) (bJ.out.dJ.below (ah I av))).mono ?_
 rintro e aM ⟨g1,d1,rfl,cm,aN⟩
 have ao:=be aF aN;replace I:=ah I ao;replace ai:=ai.to ao;clear aD;have aD:=ai.aG;replace dt:=dt.to ao;clear fl;have fl:=dt.cC;replace ad:=ad.to ao;clear al;have al:=ad.aG
 rw [ue.out]
 rw [ue.out] at cm
 go_upto_region 2 with fail
 have EL:=cm.later (bZ aM (.cells #[qr,cg,dw] 115));clear cm;have aK:Below aM aM (World.alloc aM (.cells #[qr,cg,dw] 115)):=bZ aM _
 have eh:aq (World.alloc aM (.cells #[qr,cg,dw] 115)) (aM.heap.size) 115 #[qr,cg,dw]:=by repeat (first | exact aq.new _ _ _ | exact aq.fu _ _ _ _ | exact aq.fx _ _ _ _ _ | exact aq.gb _ _ _ _ _ _ | refine aq.alloc ?_ _)
 generalize World.alloc aM (.cells #[qr,cg,dw] 115)= ru at *
 replace I:=ah I aK
 obtain⟨iH,q1,gr⟩:=eh.cC
 clear aD;replace ai:=ai.to aK;have aD:=ai.aG;clear fl;replace dt:=dt.to aK;have fl:=dt.cC;clear al;replace ad:=ad.to aK;have al:=ad.aG;have cm:=EL;clear EL
 go_wp2_with fail
 refine (Pc yes no bx _ bX.out _).mono ?_
 rintro e ca ⟨rfl,cU⟩
 have bS:=be ru cU;replace I:=ah I bS;replace cm:=cm.later bS;replace ai:=ai.to bS;clear aD;have aD:=ai.aG;replace dt:=dt.to bS;clear fl;have fl:=dt.cC;replace ad:=ad.to bS;clear al;have al:=ad.aG;replace eh:=eh.to bS;clear iH q1 gr
 obtain⟨iH,q1,gr⟩:=eh.cC
 have vu:=I.size
 go_wp2_with fail
 refine (aam an ar aj ak aA c0 c1 c2 c3 c4 rs qs af ae sp ws U os bf.out (some ⟨g1,0,none⟩) j d1 _ (bJ.out.below (ah I av))).mono ?_
 rintro e dc ⟨cq,d0,ct,d4,rfl,ch,cv,ei⟩
 have cx:=be ca ei;replace I:=ah I cx;replace cm:=cm.later cx;replace ai:=ai.to cx;clear aD;have aD:=ai.aG;replace dt:=dt.to cx;clear fl;have fl:=dt.cC;replace ad:=ad.to cx;clear al;have al:=ad.aG;replace eh:=eh.to cx;clear iH q1 gr
 obtain⟨iH,q1,gr⟩:=eh.cC
 have aqZ:=I.size;have akq:=ad.lt
 go_upto_region 5 with fail
 have EK:=ch.later (bZ dc (.cells #[.slice cq rs d0,.slice g1 j d1,af,ae,(0:Int),.slice none 0 0,.slice none 0 0,.slice ct os d4] 44));have sj:=cv.later (bZ dc (.cells #[.slice cq rs d0,.slice g1 j d1,af,ae,(0:Int),.slice none 0 0,.slice none 0 0,.slice ct os d4] 44))
 clear ch cv;have eD:Below dc dc (World.alloc dc (.cells #[.slice cq rs d0,.slice g1 j d1,af,ae,(0:Int),.slice none 0 0,.slice none 0 0,.slice ct os d4] 44)):=bZ dc _
 have aQ:aq (World.alloc dc (.cells #[.slice cq rs d0,.slice g1 j d1,af,ae,(0:Int),.slice none 0 0,.slice none 0 0,.slice ct os d4] 44)) (dc.heap.size) 44 #[.slice cq rs d0,.slice g1 j d1,af,ae,(0:Int),.slice none 0 0,.slice none 0 0,.slice ct os d4]:=by repeat (first | exact aq.new _ _ _ | exact aq.fu _ _ _ _ | exact aq.fx _ _ _ _ _ | exact aq.gb _ _ _ _ _ _ | refine aq.alloc ?_ _)
 replace cm:=cm.later eD
 generalize World.alloc dc (.cells #[.slice cq rs d0,.slice g1 j d1,af,ae,(0:Int),.slice none 0 0,.slice none 0 0,.slice ct os d4] 44)= tS at *
 replace I:=ah I eD;have bF:=aQ.aG;clear aD;replace ai:=ai.to eD;have aD:=ai.aG;clear fl;replace dt:=dt.to eD;have fl:=dt.cC;clear al;replace ad:=ad.to eD;have al:=ad.aG;clear iH q1 gr;replace eh:=eh.to eD
 obtain⟨iH,q1,gr⟩:=eh.cC
 have ch:=EK.base (B':=w.heap.size) vu;have cv:=sj.base (B':=w.heap.size) vu;clear EK sj
 obtain⟨sU,FM⟩ :∃X:World→Prop,∀V,X V↔(Below w w V∧aq V (w.heap.size) 44 #[.slice an rs c0,.slice ar qs c1,af,ae,sp,.slice aj ws c2,.slice ak U c3,.slice aA os c4]∧aq V (w.heap.size + 1) 146 #[yes,no,bx]∧aq V (aM.heap.size) 115 #[qr,cg,dw]∧aq V (dc.heap.size) 44 #[.slice cq rs d0,.slice g1 j d1,af,ae,(0:Int),.slice none 0 0,.slice none 0 0,.slice ct os d4]):=⟨_,fun _=>Iff.rfl⟩
 have lO:=J FM;clear FM
 haveI:Nonempty (cN sU):=⟨⟨tS,((lO.out _).2 ⟨I,ai,dt,eh,aQ⟩)⟩⟩
 clear aD;clear fl;clear al;clear iH q1 gr;clear bF;have aD:=aq.qd (fun K:cN sU=>((lO.out _).1 K.holds).2.1);have fl:=aq.jV (fun K:cN sU=>((lO.out _).1 K.holds).2.2.1)
 obtain⟨iH,q1,gr⟩:=aq.jV (fun K:cN sU=>((lO.out _).1 K.holds).2.2.2.1)
 have bF:=aq.qd (fun K:cN sU=>((lO.out _).1 K.holds).2.2.2.2)
 have hf:=fun W=>(show (Instr.field 89 (.agg #[Bp,Bq,Br,dp,rd,Bn,rx]) 6).run Tryz.prog W= .ok (.int .i64 rx) W by kernel_rfl)
 refine HQ (arw Bp Bq Br dp rd Bn rx hB ⟨qr,cg,hB⟩) sU [([0,1,2,3,4,5,6,7,8],9),([10,11,12,13,14],15),([16],17)] [] [([],[],18,true),([],[19],20,true)] [] [] (by kernel_rfl) (by kernel_rfl) ((lO.out _).2 ⟨I.drew,ai,dt,eh,aQ⟩) (fun W eE h k=>((lO.out _).2 ⟨((lO.out _).1 h).1.trans (k.mono ((lO.out _).1 h).1.size),((lO.out _).1 h).2.1.below k ((lO.out _).1 h).2.1.lt,((lO.out _).1 h).2.2.1.below k ((lO.out _).1 h).2.2.1.lt,((lO.out _).1 h).2.2.2.1.below k ((lO.out _).1 h).2.2.2.1.lt,((lO.out _).1 h).2.2.2.2.below k ((lO.out _).1 h).2.2.2.2.lt⟩)) ?_
 intro bp
 refine iL (some 45) rfl (.agg #[Bp,Bq,Br,dp,rd,Bn,rx]) rfl fun hd eT=>?_
 change wpQuiet _ _ _ _ (_ ::_ ::_ ::_ ::_ ::_ ::_ ::_ ::_ ::[]) _
 repeat (go_big_quiet_step (fail))
 refine wpQuiet_nil ?_
 refine⟨fun k fQ=>?_,eT _ ?_⟩
 ·change wpList _ _ _ (_ ::[]) _ _
  go_wp2_with fail
  refine (rq an c0 rs bf.out.h0 ⟨qr,cg,dw⟩ ⟨Bp,Bq,Br,dp,rd,Bn,rx,YO⟩ qz.out _ (bJ.out.fF.below ((lO.out _).1 k.holds).1)).mono ?_
  rintro e mY ⟨rfl,fS⟩
  go_wp2
  exact ia ⟨0,rfl,fS,trivial⟩
 simp only [Act.put]
 go_simp
 refine iL (some 51) rfl (.bool hB) rfl fun hd eT=>?_
 change wpQuiet _ _ _ _ (_ ::_ ::_ ::_ ::_ ::[]) _
 repeat (go_big_quiet_step (fail))
 refine wpQuiet_nil ?_
 refine⟨fun k fQ=>?_,eT _ ?_⟩
 ·change wpList _ _ _ (_ ::[]) _ _
  go_wp2_with fail
  refine (alU rx yes no (by omega) (by omega) (by omega) (by omega) hB Ln.out _).mono ?_
  rintro e mY ⟨rfl,fS⟩
  go_wp2
  first | exact ia ⟨0,rfl,fS,trivial⟩ | (subst fS;exact ia ⟨0,rfl,Below.refl _ _,trivial⟩)
 simp only [Act.put]
 go_simp
 refine iL (some 53) rfl (.slice (some ⟨bp 17,0,none⟩) 1 1) rfl fun hd eT=>?_
 change wpQuiet _ _ _ _ (_ ::[]) _
 repeat (go_big_quiet_step (fail))
 refine wpQuiet_nil ?_
 refine⟨fun k fQ=>?_,eT _ ?_⟩
 ·exact QW
 simp only [Act.put]
 go_simp
 refine tW ?_
 change wpQuiet _ _ _ _ ([]) _
 refine wpQuiet_nil ?_
 intro cW V W aW bI
 obtain⟨Ay,rE⟩ :(cW 17).heap.size= bp 17∧aq (V 17) (bp 17) 163 #[qr,cg,.bool hB]:=aW.post 17 (by simp)
 have CJ:=rE.below (aW.later 17 (by simp)) rE.lt;clear aD;clear fl;clear iH q1 gr;clear bF;have AI:Below tS tS W:=ah av (aW.whole 17 (by simp)).rr;replace I:=ah I AI;replace cm:=cm.later AI;replace ch:=ch.later AI;replace cv:=cv.later AI;replace ad:=ad.to AI;have al:=ad.aG;replace eh:=eh.to AI
 obtain⟨iH,q1,gr⟩:=eh.cC
 replace aQ:=aQ.to AI;have bF:=aQ.aG;clear aW Ay rE bI hf
 generalize bp 17= Bu at *
 have LJ:Hid (aH 3 Out.cells W (some ⟨Bu,0,none⟩) [(⟨qr,cg,hB⟩ :Out)]):=J (fun _=>⟨Bu,0,rfl,CJ.lt,fun i y hy j u hu=>by
  exact aaI⟩)
 have qV:=cv.cA aQ;have sC:=cv.cA ad;have FZ:=cv.apart ch (by decide);have Ga:=cv.apart cm (by decide);have oP:=cv.lt;have lj:=J cv;have lB:=J cm;have lP:=J ch;have cb:=J aQ;have jl:=J ad;have ez:=J I;have zY:=J qV;have zZ:=J sC;have BK:=J FZ;have Lm:=J Ga;have zX:=J oP;have Qp:=I.size;clear cv cm ch CJ qV sC FZ Ga oP
 refine qx fun gz dZ=>?_
 refine wpQuiet_nil ?_
 refine wpQuiet_nil ?_
 change wpList _ _ _ (_ ::[]) _ _
 go_wp2_with ((at_builtin;refine lA rfl _ _ 42 rfl _ 163 i0 _ 3 24 Tryz.underlying42 hi dy dC dN rfl (by decide) Out.cells Bf PB _ os rfl lj.out ⟨Bu,0,none⟩ 1 ⟨qr,cg,hB⟩ rfl LJ.out (by unfold maxLen;omega) (by omega) (by omega) ?_;intro v9 mY kX lq Av;clear Av;obtain⟨Y,gT,rfl,q1,gr,ns⟩:=kX.form Bf;clear q1 gr ns;rw [Ii.out] at kX))
 have er:=cb.out.kG lq (fun e=>zY.out _ e.symm rfl);have bQ:=jl.out.kG lq (fun e=>zZ.out _ e.symm rfl);have ch:=lP.out.kept lq (fun k az e=>BK.out k e.symm az.symm);have cm:=lB.out.kept lq (fun k az e=>Lm.out k e.symm az.symm);have cv:=kX;have Eh:Below w w mY:=ez.out.grown lq (by omega) (fun q aZ=>by have:=(zX.out q aZ).1;omega);clear aQ ad ai dt eh I iH q1 gr bF al lq kX
 refine Ah (dZ _ _ ?_)
 refine qx fun EC uH=>?_
 refine wpQuiet_nil ?_
 change wpQuiet _ _ _ _ (_ ::[]) _
 haveI:Nonempty (cN (fun _=>True)):=⟨⟨w,trivial⟩⟩
 try simp only [Act.put]
 try go_simp
 repeat (go_big_quiet_step (fail))
 refine wpQuiet_nil ?_
 change wpList _ _ _ (_ ::[]) _ _
 have I:=Eh;clear Eh;have al:=bQ.aG;have bF:=er.aG;have fC:=ch.cA er;have ih:=cm.cA er;have fI:=cv.cA er;have MT:=er.frozen 7
 go_wp2
 clear al bF
 refine kN 7 fun IF jY=>?_
 replace I:=jY.aE I;replace bQ:=jY.dM bQ;replace er:=jY.PK er;replace ch:=ch.bW jY fC;replace cm:=cm.bW jY ih;replace cv:=cv.bW jY fI;have al:=bQ.aG;have bF:=er.aG
 clear fC ih fI MT
 refine Ah (uH _ _ ?_)
 refine BB ?_
 refine wpQuiet_nil ?_
 refine wpQuiet_nil ?_
 have fC:=ch.cA bQ;have ih:=cm.cA bQ;have fI:=cv.cA bQ;have CB:=bQ.frozen 0;have CC:=bQ.frozen 1;have CD:=bQ.frozen 2;have CE:=bQ.frozen 3;have CF:=bQ.frozen 4;have ahB:=bQ.frozen 5;have ahC:=bQ.frozen 6;have ahD:=bQ.frozen 7
 go_wp2
 clear al bF
 refine iK 0 fun IG kO=>?_
 replace I:=kO.aE I;replace bQ:=kO.jg bQ;replace ch:=ch.bW kO fC;replace cm:=cm.bW kO ih;replace cv:=cv.bW kO fI;have al:=bQ.aG
 refine bodyPost_ret (v:= .tuple #[.agg #[.slice cq rs d0,.slice g1 j d1,af,ae,(0:Int),.slice none 0 0,.slice none 0 0,.slice Y (os.length + 1) gT],true]) (by simp [results,Tryz.results253,go_sem,al]) rfl ?_
 exact aaM
open Go.RowKit Go.G9
def ht (o:Option cz) (w:World) (e:Ending) (ag:World):Prop:=match o with
 | some n=>∃cq d0 cK d1 bg d2 bn d3 ct d4,e= .returned (.tuple #[.agg #[.slice cq n.br.length d0,.slice cK n.bD.length d1,.int .i64 n.cZ,.int .i64 n.cQ,.int .i64 n.dH,.slice bg n.bE.length d2,.slice bn n.bK.length d3,.slice ct n.bt.length d4],.bool true])∧gA w.heap.size ag cq d0 cK d1 bg d2 bn d3 ct d4 n.br n.bD n.bE n.bK n.bt∧Below w.heap.size w ag
 | none=>e= .returned (.tuple #[.agg #[.slice none 0 0,.slice none 0 0,.int .i64 0,.int .i64 0,.int .i64 0,.slice none 0 0,.slice none 0 0,.slice none 0 0],.bool false])∧Below w.heap.size w ag
theorem alp (an:Option Addr) (c0:Nat) (rs:List aJ) (h0:rs.length≤1048576) (ga:rs.length≤c0) (ar:Option Addr) (c1:Nat) (qs:List aL) (h1:qs.length≤1048576) (aR:ar= none→qs= []∧c1= 0) (id mem:Int) (ps:List aL) (aw:jO rs qs id mem= some ps) (w:World) (aU:aH 7 aJ.cells w an rs) (aT:aH 3 aL.cells w ar qs):Calls Tryz.prog 254 #[.slice an rs c0,.slice ar qs c1,id,mem] w fun e ag=>∃A c,e= .returned (.tuple #[.slice A ps c,true])∧aV w 115 3 aL.cells ag (.slice A ps c) ps∧Below w w ag:=by
 have h:=WA an c0 rs h0 ga ar c1 qs h1 aR id mem w aU aT
 rw [aw] at h
 exact h
theorem alo (an:Option Addr) (c0:Nat) (rs:List aJ) (h0:rs.length≤1048576) (ga:rs.length≤c0) (ar:Option Addr) (c1:Nat) (qs:List aL) (h1:qs.length≤1048576) (aR:ar= none→qs= []∧c1= 0) (id mem:Int) (aw:jO rs qs id mem= none) (w:World) (aU:aH 7 aJ.cells w an rs) (aT:aH 3 aL.cells w ar qs):Calls Tryz.prog 254 #[.slice an rs c0,.slice ar qs c1,id,mem] w fun e ag=>∃A c,e= .returned (.tuple #[.slice A 0 c,false])∧Below w w ag:=by
 have h:=WA an c0 rs h0 ga ar c1 qs h1 aR id mem w aU aT
 rw [aw] at h
 exact h.mono fun e ag ⟨A,c,he,_,aB⟩=>⟨A,c,he,aB⟩
theorem Ze (an:Option Addr) (c0:Nat) (rs:List aJ) (h0:rs.length≤1048576) (ar:Option Addr) (c1:Nat) (qs:List aL) (h1:qs.length≤1048576) (aR:ar= none→qs= []∧c1= 0) (id mem:Int) (ps:List aL) (aw:jO rs qs id mem= some ps) (w:World) (aU:aH 7 aJ.cells w an rs) (aT:aH 3 aL.cells w ar qs):Calls Tryz.prog 230 #[.slice an rs c0,.slice ar qs c1,id,mem] w fun e ag=>∃A c,e= .returned (.tuple #[.slice A ps c,true])∧aV w 115 3 aL.cells ag (.slice A ps c) ps∧Below w w ag:=by
 have h:=Zf an c0 rs h0 ar c1 qs h1 aR id mem w aU aT
 rw [aw] at h
 exact h
theorem apU (an:Option Addr) (c0:Nat) (rs:List aJ) (h0:rs.length≤1048576) (ar:Option Addr) (c1:Nat) (qs:List aL) (h1:qs.length≤1048576) (aR:ar= none→qs= []∧c1= 0) (id mem:Int) (aw:jO rs qs id mem= none) (w:World) (aU:aH 7 aJ.cells w an rs) (aT:aH 3 aL.cells w ar qs):Calls Tryz.prog 230 #[.slice an rs c0,.slice ar qs c1,id,mem] w fun e ag=>∃A c,e= .returned (.tuple #[.slice A 0 c,false])∧Below w w ag:=by
 have h:=Zf an c0 rs h0 ar c1 qs h1 aR id mem w aU aT
 rw [aw] at h
 exact h.mono fun e ag ⟨A,c,he,_,aB⟩=>⟨A,c,he,aB⟩
theorem alE (an:Option Addr) (c0:Nat) (rs:List aJ) (h0:rs.length≤1048576) (ga:rs.length≤c0) (ar:Option Addr) (c1:Nat) (qs:List aL) (h1:qs.length≤1048576) (hT:qs.length≤c1) (mem:Int) (ps:List aL) (aw:kz rs qs mem= some ps) (w:World) (aU:aH 7 aJ.cells w an rs) (aT:aH 3 aL.cells w ar qs):Calls Tryz.prog 255 #[.slice an rs c0,.slice ar qs c1,mem] w fun e ag=>∃A c,e= .returned (.tuple #[.slice A ps c,true])∧aV w 115 3 aL.cells ag (.slice A ps c) ps∧Below w w ag:=by
 have h:=WD an c0 rs h0 ga ar c1 qs h1 hT mem w aU aT
 rw [aw] at h
 exact h
theorem alD (an:Option Addr) (c0:Nat) (rs:List aJ) (h0:rs.length≤1048576) (ga:rs.length≤c0) (ar:Option Addr) (c1:Nat) (qs:List aL) (h1:qs.length≤1048576) (hT:qs.length≤c1) (mem:Int) (aw:kz rs qs mem= none) (w:World) (aU:aH 7 aJ.cells w an rs) (aT:aH 3 aL.cells w ar qs):Calls Tryz.prog 255 #[.slice an rs c0,.slice ar qs c1,mem] w fun e ag=>∃A c,e= .returned (.tuple #[.slice A 0 c,false])∧Below w w ag:=by
 have h:=WD an c0 rs h0 ga ar c1 qs h1 hT mem w aU aT
 rw [aw] at h
 exact h.mono fun e ag ⟨A,c,he,_,aB⟩=>⟨A,c,he,aB⟩
theorem Zh (an:Option Addr) (c0:Nat) (rs:List aJ) (h0:rs.length≤1048576) (ar:Option Addr) (c1:Nat) (qs:List aL) (h1:qs.length≤1048576) (hT:qs.length≤c1) (mem:Int) (ps:List aL) (aw:kz rs qs mem= some ps) (w:World) (aU:aH 7 aJ.cells w an rs) (aT:aH 3 aL.cells w ar qs):Calls Tryz.prog 233 #[.slice an rs c0,.slice ar qs c1,mem] w fun e ag=>∃A c,e= .returned (.tuple #[.slice A ps c,true])∧aV w 115 3 aL.cells ag (.slice A ps c) ps∧Below w w ag:=by
 have h:=Zi an c0 rs h0 ar c1 qs h1 hT mem w aU aT
 rw [aw] at h
 exact h
theorem aqi (an:Option Addr) (c0:Nat) (rs:List aJ) (h0:rs.length≤1048576) (ar:Option Addr) (c1:Nat) (qs:List aL) (h1:qs.length≤1048576) (hT:qs.length≤c1) (mem:Int) (aw:kz rs qs mem= none) (w:World) (aU:aH 7 aJ.cells w an rs) (aT:aH 3 aL.cells w ar qs):Calls Tryz.prog 233 #[.slice an rs c0,.slice ar qs c1,mem] w fun e ag=>∃A c,e= .returned (.tuple #[.slice A 0 c,false])∧Below w w ag:=by
 have h:=Zi an c0 rs h0 ar c1 qs h1 hT mem w aU aT
 rw [aw] at h
 exact h.mono fun e ag ⟨A,c,he,_,aB⟩=>⟨A,c,he,aB⟩
theorem alw (an:Option Addr) (c0:Nat) (rs:List aJ) (h0:rs.length≤1048576) (ga:rs.length≤c0) (ar:Option Addr) (c1:Nat) (qs:List aL) (h1:qs.length≤1048576) (aR:ar= none→qs= []∧c1= 0) (mem:Int) (ps:List aL) (aw:jX rs qs mem= some ps) (w:World) (aU:aH 7 aJ.cells w an rs) (aT:aH 3 aL.cells w ar qs):Calls Tryz.prog 180 #[.slice an rs c0,.slice ar qs c1,mem] w fun e ag=>∃A c,e= .returned (.tuple #[.slice A ps c,true])∧aV w 115 3 aL.cells ag (.slice A ps c) ps∧Below w w ag:=by
 have h:=WC an c0 rs h0 ga ar c1 qs h1 aR mem w aU aT
 rw [aw] at h
 exact h
theorem alv (an:Option Addr) (c0:Nat) (rs:List aJ) (h0:rs.length≤1048576) (ga:rs.length≤c0) (ar:Option Addr) (c1:Nat) (qs:List aL) (h1:qs.length≤1048576) (aR:ar= none→qs= []∧c1= 0) (mem:Int) (aw:jX rs qs mem= none) (w:World) (aU:aH 7 aJ.cells w an rs) (aT:aH 3 aL.cells w ar qs):Calls Tryz.prog 180 #[.slice an rs c0,.slice ar qs c1,mem] w fun e ag=>∃A c,e= .returned (.tuple #[.slice A 0 c,false])∧Below w w ag:=by
 have h:=WC an c0 rs h0 ga ar c1 qs h1 aR mem w aU aT
 rw [aw] at h
 exact h.mono fun e ag ⟨A,c,he,_,aB⟩=>⟨A,c,he,aB⟩
theorem aqa (an:Option Addr) (c0:Nat) (rs:List aJ) (h0:rs.length≤1048576) (ar:Option Addr) (c1:Nat) (qs:List aL) (h1:qs.length≤1048576) (aR:ar= none→qs= []∧c1= 0) (mem:Int) (ps:List aL) (aw:jX rs qs mem= some ps) (w:World) (aU:aH 7 aJ.cells w an rs) (aT:aH 3 aL.cells w ar qs):Calls Tryz.prog 231 #[.slice an rs c0,.slice ar qs c1,mem] w fun e ag=>∃A c,e= .returned (.tuple #[.slice A ps c,true])∧aV w 115 3 aL.cells ag (.slice A ps c) ps∧Below w w ag:=by
 have h:=Zg an c0 rs h0 ar c1 qs h1 aR mem w aU aT
 rw [aw] at h
 exact h
theorem apZ (an:Option Addr) (c0:Nat) (rs:List aJ) (h0:rs.length≤1048576) (ar:Option Addr) (c1:Nat) (qs:List aL) (h1:qs.length≤1048576) (aR:ar= none→qs= []∧c1= 0) (mem:Int) (aw:jX rs qs mem= none) (w:World) (aU:aH 7 aJ.cells w an rs) (aT:aH 3 aL.cells w ar qs):Calls Tryz.prog 231 #[.slice an rs c0,.slice ar qs c1,mem] w fun e ag=>∃A c,e= .returned (.tuple #[.slice A 0 c,false])∧Below w w ag:=by
 have h:=Zg an c0 rs h0 ar c1 qs h1 aR mem w aU aT
 rw [aw] at h
 exact h.mono fun e ag ⟨A,c,he,_,aB⟩=>⟨A,c,he,aB⟩
theorem Wy (an:Option Addr) (c0:Nat) (rs:List aJ) (h0:rs.length≤1048576) (ga:rs.length≤c0) (ar:Option Addr) (c1:Nat) (qs:List aL) (h1:qs.length≤1048576) (aR:ar= none→qs= []∧c1= 0) (ps:List aL) (aw:lI rs qs= some ps) (w:World) (aU:aH 7 aJ.cells w an rs) (aT:aH 3 aL.cells w ar qs):Calls Tryz.prog 256 #[.slice an rs c0,.slice ar qs c1] w fun e ag=>∃A c,e= .returned (.tuple #[.slice A ps c,true])∧aV w 115 3 aL.cells ag (.slice A ps c) ps∧Below w w ag:=by
 have h:=akG an c0 rs h0 ga ar c1 qs h1 aR w aU aT
 rw [aw] at h
 exact h
theorem YX (an:Option Addr) (c0:Nat) (rs:List aJ) (h0:rs.length≤1048576) (ar:Option Addr) (c1:Nat) (qs:List aL) (h1:qs.length≤1048576) (aR:ar= none→qs= []∧c1= 0) (hT:qs.length≤c1) (ps:List aL) (aw:lI rs qs= some ps) (w:World) (aU:aH 7 aJ.cells w an rs) (aT:aH 3 aL.cells w ar qs):Calls Tryz.prog 234 #[.slice an rs c0,.slice ar qs c1] w fun e ag=>∃A c,e= .returned (.tuple #[.slice A ps c,true])∧aV w 115 3 aL.cells ag (.slice A ps c) ps∧Below w w ag:=by
 have h:=apr an c0 rs h0 ar c1 qs h1 aR hT w aU aT
 rw [aw] at h
 exact h
theorem alC (an ar aj ak aA:Option Addr) (c0 c1 c2 c3 c4:Nat) (rs:List aJ) (qs:List aL) (af ae sp:Int) (ws:List Int) (U:List aI) (os:List Out) (Z:eC an ar aj ak aA c0 c1 c2 c3 c4 rs qs ws U os) (mem val:Int) (yes no bx:Int) (n:cz) (aw:pw ⟨rs,qs,af,ae,sp,ws,U,os⟩ ⟨7,mem,val,yes,no,bx⟩ =some n) (aO:dD rs qs= true) (cY:os.length≤12) (w:World) (R:ea w an ar aj ak aA rs qs ws U os):
 Calls Tryz.prog 253 #[.agg #[.slice an rs c0,.slice ar qs c1,af,ae,sp,.slice aj ws c2,.slice ak U c3,.slice aA os c4],.agg #[yes,no,bx]] w fun e ag=>∃cq d0 cK d1 bg d2 bn d3 ct d4,e= .returned (.tuple #[.agg #[.slice cq n.br d0,.slice cK n.bD d1,n.cZ,n.cQ,n.dH,.slice bg n.bE d2,.slice bn n.bK d3,.slice ct n.bt d4],true])∧gA w ag cq d0 cK d1 bg d2 bn d3 ct d4 n.br n.bD n.bE n.bK n.bt∧Below w w ag:=by
 obtain⟨ps,⟨qr,cg,dw⟩,bO,cE,h12,rfl⟩:=KK aw
 dsimp only at bO cE h12
 unfold rC at bO
 split at bO
 ·rename_i q aZ
  split at bO
  ·rename_i aE
   cases bO
   simp only [Bool.and_eq_true,Bool.not_eq_true'] at aE
   have aS:=(List.getElem?_eq_some_iff.1 aZ).1
   exact alB an ar aj ak aA c0 c1 c2 c3 c4 rs qs af ae sp ws U os Z yes no bx (qs.length - 1) (by omega) qr cg dw aZ aE.1 aE.2 cE (by omega) w R
  ·cases bO
 ·cases bO
theorem aqh (an ar aj ak aA:Option Addr) (c0 c1 c2 c3 c4:Nat) (rs:List aJ) (qs:List aL) (af ae sp:Int) (ws:List Int) (U:List aI) (os:List Out) (Z:eC an ar aj ak aA c0 c1 c2 c3 c4 rs qs ws U os) (mem val:Int) (yes no bx:Int) (aX:(sp != 0)= false) (n:cz) (aw:pw ⟨rs,qs,af,ae,sp,ws,U,os⟩ ⟨7,mem,val,yes,no,bx⟩ =some n) (aO:dD rs qs= true) (cY:os.length≤12) (w:World) (R:ea w an ar aj ak aA rs qs ws U os):
 Calls Tryz.prog 232 #[.agg #[.slice an rs c0,.slice ar qs c1,af,ae,sp,.slice aj ws c2,.slice ak U c3,.slice aA os c4],.agg #[yes,no,bx]] w fun e ag=>∃cq d0 cK d1 bg d2 bn d3 ct d4,e= .returned (.tuple #[.agg #[.slice cq n.br d0,.slice cK n.bD d1,n.cZ,n.cQ,n.dH,.slice bg n.bE d2,.slice bn n.bK d3,.slice ct n.bt d4],true])∧gA w ag cq d0 cK d1 bg d2 bn d3 ct d4 n.br n.bD n.bE n.bK n.bt∧Below w w ag:=by
 obtain⟨ps,⟨qr,cg,dw⟩,bO,cE,h12,rfl⟩:=KK aw
 dsimp only at bO cE h12
 unfold rC at bO
 split at bO
 ·rename_i q aZ
  split at bO
  ·rename_i aE
   cases bO
   simp only [Bool.and_eq_true,Bool.not_eq_true'] at aE
   have aS:=(List.getElem?_eq_some_iff.1 aZ).1
   exact aqg an ar aj ak aA c0 c1 c2 c3 c4 rs qs af ae sp ws U os Z yes no bx aX (qs.length - 1) (by omega) qr cg dw aZ aE.1 aE.2 cE (by omega) w R
  ·cases bO
 ·cases bO
open Go.RowKit Go.G9
theorem acY {p:Prop} (h:p:=by
 have ep:=ad.jh
 go_wp2
 clear aD al
 refine iK 0 fun cS aC=>?_
 replace I:=aC.aE I;replace ad:=aC.jg ad;have al:=ad.aG
 refine bodyPost_ret (v:= .tuple #[.agg #[.slice none 0 0,.slice none 0 0,(0:Int),(0:Int),(0:Int),.slice none 0 0,.slice none 0 0,.slice none 0 0],false]) (by simp [results,Tryz.results178,go_sem,al]) rfl ?_
 exact⟨rfl,I⟩):p:=h
theorem JI (an ar aj ak aA:Option Addr) (c0 c1 c2 c3 c4:Nat) (rs:List aJ) (qs:List aL) (af ae sp:Int) (ws:List Int) (U:List aI) (os:List Out) (Z:eC an ar aj ak aA c0 c1 c2 c3 c4 rs qs ws U os) (kind mem val yes no bx:Int) (aX:(sp != 0)= true) (w:World) (R:ea w an ar aj ak aA rs qs ws U os):
 Calls Tryz.prog 178 #[.agg #[.slice an rs c0,.slice ar qs c1,af,ae,sp,.slice aj ws c2,.slice ak U c3,.slice aA os c4],.agg #[kind,mem,val,yes,no,bx]] w (ht none w):=by
 clear R Z
 go_in
 go_upto_region 1 with fail
 refine fr fun aF au ai aR ad=>?_
 have I:=au;have aD:=ai.aG;have al:=ad.aG
 exact acY
theorem QO {p:Prop} (h:p:=by
 rintro e aM ⟨oY,pn,rfl,fz,aN⟩
 have ao:=be aF aN;replace I:=ah I ao;replace ai:=ai.to ao;clear aD;have aD:=ai.aG;clear a';replace ad:=ad.to ao;clear al;have al:=ad.aG;have vt:=I.size
 go_wp2_with fail
 refine (aam an ar aj ak aA c0 c1 c2 c3 c4 rs qs af ae sp ws U os bf.out oY ps.length pn _ (bJ.out.below (ah I av))).mono ?_
 rintro e bB ⟨cq,d0,ct,d4,rfl,ch,cv,bG⟩
 have aK:=be aM bG;replace I:=ah I aK;replace fz:=fz.later aK;clear aD;replace ad:=ad.to aK;clear al;have al:=ad.aG;have fC:=ch.cA ad;have sK:=fz.cA ad;have fI:=cv.cA ad;have ep:=ad.jh
 go_wp2
 clear al
 refine iK 0 fun cS aC=>?_
 replace I:=aC.aE I;replace ad:=aC.jg ad;replace fz:=fz.bW aC sK;replace ch:=ch.bW aC fC;replace cv:=cv.bW aC fI;have al:=ad.aG
 refine bodyPost_ret (v:= .tuple #[.agg #[.slice cq rs d0,.slice oY ps pn,af,ae,(0:Int),.slice none 0 0,.slice none 0 0,.slice ct os d4],true]) (by simp [results,Tryz.results178,go_sem,al]) rfl ?_
 exact⟨cq,d0,oY,pn,none,0,none,0,ct,d4,rfl,⟨ch.base (by omega),fz.base (by omega),aV.nil,aV.nil,cv.base (by omega)⟩,I⟩):p:=h
theorem aky (an ar aj ak aA:Option Addr) (c0 c1 c2 c3 c4:Nat) (rs:List aJ) (qs:List aL) (af ae sp:Int) (ws:List Int) (U:List aI) (os:List Out) (Z:eC an ar aj ak aA c0 c1 c2 c3 c4 rs qs ws U os) (mem val yes no bx:Int) (ps:List aL) (aw:jO rs qs val mem= some ps) (aX:(sp != 0)= false) (w:World) (R:ea w an ar aj ak aA rs qs ws U os):
 Calls Tryz.prog 178 #[.agg #[.slice an rs c0,.slice ar qs c1,af,ae,sp,.slice aj ws c2,.slice ak U c3,.slice aA os c4],.agg #[(1:Int),mem,val,yes,no,bx]] w (ht (some ⟨rs,ps,af,ae,0,[],[],os⟩) w):=by
 have bJ:=J R;have bf:=J Z;clear R Z;have bC:=J aw;clear aw
 go_in
 go_upto_region 1 with fail
 refine fr fun aF au ai aR ad=>?_
 have I:=au;have aD:=ai.aG;have a':=aR.da;have al:=ad.aG;have gy:=ad.lt
 go_wp2_with fail
 refine (alp an c0 rs bf.out.h0 bf.out.dY ar c1 qs bf.out.h1 bf.out.n1 val mem ps bC.out _ (bJ.out.fF.below (ah I av)) (bJ.out.dJ.below (ah I av))).mono ?_
 exact QO
theorem acJ {p:Prop} (h:p:=by
 rintro e aM ⟨oY,pn,rfl,aN⟩
 have ao:=be aF aN;replace I:=ah I ao;clear aD;clear a';replace ad:=ad.to ao;clear al;have al:=ad.aG;have ep:=ad.jh
 go_wp2
 clear al
 refine iK 0 fun cS aC=>?_
 replace I:=aC.aE I;replace ad:=aC.jg ad;have al:=ad.aG
 refine bodyPost_ret (v:= .tuple #[.agg #[.slice none 0 0,.slice none 0 0,(0:Int),(0:Int),(0:Int),.slice none 0 0,.slice none 0 0,.slice none 0 0],false]) (by simp [results,Tryz.results178,go_sem,al]) rfl ?_
 exact⟨rfl,I⟩):p:=h
theorem akx (an ar aj ak aA:Option Addr) (c0 c1 c2 c3 c4:Nat) (rs:List aJ) (qs:List aL) (af ae sp:Int) (ws:List Int) (U:List aI) (os:List Out) (Z:eC an ar aj ak aA c0 c1 c2 c3 c4 rs qs ws U os) (mem val yes no bx:Int) (aw:jO rs qs val mem= none) (aX:(sp != 0)= false) (w:World) (R:ea w an ar aj ak aA rs qs ws U os):
 Calls Tryz.prog 178 #[.agg #[.slice an rs c0,.slice ar qs c1,af,ae,sp,.slice aj ws c2,.slice ak U c3,.slice aA os c4],.agg #[(1:Int),mem,val,yes,no,bx]] w (ht none w):=by
 have bJ:=J R;have bf:=J Z;clear R Z;have bC:=J aw;clear aw
 go_in
 go_upto_region 1 with fail
 refine fr fun aF au ai aR ad=>?_
 have I:=au;have aD:=ai.aG;have a':=aR.da;have al:=ad.aG
 go_wp2_with fail
 refine (alo an c0 rs bf.out.h0 bf.out.dY ar c1 qs bf.out.h1 bf.out.n1 val mem bC.out _ (bJ.out.fF.below (ah I av)) (bJ.out.dJ.below (ah I av))).mono ?_
 exact acJ
theorem akC (an ar aj ak aA:Option Addr) (c0 c1 c2 c3 c4:Nat) (rs:List aJ) (qs:List aL) (af ae sp:Int) (ws:List Int) (U:List aI) (os:List Out) (Z:eC an ar aj ak aA c0 c1 c2 c3 c4 rs qs ws U os) (mem val yes no bx:Int) (ps:List aL) (aw:kz rs qs mem= some ps) (aX:(sp != 0)= false) (w:World) (R:ea w an ar aj ak aA rs qs ws U os):
 Calls Tryz.prog 178 #[.agg #[.slice an rs c0,.slice ar qs c1,af,ae,sp,.slice aj ws c2,.slice ak U c3,.slice aA os c4],.agg #[(8:Int),mem,val,yes,no,bx]] w (ht (some ⟨rs,ps,af,ae,0,[],[],os⟩) w):=by
 have bJ:=J R;have bf:=J Z;clear R Z;have bC:=J aw;clear aw
 go_in
 go_upto_region 1 with fail
 refine fr fun aF au ai aR ad=>?_
 have I:=au;have aD:=ai.aG;have a':=aR.da;have al:=ad.aG;have gy:=ad.lt
 go_wp2_with fail
 refine (alE an c0 rs bf.out.h0 bf.out.dY ar c1 qs bf.out.h1 bf.out.eB mem ps bC.out _ (bJ.out.fF.below (ah I av)) (bJ.out.dJ.below (ah I av))).mono ?_
 exact QO
theorem akB (an ar aj ak aA:Option Addr) (c0 c1 c2 c3 c4:Nat) (rs:List aJ) (qs:List aL) (af ae sp:Int) (ws:List Int) (U:List aI) (os:List Out) (Z:eC an ar aj ak aA c0 c1 c2 c3 c4 rs qs ws U os) (mem val yes no bx:Int) (aw:kz rs qs mem= none) (aX:(sp != 0)= false) (w:World) (R:ea w an ar aj ak aA rs qs ws U os):
 Calls Tryz.prog 178 #[.agg #[.slice an rs c0,.slice ar qs c1,af,ae,sp,.slice aj ws c2,.slice ak U c3,.slice aA os c4],.agg #[(8:Int),mem,val,yes,no,bx]] w (ht none w):=by
 have bJ:=J R;have bf:=J Z;clear R Z;have bC:=J aw;clear aw
 go_in
 go_upto_region 1 with fail
 refine fr fun aF au ai aR ad=>?_
 have I:=au;have aD:=ai.aG;have a':=aR.da;have al:=ad.aG
 go_wp2_with fail
 refine (alD an c0 rs bf.out.h0 bf.out.dY ar c1 qs bf.out.h1 bf.out.eB mem bC.out _ (bJ.out.fF.below (ah I av)) (bJ.out.dJ.below (ah I av))).mono ?_
 exact acJ
theorem akE (an ar aj ak aA:Option Addr) (c0 c1 c2 c3 c4:Nat) (rs:List aJ) (qs:List aL) (af ae sp:Int) (ws:List Int) (U:List aI) (os:List Out) (Z:eC an ar aj ak aA c0 c1 c2 c3 c4 rs qs ws U os) (mem val yes no bx:Int) (ps:List aL) (aw:lI rs qs= some ps) (aX:(sp != 0)= false) (aS:ps.length < qs.length) (w:World) (R:ea w an ar aj ak aA rs qs ws U os):
 Calls Tryz.prog 178 #[.agg #[.slice an rs c0,.slice ar qs c1,af,ae,sp,.slice aj ws c2,.slice ak U c3,.slice aA os c4],.agg #[(9:Int),mem,val,yes,no,bx]] w (ht (some ⟨rs,ps,af,ae,0,[],[],os⟩) w):=by
 have bJ:=J R;have bf:=J Z;clear R Z;have bC:=J aw;clear aw
 go_in
 go_upto_region 1 with fail
 refine fr fun aF au ai aR ad=>?_
 have I:=au;have aD:=ai.aG;have a':=aR.da;have al:=ad.aG;have gy:=ad.lt
 go_wp2_with fail
 refine (Wy an c0 rs bf.out.h0 bf.out.dY ar c1 qs bf.out.h1 bf.out.n1 ps bC.out _ (bJ.out.fF.below (ah I av)) (bJ.out.dJ.below (ah I av))).mono ?_
 exact QO
theorem akD (an ar aj ak aA:Option Addr) (c0 c1 c2 c3 c4:Nat) (rs:List aJ) (qs:List aL) (af ae sp:Int) (ws:List Int) (U:List aI) (os:List Out) (Z:eC an ar aj ak aA c0 c1 c2 c3 c4 rs qs ws U os) (mem val yes no bx:Int) (ps:List aL) (aw:lI rs qs= some ps) (aX:(sp != 0)= false) (aS:¬ps.length < qs.length) (w:World) (R:ea w an ar aj ak aA rs qs ws U os):
 Calls Tryz.prog 178 #[.agg #[.slice an rs c0,.slice ar qs c1,af,ae,sp,.slice aj ws c2,.slice ak U c3,.slice aA os c4],.agg #[(9:Int),mem,val,yes,no,bx]] w (ht none w):=by
 have bJ:=J R;have bf:=J Z;clear R Z;have bC:=J aw;clear aw
 go_in
 go_upto_region 1 with fail
 refine fr fun aF au ai aR ad=>?_
 have I:=au;have aD:=ai.aG;have a':=aR.da;have al:=ad.aG
 go_wp2_with fail
 refine (Wy an c0 rs bf.out.h0 bf.out.dY ar c1 qs bf.out.h1 bf.out.n1 ps bC.out _ (bJ.out.fF.below (ah I av)) (bJ.out.dJ.below (ah I av))).mono ?_
 rintro e aM ⟨oY,pn,rfl,fz,aN⟩
 have ao:=be aF aN;replace I:=ah I ao;replace ai:=ai.to ao;clear aD;have aD:=ai.aG;clear a';replace ad:=ad.to ao;clear al;have al:=ad.aG;clear fz
 exact acY
theorem akA (an ar aj ak aA:Option Addr) (c0 c1 c2 c3 c4:Nat) (rs:List aJ) (qs:List aL) (af ae sp:Int) (ws:List Int) (U:List aI) (os:List Out) (Z:eC an ar aj ak aA c0 c1 c2 c3 c4 rs qs ws U os) (mem val yes no bx:Int) (aX:(sp != 0)= false) (n:cz) (aw:pw ⟨rs,qs,af,ae,sp,ws,U,os⟩ ⟨7,mem,val,yes,no,bx⟩ =some n) (aO:dD rs qs= true) (cY:os.length≤12) (w:World) (R:ea w an ar aj ak aA rs qs ws U os):
 Calls Tryz.prog 178 #[.agg #[.slice an rs c0,.slice ar qs c1,af,ae,sp,.slice aj ws c2,.slice ak U c3,.slice aA os c4],.agg #[(7:Int),mem,val,yes,no,bx]] w (ht (some n) w):=by
 have bJ:=J R;have bf:=J Z;clear R Z;have bC:=J aw;clear aw
 go_in
 go_upto_region 1 with fail
 refine fr fun aF au ai aR ad=>?_
 have I:=au;have aD:=ai.aG;have a':=aR.da;have al:=ad.aG;have gy:=ad.lt
 go_wp2_with fail
 refine (alC an ar aj ak aA c0 c1 c2 c3 c4 rs qs af ae sp ws U os bf.out mem val yes no bx n bC.out aO cY _ (bJ.out.below (ah I av))).mono ?_
 rintro e aM ⟨cq,d0,cK,d1,bg,d2,bn,d3,ct,d4,rfl,ds,aN⟩
 have ao:=be aF aN;replace I:=ah I ao;clear aD;clear a';replace ad:=ad.to ao;clear al;have al:=ad.aG;have ch:=ds.kJ;have cm:=ds.hU;have bA:=ds.fk;have bq:=ds.fJ;have cv:=ds.mc;clear ds;have fC:=ch.cA ad;have ih:=cm.cA ad;have ej:=bA.cA ad;have dK:=bq.cA ad;have fI:=cv.cA ad;have ep:=ad.jh
 go_wp2
 clear al
 refine iK 0 fun cS aC=>?_
 replace I:=aC.aE I;replace ad:=aC.jg ad;replace ch:=ch.bW aC fC;replace cm:=cm.bW aC ih;replace bA:=bA.bW aC ej;replace bq:=bq.bW aC dK;replace cv:=cv.bW aC fI;have al:=ad.aG
 refine bodyPost_ret (v:= .tuple #[.agg #[.slice cq n.br d0,.slice cK n.bD d1,n.cZ,n.cQ,n.dH,.slice bg n.bE d2,.slice bn n.bK d3,.slice ct n.bt d4],true]) (by simp [results,Tryz.results178,go_sem,al]) rfl ?_
 exact⟨cq,d0,cK,d1,bg,d2,bn,d3,ct,d4,rfl,⟨ch.base (by omega),cm.base (by omega),bA.base (by omega),bq.base (by omega),cv.base (by omega)⟩,I⟩
theorem akz (an ar aj ak aA:Option Addr) (c0 c1 c2 c3 c4:Nat) (rs:List aJ) (qs:List aL) (af ae sp:Int) (ws:List Int) (U:List aI) (os:List Out) (Z:eC an ar aj ak aA c0 c1 c2 c3 c4 rs qs ws U os) (mem val yes no bx:Int) (aX:(sp != 0)= false) (aw:pw ⟨rs,qs,af,ae,sp,ws,U,os⟩ ⟨7,mem,val,yes,no,bx⟩ =none) (w:World) (R:ea w an ar aj ak aA rs qs ws U os):
 Calls Tryz.prog 178 #[.agg #[.slice an rs c0,.slice ar qs c1,af,ae,sp,.slice aj ws c2,.slice ak U c3,.slice aA os c4],.agg #[(7:Int),mem,val,yes,no,bx]] w (ht none w):=by
 have bJ:=J R;have bf:=J Z;clear R Z;have bC:=J aw;clear aw
 go_in
 go_upto_region 1 with fail
 refine fr fun aF au ai aR ad=>?_
 have I:=au;have aD:=ai.aG;have a':=aR.da;have al:=ad.aG
 go_wp2_with fail
 refine (alA an ar aj ak aA c0 c1 c2 c3 c4 rs qs af ae sp ws U os bf.out mem val yes no bx bC.out _ (bJ.out.below (ah I av))).mono ?_
 rintro e aM ⟨rfl,aN⟩
 have ao:=be aF aN;replace I:=ah I ao;clear aD;clear a';replace ad:=ad.to ao;clear al;have al:=ad.aG;have ep:=ad.jh
 go_wp2
 clear al
 refine iK 0 fun cS aC=>?_
 replace I:=aC.aE I;replace ad:=aC.jg ad;have al:=ad.aG
 refine bodyPost_ret (v:= .tuple #[.agg #[.slice none 0 0,.slice none 0 0,(0:Int),(0:Int),(0:Int),.slice none 0 0,.slice none 0 0,.slice none 0 0],false]) (by simp [results,Tryz.results178,go_sem,al]) rfl ?_
 exact⟨rfl,I⟩
open Go.RowKit Go.G9
theorem zK {p:Prop} (h:p:=by
 clear H R Z
 cases o with
 | none=>
  go_in
  go_upto_region 1 with fail
  refine fr fun aF au ai aR ad=>?_
  have I:=au;have aD:=ai.aG;have a':=aR.da;have al:=ad.aG
  go_wp2_with fail
  refine (mF.out _ (ah I av)).mono ?_
  rintro e aM ⟨rfl,aN⟩
  have ao:=be aF aN;replace I:=ah I ao;clear aD;clear a';replace ad:=ad.to ao;clear al;have al:=ad.aG;have ep:=ad.jh
  go_wp2
  clear al
  refine iK 0 fun cS aC=>?_
  replace I:=aC.aE I;replace ad:=aC.jg ad;have al:=ad.aG
  refine bodyPost_ret (v:= .tuple #[.agg #[.slice none 0 0,.slice none 0 0,(0:Int),(0:Int),(0:Int),.slice none 0 0,.slice none 0 0,.slice none 0 0],false]) (by simp [results,Tryz.results103,go_sem,al]) rfl ?_
  exact⟨rfl,I⟩
 | some n=>
  go_in
  go_upto_region 1 with fail
  refine fr fun aF au ai aR ad=>?_
  have I:=au;have aD:=ai.aG;have a':=aR.da;have al:=ad.aG;have gy:=ad.lt
  go_wp2_with fail
  refine (mF.out _ (ah I av)).mono ?_
  rintro e aM ⟨cq,d0,cK,d1,bg,d2,bn,d3,ct,d4,rfl,ds,aN⟩
  have ao:=be aF aN;replace I:=ah I ao;clear aD;clear a';replace ad:=ad.to ao;clear al;have al:=ad.aG;have ch:=ds.kJ;have cm:=ds.hU;have bA:=ds.fk;have bq:=ds.fJ;have cv:=ds.mc;clear ds;have fC:=ch.cA ad;have ih:=cm.cA ad;have ej:=bA.cA ad;have dK:=bq.cA ad;have fI:=cv.cA ad;have ep:=ad.jh
  go_wp2
  clear al
  refine iK 0 fun cS aC=>?_
  replace I:=aC.aE I;replace ad:=aC.jg ad;replace ch:=ch.bW aC fC;replace cm:=cm.bW aC ih;replace bA:=bA.bW aC ej;replace bq:=bq.bW aC dK;replace cv:=cv.bW aC fI;have al:=ad.aG
  refine bodyPost_ret (v:= .tuple #[.agg #[.slice cq n.br d0,.slice cK n.bD d1,n.cZ,n.cQ,n.dH,.slice bg n.bE d2,.slice bn n.bK d3,.slice ct n.bt d4],true]) (by simp [results,Tryz.results103,go_sem,al]) rfl ?_
  exact⟨cq,d0,cK,d1,bg,d2,bn,d3,ct,d4,rfl,⟨ch.base (by omega),cm.base (by omega),bA.base (by omega),bq.base (by omega),cv.base (by omega)⟩,I⟩):p:=h
theorem alb (an ar aj ak aA:Option Addr) (c0 c1 c2 c3 c4:Nat) (rs:List aJ) (qs:List aL) (af ae sp:Int) (ws:List Int) (U:List aI) (os:List Out) (Z:eC an ar aj ak aA c0 c1 c2 c3 c4 rs qs ws U os) (mem val yes no bx:Int) (o:Option cz) (w:World) (R:ea w an ar aj ak aA rs qs ws U os) (H:∀W,Below w w W→Calls Tryz.prog 178 #[.agg #[.slice an rs c0,.slice ar qs c1,af,ae,sp,.slice aj ws c2,.slice ak U c3,.slice aA os c4],.agg #[(1:Int),mem,val,yes,no,bx]] W (ht o W)):
 Calls Tryz.prog 103 #[.agg #[.slice an rs c0,.slice ar qs c1,af,ae,sp,.slice aj ws c2,.slice ak U c3,.slice aA os c4],.agg #[(1:Int),mem,val,yes,no,bx]] w (ht o w):=by
 have mF:=J H
 exact zK
theorem ali (an ar aj ak aA:Option Addr) (c0 c1 c2 c3 c4:Nat) (rs:List aJ) (qs:List aL) (af ae sp:Int) (ws:List Int) (U:List aI) (os:List Out) (Z:eC an ar aj ak aA c0 c1 c2 c3 c4 rs qs ws U os) (mem val yes no bx:Int) (o:Option cz) (w:World) (R:ea w an ar aj ak aA rs qs ws U os) (H:∀W,Below w w W→Calls Tryz.prog 178 #[.agg #[.slice an rs c0,.slice ar qs c1,af,ae,sp,.slice aj ws c2,.slice ak U c3,.slice aA os c4],.agg #[(7:Int),mem,val,yes,no,bx]] W (ht o W)):
 Calls Tryz.prog 103 #[.agg #[.slice an rs c0,.slice ar qs c1,af,ae,sp,.slice aj ws c2,.slice ak U c3,.slice aA os c4],.agg #[(7:Int),mem,val,yes,no,bx]] w (ht o w):=by
 have mF:=J H
 exact zK
theorem alj (an ar aj ak aA:Option Addr) (c0 c1 c2 c3 c4:Nat) (rs:List aJ) (qs:List aL) (af ae sp:Int) (ws:List Int) (U:List aI) (os:List Out) (Z:eC an ar aj ak aA c0 c1 c2 c3 c4 rs qs ws U os) (mem val yes no bx:Int) (o:Option cz) (w:World) (R:ea w an ar aj ak aA rs qs ws U os) (H:∀W,Below w w W→Calls Tryz.prog 178 #[.agg #[.slice an rs c0,.slice ar qs c1,af,ae,sp,.slice aj ws c2,.slice ak U c3,.slice aA os c4],.agg #[(8:Int),mem,val,yes,no,bx]] W (ht o W)):
 Calls Tryz.prog 103 #[.agg #[.slice an rs c0,.slice ar qs c1,af,ae,sp,.slice aj ws c2,.slice ak U c3,.slice aA os c4],.agg #[(8:Int),mem,val,yes,no,bx]] w (ht o w):=by
 have mF:=J H
 exact zK
theorem alk (an ar aj ak aA:Option Addr) (c0 c1 c2 c3 c4:Nat) (rs:List aJ) (qs:List aL) (af ae sp:Int) (ws:List Int) (U:List aI) (os:List Out) (Z:eC an ar aj ak aA c0 c1 c2 c3 c4 rs qs ws U os) (mem val yes no bx:Int) (o:Option cz) (w:World) (R:ea w an ar aj ak aA rs qs ws U os) (H:∀W,Below w w W→Calls Tryz.prog 178 #[.agg #[.slice an rs c0,.slice ar qs c1,af,ae,sp,.slice aj ws c2,.slice ak U c3,.slice aA os c4],.agg #[(9:Int),mem,val,yes,no,bx]] W (ht o W)):
 Calls Tryz.prog 103 #[.agg #[.slice an rs c0,.slice ar qs c1,af,ae,sp,.slice aj ws c2,.slice ak U c3,.slice aA os c4],.agg #[(9:Int),mem,val,yes,no,bx]] w (ht o w):=by
 have mF:=J H
 exact zK
theorem ale (an ar aj ak aA:Option Addr) (c0 c1 c2 c3 c4:Nat) (rs:List aJ) (qs:List aL) (af ae sp:Int) (ws:List Int) (U:List aI) (os:List Out) (Z:eC an ar aj ak aA c0 c1 c2 c3 c4 rs qs ws U os) (mem val yes no bx:Int) (o:Option cz) (w:World) (R:ea w an ar aj ak aA rs qs ws U os) (H:∀W,Below w w W→Calls Tryz.prog 179 #[.agg #[.slice an rs c0,.slice ar qs c1,af,ae,sp,.slice aj ws c2,.slice ak U c3,.slice aA os c4],.agg #[(3:Int),mem,val,yes,no,bx]] W (ht o W)):
 Calls Tryz.prog 103 #[.agg #[.slice an rs c0,.slice ar qs c1,af,ae,sp,.slice aj ws c2,.slice ak U c3,.slice aA os c4],.agg #[(3:Int),mem,val,yes,no,bx]] w (ht o w):=by
 have mF:=J H
 exact zK
theorem alf (an ar aj ak aA:Option Addr) (c0 c1 c2 c3 c4:Nat) (rs:List aJ) (qs:List aL) (af ae sp:Int) (ws:List Int) (U:List aI) (os:List Out) (Z:eC an ar aj ak aA c0 c1 c2 c3 c4 rs qs ws U os) (mem val yes no bx:Int) (o:Option cz) (w:World) (R:ea w an ar aj ak aA rs qs ws U os) (H:∀W,Below w w W→Calls Tryz.prog 179 #[.agg #[.slice an rs c0,.slice ar qs c1,af,ae,sp,.slice aj ws c2,.slice ak U c3,.slice aA os c4],.agg #[(4:Int),mem,val,yes,no,bx]] W (ht o W)):
 Calls Tryz.prog 103 #[.agg #[.slice an rs c0,.slice ar qs c1,af,ae,sp,.slice aj ws c2,.slice ak U c3,.slice aA os c4],.agg #[(4:Int),mem,val,yes,no,bx]] w (ht o w):=by
 have mF:=J H
 exact zK
theorem alg (an ar aj ak aA:Option Addr) (c0 c1 c2 c3 c4:Nat) (rs:List aJ) (qs:List aL) (af ae sp:Int) (ws:List Int) (U:List aI) (os:List Out) (Z:eC an ar aj ak aA c0 c1 c2 c3 c4 rs qs ws U os) (mem val yes no bx:Int) (o:Option cz) (w:World) (R:ea w an ar aj ak aA rs qs ws U os) (H:∀W,Below w w W→Calls Tryz.prog 179 #[.agg #[.slice an rs c0,.slice ar qs c1,af,ae,sp,.slice aj ws c2,.slice ak U c3,.slice aA os c4],.agg #[(5:Int),mem,val,yes,no,bx]] W (ht o W)):
 Calls Tryz.prog 103 #[.agg #[.slice an rs c0,.slice ar qs c1,af,ae,sp,.slice aj ws c2,.slice ak U c3,.slice aA os c4],.agg #[(5:Int),mem,val,yes,no,bx]] w (ht o w):=by
 have mF:=J H
 exact zK
theorem alh (an ar aj ak aA:Option Addr) (c0 c1 c2 c3 c4:Nat) (rs:List aJ) (qs:List aL) (af ae sp:Int) (ws:List Int) (U:List aI) (os:List Out) (Z:eC an ar aj ak aA c0 c1 c2 c3 c4 rs qs ws U os) (mem val yes no bx:Int) (o:Option cz) (w:World) (R:ea w an ar aj ak aA rs qs ws U os) (H:∀W,Below w w W→Calls Tryz.prog 179 #[.agg #[.slice an rs c0,.slice ar qs c1,af,ae,sp,.slice aj ws c2,.slice ak U c3,.slice aA os c4],.agg #[(6:Int),mem,val,yes,no,bx]] W (ht o W)):
 Calls Tryz.prog 103 #[.agg #[.slice an rs c0,.slice ar qs c1,af,ae,sp,.slice aj ws c2,.slice ak U c3,.slice aA os c4],.agg #[(6:Int),mem,val,yes,no,bx]] w (ht o w):=by
 have mF:=J H
 exact zK
theorem aba {p:Prop} (h:p:=by
 exact⟨cI,e0,oY,pn,de,e2,df,e3,cJ,e4,rfl,⟨ch.base (by omega),fz.base (by omega),bA.base (by omega),bq.base (by omega),cv.base (by omega)⟩,I⟩):p:=h
theorem ald (an ar aj ak aA:Option Addr) (c0 c1 c2 c3 c4:Nat) (rs:List aJ) (qs:List aL) (af ae sp:Int) (ws:List Int) (U:List aI) (os:List Out) (Z:eC an ar aj ak aA c0 c1 c2 c3 c4 rs qs ws U os) (mem val yes no bx:Int) (ps:List aL) (aw:jX rs qs mem= some ps) (w:World) (R:ea w an ar aj ak aA rs qs ws U os):
 Calls Tryz.prog 103 #[.agg #[.slice an rs c0,.slice ar qs c1,af,ae,sp,.slice aj ws c2,.slice ak U c3,.slice aA os c4],.agg #[(2:Int),mem,val,yes,no,bx]] w (ht (some ⟨rs,ps,af,ae,sp,ws,U,os⟩) w):=by
 have bJ:=J R;have bf:=J Z;clear R Z;have bC:=J aw;clear aw
 go_in
 go_upto_region 1 with fail
 refine fr fun aF au ai aR ad=>?_
 have I:=au;have aD:=ai.aG;have a':=aR.da;have al:=ad.aG;have gy:=ad.lt
 go_wp2_with fail
 refine (alw an c0 rs bf.out.h0 bf.out.dY ar c1 qs bf.out.h1 bf.out.n1 mem ps bC.out _ (bJ.out.fF.below (ah I av)) (bJ.out.dJ.below (ah I av))).mono ?_
 rintro e aM ⟨oY,pn,rfl,fz,aN⟩
 have ao:=be aF aN;replace I:=ah I ao;replace ai:=ai.to ao;clear aD;have aD:=ai.aG;clear a';replace ad:=ad.to ao;clear al;have al:=ad.aG;have aqH:=ao.size;have vt:=I.size
 go_wp2_with fail
 refine (Kg an ar aj ak aA c0 c1 c2 c3 c4 rs qs af ae sp ws U os bf.out _ (bJ.out.below (ah I av))).mono ?_
 rintro e bB ⟨cI,e0,cF,e1,de,e2,df,e3,cJ,e4,rfl,ds,bG⟩
 have aK:=be aM bG;replace I:=ah I aK;replace fz:=fz.later aK;clear aD;replace ad:=ad.to aK;clear al;have al:=ad.aG;have ZP:=aK.size;have KF:=I.size
 go_upto_region 17 with fail
 have lD:=ds.later (bZ bB (.cells #[.slice cI rs e0,.slice cF qs e1,af,ae,sp,.slice de ws e2,.slice df U e3,.slice cJ os e4] 44));clear ds;have bS:Below bB bB (World.alloc bB (.cells #[.slice cI rs e0,.slice cF qs e1,af,ae,sp,.slice de ws e2,.slice df U e3,.slice cJ os e4] 44)):=bZ bB _
 have aQ:aq (World.alloc bB (.cells #[.slice cI rs e0,.slice cF qs e1,af,ae,sp,.slice de ws e2,.slice df U e3,.slice cJ os e4] 44)) (bB.heap.size) 44 #[.slice cI rs e0,.slice cF qs e1,af,ae,sp,.slice de ws e2,.slice df U e3,.slice cJ os e4]:=by repeat (first | exact aq.new _ _ _ | exact aq.fu _ _ _ _ | exact aq.fx _ _ _ _ _ | exact aq.gb _ _ _ _ _ _ | refine aq.alloc ?_ _)
 replace fz:=fz.later bS
 generalize World.alloc bB (.cells #[.slice cI rs e0,.slice cF qs e1,af,ae,sp,.slice de ws e2,.slice df U e3,.slice cJ os e4] 44)= tS at *
 replace I:=ah I bS;have bF:=aQ.aG;clear al;replace ad:=ad.to bS;have al:=ad.aG;have ch:=lD.kJ;have bA:=lD.fk;have bq:=lD.fJ;have cv:=lD.mc;clear lD;have Aq:=aQ.frozen 1;have fC:=ch.cA aQ;have sK:=fz.cA aQ;have ej:=bA.cA aQ;have dK:=bq.cA aQ;have fI:=cv.cA aQ
 go_upto_region 18 with fail
 clear al bF
 refine kN 1 fun mo eN=>?_
 replace I:=eN.aE I;replace ad:=eN.dM ad;replace aQ:=eN.Hs aQ;replace fz:=fz.bW eN sK;replace ch:=ch.bW eN fC;replace bA:=bA.bW eN ej;replace bq:=bq.bW eN dK;replace cv:=cv.bW eN fI
 have al:=ad.aG;have bF:=aQ.aG;clear fC sK ej dK fI Aq;have fC:=ch.cA ad;have sK:=fz.cA ad;have ej:=bA.cA ad;have dK:=bq.cA ad;have fI:=cv.cA ad;have ep:=ad.jh
 go_wp2
 clear al bF
 refine iK 0 fun cS aC=>?_
 replace I:=aC.aE I;replace ad:=aC.jg ad;replace fz:=fz.bW aC sK;replace ch:=ch.bW aC fC;replace bA:=bA.bW aC ej;replace bq:=bq.bW aC dK;replace cv:=cv.bW aC fI;have al:=ad.aG
 refine bodyPost_ret (v:= .tuple #[.agg #[.slice cI rs e0,.slice oY ps pn,af,ae,sp,.slice de ws e2,.slice df U e3,.slice cJ os e4],true]) (by simp [results,Tryz.results103,go_sem,al]) rfl ?_
 exact aba
theorem adk {p:Prop} (h:p:=by
 refine iK 0 fun cS aC=>?_
 replace I:=aC.aE I;replace ad:=aC.jg ad;have al:=ad.aG
 refine bodyPost_ret (v:= .tuple #[.agg #[.slice none 0 0,.slice none 0 0,(0:Int),(0:Int),(0:Int),.slice none 0 0,.slice none 0 0,.slice none 0 0],false]) (by simp [results,Tryz.results103,go_sem,al]) rfl ?_
 exact⟨rfl,I⟩):p:=h
theorem alc (an ar aj ak aA:Option Addr) (c0 c1 c2 c3 c4:Nat) (rs:List aJ) (qs:List aL) (af ae sp:Int) (ws:List Int) (U:List aI) (os:List Out) (Z:eC an ar aj ak aA c0 c1 c2 c3 c4 rs qs ws U os) (mem val yes no bx:Int) (aw:jX rs qs mem= none) (w:World) (R:ea w an ar aj ak aA rs qs ws U os):
 Calls Tryz.prog 103 #[.agg #[.slice an rs c0,.slice ar qs c1,af,ae,sp,.slice aj ws c2,.slice ak U c3,.slice aA os c4],.agg #[(2:Int),mem,val,yes,no,bx]] w (ht none w):=by
 have bJ:=J R;have bf:=J Z;clear R Z;have bC:=J aw;clear aw
 go_in
 go_upto_region 1 with fail
 refine fr fun aF au ai aR ad=>?_
 have I:=au;have aD:=ai.aG;have a':=aR.da;have al:=ad.aG
 go_wp2_with fail
 refine (alv an c0 rs bf.out.h0 bf.out.dY ar c1 qs bf.out.h1 bf.out.n1 mem bC.out _ (bJ.out.fF.below (ah I av)) (bJ.out.dJ.below (ah I av))).mono ?_
 rintro e aM ⟨oY,pn,rfl,aN⟩
 have ao:=be aF aN;replace I:=ah I ao;clear aD;clear a';replace ad:=ad.to ao;clear al;have al:=ad.aG;have ep:=ad.jh
 go_wp2
 clear al
 exact adk
theorem aln (an ar aj ak aA:Option Addr) (c0 c1 c2 c3 c4:Nat) (rs:List aJ) (qs:List aL) (af ae sp:Int) (ws:List Int) (U:List aI) (os:List Out) (Z:eC an ar aj ak aA c0 c1 c2 c3 c4 rs qs ws U os) (kind mem val yes no bx:Int) (g1:(kind == 1)= false) (g2:(kind == 2)= false) (g3:(kind == 3)= false) (g4:(kind == 4)= false) (g5:(kind == 5)= false) (g6:(kind == 6)= false) (g7:(kind == 7)= false) (g8:(kind == 8)= false) (g9:(kind == 9)= false) (w:World) (R:ea w an ar aj ak aA rs qs ws U os):
 Calls Tryz.prog 103 #[.agg #[.slice an rs c0,.slice ar qs c1,af,ae,sp,.slice aj ws c2,.slice ak U c3,.slice aA os c4],.agg #[kind,mem,val,yes,no,bx]] w (ht none w):=by
 clear R Z
 go_in
 go_upto_region 1 with fail
 refine fr fun aF au ai aR ad=>?_
 have I:=au;have a':=aR.da;have al:=ad.aG;have ep:=ad.jh
 go_wp2
 clear a' al
 exact adk
end Go.Proofs.YtlaaemmmbodaaaaGreatDoor
