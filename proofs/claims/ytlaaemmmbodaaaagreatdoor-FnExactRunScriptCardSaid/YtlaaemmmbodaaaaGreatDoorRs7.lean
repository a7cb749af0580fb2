/- Parts. -/
import Derived.Test.YtlaaemmmbodaaaaGreatDoorRs6
set_option maxHeartbeats 16000000
set_option maxRecDepth 100000
set_option linter.unnecessarySimpa false
set_option linter.unusedSimpArgs false
set_option linter.unusedVariables false
namespace Go.Proofs.YtlaaemmmbodaaaaGreatDoor
open Go.RowKit Go.G9
theorem adD {p:Prop} (h:p:=by
 clear aR
 go_in
 go_wp2_with fail
 refine (oe an c0 rs h0 ar au qs h1 _ ei.out _ (aW.U aw) (aV.U aw)).mono ?_
 rintro e bg ⟨rfl,bE⟩
 have av:=be w bE;have I:Below w w bg:=av
 go_wp2
 go_ret2
 exact⟨some ⟨_,0,none⟩,0,rfl,aX.made _ (by have:=I.size;first | omega | (simp;omega)) _,(ai I aw)⟩):p:=h
theorem adg {p:Prop} (h:p:=by
 clear aR hm
 go_in
 go_wp2_with fail
 refine (oe an c0 rs h0 ar au qs h1 _ ei.out _ (aW.U aw) (aV.U aw)).mono ?_
 rintro e bg ⟨rfl,bE⟩
 have av:=be w bE;have I:Below w w bg:=av
 go_wp2_with fail
 refine (iA mem _ dQ.out _).mono ?_
 rintro e w0 ⟨rfl,h0⟩
 rw [h0]
 clear h0 w0
 go_wp2
 go_ret2
 exact⟨some ⟨_,0,none⟩,0,rfl,aX.made _ (by have:=I.size;first | omega | (simp;omega)) _,(ai I aw)⟩):p:=h
theorem Lh {p:Prop} (h:p:=by
 go_wp2
 go_ret2
 exact⟨some ⟨_,0,none⟩,0,rfl,aX.made _ (by have:=I.size;first | omega | (simp;omega)) _,(ai I aw)⟩):p:=h
theorem Zp (an:Option Addr) (c0:Nat) (rs:List aM) (h0:rs.length≤1048576) (ar:Option Addr) (au:Nat) (qs:List aN) (h1:qs.length≤1048576) (aU:ar= none→qs= []∧au= 0) (id mem:Int) (w:World) (aW:aJ 7 aM.cells w an rs) (aV:aJ 3 aN.cells w ar qs):Calls Tryz.prog 230 #[.slice an rs c0,.slice ar qs au,id,mem] w fun e ah=>∃A c,e= .returned (.tuple #[.slice A (iV (jD rs qs id mem)).length c,.bool (jD rs qs id mem).isSome])∧aX w 115 3 aN.cells ah (.slice A (iV (jD rs qs id mem)).length c) (iV (jD rs qs id mem))∧Below w w ah:=by
 obtain⟨i0,hi,dk,dx,dC⟩:=info_parts sE
 have tV:=J aU;clear aU
 cases aR:dF rs qs
 ·have ei:=J aR
  rw [XZ aR]
  exact adD
 cases hm:eH mem
 ·have ei:=J aR;have dQ:=J hm
  rw [Ya hm]
  exact adg
 have ju:(ht rs qs).length≤1048576:=Nat.le_trans (XL rs qs) h0
 cases aZ:hasB (ht rs qs) id
 ·have ei:=J aR;have dQ:=J hm;have dW:=J aZ
  rw [Yb aZ]
  clear aR hm aZ
  go_in
  go_wp2_with fail
  refine (oe an c0 rs h0 ar au qs h1 _ ei.out _ (aW.U aw) (aV.U aw)).mono ?_
  rintro e bg ⟨rfl,bE⟩
  have av:=be w bE;have I:Below w w bg:=av;replace aW:=aW.U av;replace aV:=aV.U av
  go_wp2_with fail
  refine (iA mem _ dQ.out _).mono ?_
  rintro e w0 ⟨rfl,h0⟩
  rw [h0]
  clear h0 w0
  go_wp2_with fail
  refine (Pt an c0 rs h0 ar au qs h1 ei.out _ (aW.U aw) (aV.U aw)).mono ?_
  rintro e aQ ⟨pr,c5,rfl,iw,aP⟩
  have ao:=be bg aP;replace I:=ai I ao;have yE:=iw.fk (hf:=fZ);clear iw
  go_wp2_with fail
  refine (zk pr c5 (ht rs qs) id ju _ dW.out _ (yE.U aw)).mono ?_
  rintro e bA ⟨rfl,bC⟩
  have aL:=be aQ bC;replace I:=ai I aL
  exact Lh
 ·have ei:=J aR;have dQ:=J hm;have dW:=J aZ
  rw [Yc aR hm aZ]
  clear aR hm aZ
  go_in
  go_wp2_with fail
  refine (oe an c0 rs h0 ar au qs h1 _ ei.out _ (aW.U aw) (aV.U aw)).mono ?_
  rintro e bg ⟨rfl,bE⟩
  have av:=be w bE;have I:Below w w bg:=av;replace aW:=aW.U av;replace aV:=aV.U av
  go_wp2_with fail
  refine (iA mem _ dQ.out _).mono ?_
  rintro e w0 ⟨rfl,h0⟩
  rw [h0]
  clear h0 w0
  go_wp2_with fail
  refine (Pt an c0 rs h0 ar au qs h1 ei.out _ (aW.U aw) (aV.U aw)).mono ?_
  rintro e aQ ⟨pr,c5,rfl,iw,aP⟩
  have ao:=be bg aP;replace I:=ai I ao;replace aV:=aV.U ao;have yE:=iw.fk (hf:=fZ);clear iw
  go_wp2_with fail
  refine (zk pr c5 (ht rs qs) id ju _ dW.out _ (yE.U aw)).mono ?_
  exact aaL
theorem Qu {T:Type}:∀{xs:List T} {j:Nat} {x:T},xs[j]? =some x→xs.set j x= xs
 | [],j,x,h=>by simp at h
 | y ::xs,0,x,h=>by simp at h;subst h;rfl
 | y ::xs,j + 1,x,h=>by simp at h;rw [List.set_cons_succ,Qu h]
theorem Zq (an:Option Addr) (c0:Nat) (rs:List aM) (h0:rs.length≤1048576) (ar:Option Addr) (au:Nat) (qs:List aN) (h1:qs.length≤1048576) (aU:ar= none→qs= []∧au= 0) (mem:Int) (w:World) (aW:aJ 7 aM.cells w an rs) (aV:aJ 3 aN.cells w ar qs):Calls Tryz.prog 231 #[.slice an rs c0,.slice ar qs au,mem] w fun e ah=>∃A c,e= .returned (.tuple #[.slice A (iV (jS rs qs mem)).length c,.bool (jS rs qs mem).isSome])∧aX w 115 3 aN.cells ah (.slice A (iV (jS rs qs mem)).length c) (iV (jS rs qs mem))∧Below w w ah:=by
 obtain⟨i0,hi,dk,dx,dC⟩:=info_parts sE
 have tV:=J aU;clear aU
 cases aR:dF rs qs
 ·have ei:=J aR
  rw [KF (by simp [lR,aR])]
  exact adD
 cases hm:eH mem
 ·have ei:=J aR;have dQ:=J hm
  rw [Zz hm]
  exact adg
 by_cases iz:qs.length= 0
 ·have ei:=J aR;have dQ:=J hm
  rw [KF (by rw [lR,JX iz,Bool.and_false])]
  obtain rfl:=List.length_eq_zero_iff.1 iz
  clear aR hm iz
  go_in
  go_wp2_with fail
  refine (oe an c0 rs h0 ar au [] h1 _ ei.out _ (aW.U aw) (aV.U aw)).mono ?_
  rintro e bg ⟨rfl,bE⟩
  have av:=be w bE;have I:Below w w bg:=av
  go_wp2_with fail
  refine (iA mem _ dQ.out _).mono ?_
  rintro e w0 ⟨rfl,h0⟩
  rw [h0]
  clear h0 w0
  exact Lh
 obtain⟨j,bI⟩ :∃j,qs.length= j + 1:=⟨qs.length - 1,by omega⟩
 obtain⟨ey,gN,⟨qr,cp,dy⟩,rfl,_,bf,_⟩:=aV.at_ (Below.refl _ _) (k:=j) (by omega)
 obtain⟨t,cA⟩:=oi aR bf
 have eI:=J bI;have dc:=J bf;have bP:=J cA;have dQ:=J hm
 have ie:j≤1048576:=by omega
 have zb:((j:Int) + 1 == 0)= false:=beq_eq_false_iff_ne.2 (by omega);have da:=J (fun W h dv=>oe an c0 rs h0 (some ⟨ey,gN,none⟩) au qs h1 _ aR W h dv)
 cases ax:kn t ⟨qr,cp,dy⟩
 case false=>
  have fT:=J ax
  rw [KF (by rw [lR,xR bI bf cA,ax,Bool.and_false])]
  rw [bI] at da ⊢
  clear ax hm bI bf cA aR iz h1
  go_in
  go_wp2_with fail
  refine (da.out _ (aW.U aw) (aV.U aw)).mono ?_
  rintro e bg ⟨rfl,bE⟩
  have av:=be w bE;have I:Below w w bg:=av;replace aW:=aW.U av;replace aV:=aV.U av
  go_wp2_with fail
  refine (iA mem _ dQ.out _).mono ?_
  rintro e w0 ⟨rfl,h0⟩
  rw [h0]
  clear h0 w0
  obtain⟨_,_,y,e9,fR,hy,dh⟩:=aV.at_ (Below.refl _ _) (k:=j) (by have:=eI.out;omega)
  cases e9
  obtain rfl:(⟨qr,cp,dy⟩ :aN)= y:=Option.some.inj (dc.out.symm.trans hy)
  clear hy;have cy:=dh 0 _ rfl;have dD:=dh 1 _ rfl;have di:=dh 2 _ rfl
  simp only [Nat.add_zero] at cy
  have g0:=cy (aB.self _);have g1:=dD (aB.self _);have g2:=di (aB.self _)
  simp only [aB.self] at g0
  simp only [aB.self] at g1
  simp only [aB.self] at g2
  clear dh cy dD di
  go_wp2_with fail
  refine (pK an c0 rs h0 ⟨qr,cp,dy⟩ t bP.out false fT.out _ (aW.U aw)).mono ?_
  rintro e aQ ⟨rfl,aP⟩
  have ao:=be bg aP;replace I:=ai I ao
  exact Lh
 cases aZ:cp == mem
 case true=>
  have fT:=J ax
  rw [ZA ((JY bI bf).trans aZ)]
  rw [bI] at da ⊢
  clear ax hm bI bf cA aR iz h1
  go_in
  go_wp2_with fail
  refine (da.out _ (aW.U aw) (aV.U aw)).mono ?_
  rintro e bg ⟨rfl,bE⟩
  have av:=be w bE;have I:Below w w bg:=av;replace aW:=aW.U av;replace aV:=aV.U av
  go_wp2_with fail
  refine (iA mem _ dQ.out _).mono ?_
  rintro e w0 ⟨rfl,h0⟩
  rw [h0]
  clear h0 w0
  obtain⟨_,_,y,e9,fR,hy,dh⟩:=aV.at_ (Below.refl _ _) (k:=j) (by have:=eI.out;omega)
  cases e9
  obtain rfl:(⟨qr,cp,dy⟩ :aN)= y:=Option.some.inj (dc.out.symm.trans hy)
  clear hy;have cy:=dh 0 _ rfl;have dD:=dh 1 _ rfl;have di:=dh 2 _ rfl
  simp only [Nat.add_zero] at cy
  have g0:=cy (aB.self _);have g1:=dD (aB.self _);have g2:=di (aB.self _)
  simp only [aB.self] at g0
  simp only [aB.self] at g1
  simp only [aB.self] at g2
  clear dh cy dD di;clear g0 g1 g2
  obtain⟨_,_,y,e9,fR,hy,dh⟩:=aV.at_ (Below.refl _ _) (k:=j) (by have:=eI.out;omega)
  cases e9
  obtain rfl:(⟨qr,cp,dy⟩ :aN)= y:=Option.some.inj (dc.out.symm.trans hy)
  clear hy;have cy:=dh 0 _ rfl;have dD:=dh 1 _ rfl;have di:=dh 2 _ rfl
  simp only [Nat.add_zero] at cy
  have g0:=cy (aB.self _);have g1:=dD (aB.self _);have g2:=di (aB.self _)
  simp only [aB.self] at g0
  simp only [aB.self] at g1
  simp only [aB.self] at g2
  clear dh cy dD di
  go_wp2_with fail
  refine (pK an c0 rs h0 ⟨qr,cp,dy⟩ t bP.out true fT.out _ (aW.U aw)).mono ?_
  rintro e aQ ⟨rfl,aP⟩
  have ao:=be bg aP;replace I:=ai I ao;replace aV:=aV.U ao;clear g0 g1 g2
  obtain⟨_,_,y,e9,fR,hy,dh⟩:=aV.at_ (Below.refl _ _) (k:=j) (by have:=eI.out;omega)
  cases e9
  obtain rfl:(⟨qr,cp,dy⟩ :aN)= y:=Option.some.inj (dc.out.symm.trans hy)
  clear hy;have cy:=dh 0 _ rfl;have dD:=dh 1 _ rfl;have di:=dh 2 _ rfl
  simp only [Nat.add_zero] at cy
  have g0:=cy (aB.self _);have g1:=dD (aB.self _);have g2:=di (aB.self _)
  simp only [aB.self] at g0
  simp only [aB.self] at g1
  simp only [aB.self] at g2
  clear dh cy dD di
  exact Lh
 case false=>
  have fT:=J ax
  rw [ZB (show lR rs qs= true by rw [lR,aR,xR bI bf cA,ax];rfl) hm ((JY bI bf).trans aZ),ZC bI bf]
  have mE:(qs.set j ⟨qr,cp,true⟩).length= j + 1:=by rw [List.length_set,bI]
  have Ed:=J mE
  rw [bI] at da ⊢
  clear ax hm bI bf cA aR iz h1 mE
  go_in
  go_wp2_with fail
  refine (da.out _ (aW.U aw) (aV.U aw)).mono ?_
  rintro e bg ⟨rfl,bE⟩
  have av:=be w bE;have I:Below w w bg:=av;replace aW:=aW.U av;replace aV:=aV.U av
  go_wp2_with fail
  refine (iA mem _ dQ.out _).mono ?_
  rintro e w0 ⟨rfl,h0⟩
  rw [h0]
  clear h0 w0
  obtain⟨_,_,y,e9,fR,hy,dh⟩:=aV.at_ (Below.refl _ _) (k:=j) (by have:=eI.out;omega)
  cases e9
  obtain rfl:(⟨qr,cp,dy⟩ :aN)= y:=Option.some.inj (dc.out.symm.trans hy)
  clear hy;have cy:=dh 0 _ rfl;have dD:=dh 1 _ rfl;have di:=dh 2 _ rfl
  simp only [Nat.add_zero] at cy
  have g0:=cy (aB.self _);have g1:=dD (aB.self _);have g2:=di (aB.self _)
  simp only [aB.self] at g0
  simp only [aB.self] at g1
  simp only [aB.self] at g2
  clear dh cy dD di
  go_wp2_with fail
  refine (pK an c0 rs h0 ⟨qr,cp,dy⟩ t bP.out true fT.out _ (aW.U aw)).mono ?_
  rintro e aQ ⟨rfl,aP⟩
  have ao:=be bg aP;replace I:=ai I ao;replace aV:=aV.U ao;clear g0 g1 g2
  obtain⟨_,_,y,e9,fR,hy,dh⟩:=aV.at_ (Below.refl _ _) (k:=j) (by have:=eI.out;omega)
  cases e9
  obtain rfl:(⟨qr,cp,dy⟩ :aN)= y:=Option.some.inj (dc.out.symm.trans hy)
  clear hy;have cy:=dh 0 _ rfl;have dD:=dh 1 _ rfl;have di:=dh 2 _ rfl
  simp only [Nat.add_zero] at cy
  have g0:=cy (aB.self _);have g1:=dD (aB.self _);have g2:=di (aB.self _)
  simp only [aB.self] at g0
  simp only [aB.self] at g1
  simp only [aB.self] at g2
  clear dh cy dD di;have gh:=J (fun e u=>(aV.U (ca aQ (.cells #[] e))):∀(e:TypeId) (u:Unit),aJ 3 aN.cells (aQ.alloc (.cells #[] e)) (some ⟨ey,gN,none⟩) qs);have tF:=I.size
  go_upto_region 5 with ((at_builtin;refine vu rfl _ _ 37 rfl aQ.heap.size 115 i0 _ 3 24 Tryz.underlying37 hi dk dx dC rfl (by decide) aN.cells jE tz aQ.heap.size rfl (aC.new _ _ _) (Nat.le_refl _) (some ⟨ey,gN,none⟩) au qs (j + 1) eI.out.symm rfl (gh.out _ ()) (fun h=>by cases h) (by have:=eI.out;unfold maxLen;omega) (by have:=eI.out;omega) ?_;intro br cO ng fz eZ))
  have nY:Below aQ aQ ng:=ai (ca _ _) eZ;have pz:aX w 115 3 aN.cells ng (.slice br qs cO) qs:=fz.base (by omega)
  rw [eI.out] at pz
  have qN:=(pz.lt br rfl).1;have Ck:=(pz.lt br rfl).2;replace I:=ai I nY;clear fz eZ nY g0 g1 g2 gh;have dP:=qm pz jE dc.out (i:=0) (u:= .int .i64 qr) rfl;have eh:=qm pz jE dc.out (i:=1) (u:= .int .i64 cp) rfl;have cm:=qm pz jE dc.out (i:=2) (u:= .bool dy) rfl
  simp only [Nat.add_zero] at dP
  go_upto_region 6 with fail
  clear dP eh cm
  refine cR fun ra aL ej=>?_
  replace pz:=pz.bh aL;replace I:=ai I aL;have fA:=ej.cK;have ahy:=ej.frozen 2
  have Yf:∀k,(Value.slice br (j + 1) cO).ownBlock= some k→¬k= ng.heap.size:=fun k ax e=>by have h9:br= k:=Option.some.inj ax;omega
  go_upto_region 7 with fail
  clear fA
  refine kG 2 fun mb eQ=>?_
  replace I:=eQ.aG I;replace ej:=eQ.PU ej;replace pz:=pz.bY eQ Yf;have fA:=ej.cK;clear Yf ahy;have z0:=AZ pz jE (j:=j) (i:=0) (by have:=eI.out;omega) (by decide);have ch:=AZ pz jE (j:=j) (i:=1) (by have:=eI.out;omega) (by decide);have z2:=AZ pz jE (j:=j) (i:=2) (by have:=eI.out;omega) (by decide)
  have dP:=qm pz jE dc.out (i:=0) (u:= .int .i64 qr) rfl;have eh:=qm pz jE dc.out (i:=1) (u:= .int .i64 cp) rfl;have cm:=qm pz jE dc.out (i:=2) (u:= .bool dy) rfl
  simp only [Nat.add_zero] at z0 dP
  have s1:=Ba pz jE (y:=⟨qr,cp,dy⟩) (u:= .int .i64 qr) (i:=0) dc.out (by decide) rfl
  rw [Qu dc.out] at s1
  have s2:=Ba s1 jE (y:=⟨qr,cp,dy⟩) (u:= .int .i64 cp) (i:=1) dc.out (by decide) rfl
  rw [Qu dc.out] at s2
  have pS:=Ba s2 jE (y:=⟨qr,cp,true⟩) (u:= .bool true) (i:=2) dc.out (by decide) rfl
  simp only [Nat.add_zero] at pS
  have ry:Below w w (((mb.setCell ⟨br,j * 3,none⟩ (.int .i64 qr)).setCell ⟨br,j * 3 + 1,none⟩ (.int .i64 cp)).setCell ⟨br,j * 3 + 2,none⟩ (.bool true)):=((I.setCell (by exact qN) _).setCell (by exact qN) _).setCell (by exact qN) _;have LU:=J pS;have aep:=J ry;clear s1 s2 pS ry
  go_wp2
  go_ret2
  refine⟨some ⟨br,0,none⟩,cO,by simp only [iV,Option.getD_some,Ed.out];rfl,?_,aep.out⟩
  simp only [iV,Option.getD_some]
  rw [Ed.out]
  exact LU.out
open Go.RowKit Go.G9
theorem agA {rs:List aM} {qs:List aN} (h:rv rs qs= none):dF rs qs= false∨qs.length= 0∨jC rs qs= true:=by
 by_cases h0:qs.length= 0
 ·exact .inr (.inl h0)
 ·have bf:qs[qs.length - 1]? =some qs[qs.length - 1]:=List.getElem?_eq_getElem (by omega)
  unfold rv at h
  rw [bf] at h
  dsimp only at h
  split at h
  ·cases h
  ·rename_i aG
   cases aR:dF rs qs with
   | false=>exact .inl rfl
   | true=>
    refine .inr (.inr ?_)
    cases aT:jC rs qs with
    | true=>rfl
    | false=>exact absurd (by rw [aR,aT];rfl) aG
theorem TU {rs:List aM} {qs ps:List aN} {q:aN} (h:rv rs qs= some (ps,q)):∃j,qs.length= j + 1∧qs[j]? =some q∧ps= qs.take j∧dF rs qs= true∧jC rs qs= false:=by
 obtain⟨_,h2,j,h3,h4,h5⟩:=TT h
 refine⟨j,h3,h4,h5,h2,?_⟩
 unfold rv at h
 rw [show qs.length - 1= j by omega,h4] at h
 dsimp only at h
 split at h
 ·rename_i aG
  simp only [Bool.and_eq_true,Bool.not_eq_true'] at aG
  exact aG.2
 ·cases h
def MK (j:Nat) (ap:Nat) (xs:List aN):lu (Option Addr×Nat) where
 par:=fun n=>if n= ap then [0] else []
 val:=fun n p=>if n= ap then .slice p.1 j p.2 else match n with
  | 0=> .slice p.1 0 0
  | _=>undef
 post:=fun n bu p cY V=>if n= ap then∃g br,(bu 0).1= some ⟨g,0,none⟩∧p.1= some ⟨br,0,none⟩∧aX g 115 3 aN.cells V (.slice p.1 xs.length p.2) xs else match n with
  | 0=>p.1= some ⟨cY.heap.size,0,none⟩∧aC V cY.heap.size 115 #[]
  | _=>True
theorem adG {p:Prop} (h:p:=by
 rintro e aQ ⟨rfl,aP⟩
 have ao:=be aH aP;replace I:=ai I ao;replace ae:=ae.to ao;clear aq;have aq:=ae.cK;have ez:=ae.nT
 go_wp2
 clear aq
 refine sP 0 fun cQ aD=>?_
 replace I:=aD.aG I;replace ae:=aD.vP ae;have aq:=ae.cK
 exact hc ⟨rfl,I⟩ (by simp [results,Tryz.results303,go_sem,aq])):p:=h
theorem acw {p:Prop} (h:p:=by
 rcases agA bd with h | h | h
 ·rw [aR] at h;cases h
 ·exact absurd h iz
 ·exact h):p:=h
theorem akB (an:Option Addr) (c0:Nat) (rs:List aM) (h0:rs.length≤1048576) (ga:rs.length≤c0) (ar:Option Addr) (au:Nat) (qs:List aN) (h1:qs.length≤1048576) (hU:qs.length≤au) (bd:rv rs qs= none) (w:World) (aW:aJ 7 aM.cells w an rs) (aV:aJ 3 aN.cells w ar qs):Calls Tryz.prog 303 #[.slice an rs c0,.slice ar qs au] w fun e ah=>e= .returned (.tuple #[.slice none 0 0,.agg #[(0:Int),(0:Int),false],false])∧Below w w ah:=by
 have eu:=J aW;have gh:=J aV;clear aW aV
 cases aR:dF rs qs
 ·have ei:=J aR
  clear aR bd
  go_in
  go_upto_region 1 with fail
  refine cR fun aH av ae=>?_
  have I:=av;have aq:=ae.cK
  go_wp2_with fail
  refine (nr an c0 rs h0 ga ar au qs h1 _ ei.out _ (eu.out.U (ai I aw)) (gh.out.U (ai I aw))).mono ?_
  exact adG
 by_cases iz:qs.length= 0
 ·obtain rfl:=List.length_eq_zero_iff.1 iz
  have ei:=J aR;clear aR bd iz
  go_in
  go_upto_region 1 with fail
  refine cR fun aH av ae=>?_
  have I:=av;have aq:=ae.cK
  go_wp2_with fail
  refine (nr an c0 rs h0 ga ar au [] h1 _ ei.out _ (eu.out.U (ai I aw)) (gh.out.U (ai I aw))).mono ?_
  exact adG
 have aT:jC rs qs= true:=by
  exact acw
 obtain⟨j,⟨qr,cp,dy⟩,bI,bf⟩:=He aT
 obtain⟨ey,gN,_,rfl,_,_,_⟩:=gh.out.at_ (Below.refl _ _) (k:=j) (by omega)
 have LD:Hid (lR rs qs= true):=J (by rw [lR,aR,aT];rfl);have eg:((j:Int) + 1 == 0)= false:=beq_eq_false_iff_ne.2 (by omega);have da:=J (fun W h dv=>nr an c0 rs h0 ga (some ⟨ey,gN,none⟩) au qs h1 _ aR W h dv);have cD:=J (fun W h dv=>AS an c0 rs h0 ga (some ⟨ey,gN,none⟩) au qs h1 _ LD.out W h dv)
 rw [bI] at da cD ⊢
 clear aR bd aT bf bI iz h1 hU
 go_in
 go_upto_region 1 with fail
 refine cR fun aH av ae=>?_
 have I:=av;have aq:=ae.cK
 go_wp2_with fail
 refine (da.out _ (eu.out.U (ai I aw)) (gh.out.U (ai I aw))).mono ?_
 rintro e aQ ⟨rfl,aP⟩
 have ao:=be aH aP;replace I:=ai I ao;replace ae:=ae.to ao;clear aq;have aq:=ae.cK
 go_wp2_with fail
 refine (cD.out _ (eu.out.U (ai I aw)) (gh.out.U (ai I aw))).mono ?_
 rintro e bA ⟨rfl,bC⟩
 have aL:=be aQ bC;replace I:=ai I aL;replace ae:=ae.to aL;clear aq;have aq:=ae.cK;have ez:=ae.nT
 go_wp2
 clear aq
 refine sP 0 fun cQ aD=>?_
 replace I:=aD.aG I;replace ae:=aD.vP ae;have aq:=ae.cK
 exact hc ⟨rfl,I⟩ (by simp [results,Tryz.results303,go_sem,aq])
theorem aaN {p:Prop} (h:p:=by
 change wpList _ _ _ (_ ::[]) _ _
 go_wp2
 first | exact hZ ⟨(some ⟨k.world.heap.size,0,none⟩,0),rfl,ca _ _,rfl,aC.new _ _ _⟩ | exact hZ ⟨some ⟨k.world.heap.size,0,none⟩,0,rfl,ca _ _,rfl,aC.new _ _ _⟩):p:=h
theorem acI {p:Prop} (h:p:=by
 change wpList _ _ _ (_ ::[]) _ _
 obtain⟨gR,uh,qJ,⟨mA,mB⟩,mC⟩:=fO 0 (by simp [MK])
 have mD:=mB.to mC;have jP:(bu 0).1= some ⟨gR.heap.size,0,none⟩:=mA;have qv:=J (qt.out.U ((iJ.out _).1 k.holds));have qu:=J mD;clear mD mB mA qJ mC fO
 rw [jP]
 have lY:=J jP;clear jP
 go_wp2_with ((at_builtin;refine vu rfl _ _ 37 rfl gR.heap.size 115 i0 _ 3 24 Tryz.underlying37 hi dk dx dC rfl (by decide) aN.cells jE tz gR.heap.size rfl qu.out (Nat.le_refl _) (some ⟨ey,gN,none⟩) au (qs.take j) j mT.out.symm rfl qv.out (fun h=>by cases h) (by have:=mT.out;unfold maxLen;omega) (by have:=mT.out;omega) ?_;intro br cO ah fz eZ))
 first | exact hZ ⟨(some ⟨br,0,none⟩,cO),rfl,eZ,gR.heap.size,br,lY.out,rfl,fz⟩ | exact hZ ⟨some ⟨br,0,none⟩,cO,rfl,eZ,gR.heap.size,br,lY.out,rfl,fz⟩):p:=h
theorem Ph (an:Option Addr) (c0:Nat) (rs:List aM) (h0:rs.length≤1048576) (ga:rs.length≤c0) (ar:Option Addr) (au:Nat) (qs:List aN) (h1:qs.length≤1048576) (hU:qs.length≤au) (j:Nat) (bI:qs.length= j + 1) (qr cp:Int) (dy:Bool) (bf:qs[j]? =some ⟨qr,cp,dy⟩) (aR:dF rs qs= true) (aT:jC rs qs= false) (w:World) (aW:aJ 7 aM.cells w an rs) (aV:aJ 3 aN.cells w ar qs):Calls Tryz.prog 303 #[.slice an rs c0,.slice ar qs au] w fun e ah=>
  ∃g c,e= .returned (.tuple #[.slice (some ⟨g,0,none⟩) (qs.take j).length c,.agg #[qr,cp,dy],true])∧aX w 115 3 aN.cells ah (.slice (some ⟨g,0,none⟩) (qs.take j).length c) (qs.take j)∧Below w w ah:=by
 obtain⟨i0,hi,dk,dx,dC⟩:=info_parts sE
 have eu:=J aW;have gh:=J aV;clear aW aV
 obtain⟨t,cA⟩:=oi aR bf
 obtain⟨ey,gN,_,rfl,_,_,_⟩:=gh.out.at_ (Below.refl _ _) (k:=j) (by omega)
 have ax:kn t ⟨qr,cp,dy⟩ =false:=(xR bI bf cA).symm.trans aT;have eI:=J bI;have dc:=J bf;have LD:Hid (lR rs qs= false):=J (by rw [lR,aR,aT];rfl)
 have ie:j≤1048576:=by omega
 have Oi:j≤au:=by omega
 have eg:((j:Int) + 1 == 0)= false:=beq_eq_false_iff_ne.2 (by omega)
 have bn:(qs.take j).length= j:=by rw [List.length_take];omega
 have mT:=J bn;have qt:=J (Dr gh.out j)
 rw [bn]
 have da:=J (fun W h dv=>nr an c0 rs h0 ga (some ⟨ey,gN,none⟩) au qs h1 _ aR W h dv);have cD:=J (fun W h dv=>AS an c0 rs h0 ga (some ⟨ey,gN,none⟩) au qs h1 _ LD.out W h dv)
 rw [bI] at da cD ⊢
 clear aR aT ax cA bf bI h1 hU bn
 go_in
 go_upto_region 1 with fail
 refine cR fun aH av ae=>?_
 have I:=av;have aq:=ae.cK
 go_wp2_with fail
 refine (da.out _ (eu.out.U (ai I aw)) (gh.out.U (ai I aw))).mono ?_
 rintro e aQ ⟨rfl,aP⟩
 have ao:=be aH aP;replace I:=ai I ao;replace ae:=ae.to ao;clear aq;have aq:=ae.cK
 go_wp2_with fail
 refine (cD.out _ (eu.out.U (ai I aw)) (gh.out.U (ai I aw))).mono ?_
 rintro e bA ⟨rfl,bC⟩
 have aL:=be aQ bC;replace I:=ai I aL;replace ae:=ae.to aL;clear aq;have aq:=ae.cK
 go_upto_region 4 with fail
 have tF:=I.size;have JK:=ae.lt
 obtain⟨pv,yN⟩ :∃X:World→Prop,∀V,X V↔(Below w w V):=⟨_,fun _=>Iff.rfl⟩
 have iJ:=J yN;clear yN
 haveI:Nonempty (cP pv):=⟨⟨bA,((iJ.out _).2 (I))⟩⟩
 clear aq
 obtain⟨_,_,y,e9,fR,hy,dh⟩:=gh.out.at_ (Below.refl _ _) (k:=j) (by have:=eI.out;omega)
 cases e9
 obtain rfl:(⟨qr,cp,dy⟩ :aN)= y:=Option.some.inj (dc.out.symm.trans hy)
 clear hy;have qg:=dh;have cy:=qg 0 _ rfl;have dD:=qg 1 _ rfl;have di:=qg 2 _ rfl
 simp only [Nat.add_zero] at cy
 have g0:=fun K:cP pv=>cy ⟨K.world,((iJ.out _).1 K.holds)⟩
 have g1:=fun K:cP pv=>dD ⟨K.world,((iJ.out _).1 K.holds)⟩
 have g2:=fun K:cP pv=>di ⟨K.world,((iJ.out _).1 K.holds)⟩
 clear dh qg cy dD di
 refine Bv (MK j 4 (qs.take j)) pv [([],0),([1,2,3],4)] [5,6,7,8] [([9],10)] [11] (by kernel_rfl) (by kernel_rfl) ((iJ.out _).2 (I.drew)) (fun W eF h k=>((iJ.out _).2 (((iJ.out _).1 h).trans (k.mono ((iJ.out _).1 h).size)))) ?_
 intro bu
 refine iF (some 26) rfl (.slice (bu 0).1 0 0) rfl fun hH eN=>?_
 change wpQuiet _ _ _ _ ([]) _
 refine wpQuiet_nil ?_
 refine⟨fun k fO=>?_,eN _ ?_⟩
 ·exact aaN
 simp only [Act.put]
 go_simp
 refine iF (some 30) rfl (.slice (bu 4).1 j (bu 4).2) rfl fun hH eN=>?_
 change wpQuiet _ _ _ _ (_ ::_ ::_ ::[]) _
 repeat (go_big_quiet_step (fail))
 refine wpQuiet_nil ?_
 refine⟨fun k fO=>?_,eN _ ?_⟩
 ·exact acI
 simp only [Act.put]
 go_simp
 refine tM ?_
 change wpQuiet _ _ _ _ (_ ::_ ::_ ::_ ::[]) _
 repeat (go_big_quiet_step (fail))
 refine wpQuiet_nil ?_
 intro cY V W aY bK
 clear g0 g1 g2
 obtain⟨g,br,e0,e4,Dn⟩ :∃g br,(bu 0).1= some ⟨g,0,none⟩∧(bu 4).1= some ⟨br,0,none⟩∧aX g 115 3 aN.cells (V 4) (.slice (bu 4).1 (qs.take j).length (bu 4).2) (qs.take j):=aY.post 4 (by simp)
 obtain⟨a0,_⟩ :(bu 0).1= some ⟨(cY 0).heap.size,0,none⟩∧aC (V 0) (cY 0).heap.size 115 #[]:=aY.post 0 (by simp)
 have iO:(cY 0).heap.size= g:=by rw [a0] at e0;exact congrArg Addr.block (Option.some.inj e0)
 have cv:=(Dn.bh (aY.bh 4 (by simp))).base (B':=bA.heap.size) (by rw [← iO];exact (aY.nt 0 (by simp)).size);have cG:Below bA bA W:=ai aw (aY.whole 4 (by simp)).qZ;replace I:=ai I cG;replace ae:=ae.to cG;have aq:=ae.cK;clear aY Dn a0 e0 iO bK
 generalize bu 4= pN at *
 obtain⟨D,d⟩:=pN
 simp only at cv e4
 subst e4
 rw [mT.out] at cv
 refine gZ fun gr dX=>?_
 change wpQuiet _ _ _ _ (_ ::[]) _
 repeat (go_big_quiet_step (fail))
 refine wpQuiet_nil ?_
 change wpList _ _ _ (_ ::[]) _ _
 have ez:=ae.nT
 have ih:∀k,(Value.slice (some ⟨br,0,none⟩) j d).ownBlock= some k→¬k= w.heap.size:=fun k ax e=>by have:=(cv.lt k ax).1;omega
 go_wp2
 clear aq
 refine sP 0 fun cQ aD=>?_
 replace I:=aD.aG I;replace ae:=aD.vP ae;replace cv:=cv.bY aD ih;have aq:=ae.cK
 refine hh ((iJ.out _).2 I) (dX _ _ ?_)
 refine mg ?_
 change wpQuiet _ _ _ _ (_ ::[]) _
 repeat (go_big_quiet_step (fail))
 refine wpQuiet_nil ?_
 go_wp2
 refine bodyPost_ret (v:= .tuple #[.slice (some ⟨br,0,none⟩) j d,.agg #[qr,cp,dy],true]) (by simp [results,Tryz.results303,go_sem,aq]) rfl ?_
 exact⟨br,d,rfl,cv.base (by omega),I⟩
theorem abV {p:Prop} (h:p:=by
 rintro e aQ ⟨rfl,aP⟩
 have ao:=be aH aP;replace I:=ai I ao;replace ae:=ae.to ao;clear z0 ch z2
 obtain⟨z0,ch,z2⟩:=ae.cK
 have ez:=ae.nT;have rX:=ae.lt;have rp:=J I;have jf:=J ae;have ahK:=(ae.alloc (.cells #[] 115)).frozen 0
 go_wp2
 have cM:=(((jf.out.gI 0 (.int .i64 0)).gI 1 (.int .i64 0)).gI 2 (.bool false)).alloc (.cells #[] 115);obtain⟨QX,QY,QZ⟩:=cM.cK;have lO:Below w w (((aQ.setCell ⟨w.heap.size,0,none⟩ (.int .i64 0)).setCell ⟨w.heap.size,1,none⟩ (.int .i64 0)).setCell ⟨w.heap.size,2,none⟩ (.bool false)):=((rp.out.setCell (Nat.le_refl w.heap.size) _).setCell (Nat.le_refl w.heap.size) _).setCell (Nat.le_refl w.heap.size) _
 refine bodyPost_ret (v:= .tuple #[.slice aQ.heap.size 0 0,.agg #[(0:Int),(0:Int),false],false]) (by simp [results,Tryz.results286,go_sem,QX,QY,QZ]) rfl ?_
 exact⟨_,_,rfl,lO.alloc lO.size _⟩):p:=h
theorem apB (an:Option Addr) (c0:Nat) (rs:List aM) (h0:rs.length≤1048576) (ga:rs.length≤c0) (ar:Option Addr) (au:Nat) (qs:List aN) (h1:qs.length≤1048576) (hU:qs.length≤au) (bd:rv rs qs= none) (w:World) (aW:aJ 7 aM.cells w an rs) (aV:aJ 3 aN.cells w ar qs):Calls Tryz.prog 286 #[.slice an rs c0,.slice ar qs au] w fun e ah=>∃A c,e= .returned (.tuple #[.slice A 0 c,.agg #[(0:Int),(0:Int),false],false])∧Below w w ah:=by
 have eu:=J aW;have gh:=J aV;clear aW aV
 cases aR:dF rs qs
 ·have ei:=J aR
  clear aR bd
  go_in
  go_upto_region 1 with fail
  refine cR fun aH av ae=>?_
  have I:=av
  obtain⟨z0,ch,z2⟩:=ae.cK
  go_wp2_with fail
  refine (oe an c0 rs h0 ar au qs h1 _ ei.out _ (eu.out.U (ai I aw)) (gh.out.U (ai I aw))).mono ?_
  exact abV
 by_cases iz:qs.length= 0
 ·obtain rfl:=List.length_eq_zero_iff.1 iz
  have ei:=J aR;clear aR bd iz
  go_in
  go_upto_region 1 with fail
  refine cR fun aH av ae=>?_
  have I:=av
  obtain⟨z0,ch,z2⟩:=ae.cK
  go_wp2_with fail
  refine (oe an c0 rs h0 ar au [] h1 _ ei.out _ (eu.out.U (ai I aw)) (gh.out.U (ai I aw))).mono ?_
  exact abV
 have aT:jC rs qs= true:=by
  exact acw
 obtain⟨j,⟨qr,cp,dy⟩,bI,bf⟩:=He aT
 obtain⟨t,cA⟩:=oi aR bf
 obtain⟨ey,gN,_,rfl,_,_,_⟩:=gh.out.at_ (Below.refl _ _) (k:=j) (by omega)
 have ax:kn t ⟨qr,cp,dy⟩ =true:=(xR bI bf cA).symm.trans aT;have eI:=J bI;have dc:=J bf;have bP:=J cA;have fT:=J ax
 have ie:j≤1048576:=by omega
 have eg:((j:Int) + 1 == 0)= false:=beq_eq_false_iff_ne.2 (by omega);have da:=J (fun W h dv=>oe an c0 rs h0 (some ⟨ey,gN,none⟩) au qs h1 _ aR W h dv)
 rw [bI] at da ⊢
 clear aR bd aT ax cA bf bI iz h1 hU
 go_in
 go_upto_region 1 with fail
 refine cR fun aH av ae=>?_
 have I:=av
 obtain⟨z0,ch,z2⟩:=ae.cK
 go_wp2_with fail
 refine (da.out _ (eu.out.U (ai I aw)) (gh.out.U (ai I aw))).mono ?_
 rintro e aQ ⟨rfl,aP⟩
 have ao:=be aH aP;replace I:=ai I ao;replace ae:=ae.to ao;clear z0 ch z2
 obtain⟨z0,ch,z2⟩:=ae.cK
 obtain⟨_,_,y,e9,fR,hy,dh⟩:=gh.out.at_ I (k:=j) (by have:=eI.out;omega)
 cases e9
 obtain rfl:(⟨qr,cp,dy⟩ :aN)= y:=Option.some.inj (dc.out.symm.trans hy)
 clear hy;have cy:=dh 0 _ rfl;have dD:=dh 1 _ rfl;have di:=dh 2 _ rfl
 simp only [Nat.add_zero] at cy
 have g0:=cy (aB.self _);have g1:=dD (aB.self _);have g2:=di (aB.self _)
 simp only [aB.self] at g0
 simp only [aB.self] at g1
 simp only [aB.self] at g2
 clear dh cy dD di
 go_wp2_with fail
 refine (pK an c0 rs h0 ⟨qr,cp,dy⟩ t bP.out true fT.out _ (eu.out.U (ai I aw))).mono ?_
 rintro e bA ⟨rfl,bC⟩
 have aL:=be aQ bC;replace I:=ai I aL;replace ae:=ae.to aL;clear z0 ch z2
 obtain⟨z0,ch,z2⟩:=ae.cK
 clear g0 g1 g2;have ez:=ae.nT;have rX:=ae.lt;have rp:=J I;have jf:=J ae;have ahK:=(ae.alloc (.cells #[] 115)).frozen 0
 go_wp2
 have cM:=(((jf.out.gI 0 (.int .i64 0)).gI 1 (.int .i64 0)).gI 2 (.bool false)).alloc (.cells #[] 115);obtain⟨QX,QY,QZ⟩:=cM.cK;have lO:Below w w (((bA.setCell ⟨w.heap.size,0,none⟩ (.int .i64 0)).setCell ⟨w.heap.size,1,none⟩ (.int .i64 0)).setCell ⟨w.heap.size,2,none⟩ (.bool false)):=((rp.out.setCell (Nat.le_refl w.heap.size) _).setCell (Nat.le_refl w.heap.size) _).setCell (Nat.le_refl w.heap.size) _
 refine bodyPost_ret (v:= .tuple #[.slice bA.heap.size 0 0,.agg #[(0:Int),(0:Int),false],false]) (by simp [results,Tryz.results286,go_sem,QX,QY,QZ]) rfl ?_
 exact⟨_,_,rfl,lO.alloc lO.size _⟩
theorem KC (an:Option Addr) (c0:Nat) (rs:List aM) (h0:rs.length≤1048576) (ga:rs.length≤c0) (ar:Option Addr) (au:Nat) (qs:List aN) (h1:qs.length≤1048576) (hU:qs.length≤au) (j:Nat) (bI:qs.length= j + 1) (qr cp:Int) (dy:Bool) (bf:qs[j]? =some ⟨qr,cp,dy⟩) (aR:dF rs qs= true) (aT:jC rs qs= false) (w:World) (aW:aJ 7 aM.cells w an rs) (aV:aJ 3 aN.cells w ar qs):Calls Tryz.prog 286 #[.slice an rs c0,.slice ar qs au] w fun e ah=>
  ∃g c,e= .returned (.tuple #[.slice (some ⟨g,0,none⟩) (qs.take j).length c,.agg #[qr,cp,dy],true])∧aX w 115 3 aN.cells ah (.slice (some ⟨g,0,none⟩) (qs.take j).length c) (qs.take j)∧Below w w ah:=by
 obtain⟨i0,hi,dk,dx,dC⟩:=info_parts sE
 have eu:=J aW;have gh:=J aV;clear aW aV
 obtain⟨t,cA⟩:=oi aR bf
 obtain⟨ey,gN,_,rfl,_,_,_⟩:=gh.out.at_ (Below.refl _ _) (k:=j) (by omega)
 have ax:kn t ⟨qr,cp,dy⟩ =false:=(xR bI bf cA).symm.trans aT;have eI:=J bI;have dc:=J bf;have bP:=J cA;have fT:=J ax
 have ie:j≤1048576:=by omega
 have Oi:j≤au:=by omega
 have eg:((j:Int) + 1 == 0)= false:=beq_eq_false_iff_ne.2 (by omega)
 have bn:(qs.take j).length= j:=by rw [List.length_take];omega
 have mT:=J bn;have qt:=J (Dr gh.out j)
 rw [bn]
 have da:=J (fun W h dv=>oe an c0 rs h0 (some ⟨ey,gN,none⟩) au qs h1 _ aR W h dv)
 rw [bI] at da ⊢
 clear aR aT ax cA bf bI h1 hU bn
 go_in
 go_upto_region 1 with fail
 refine cR fun aH av ae=>?_
 have I:=av;have aq:=ae.cK
 go_wp2_with fail
 refine (da.out _ (eu.out.U (ai I aw)) (gh.out.U (ai I aw))).mono ?_
 rintro e aQ ⟨rfl,aP⟩
 have ao:=be aH aP;replace I:=ai I ao;replace ae:=ae.to ao;clear aq;have aq:=ae.cK
 obtain⟨_,_,y,e9,fR,hy,dh⟩:=gh.out.at_ I (k:=j) (by have:=eI.out;omega)
 cases e9
 obtain rfl:(⟨qr,cp,dy⟩ :aN)= y:=Option.some.inj (dc.out.symm.trans hy)
 clear hy;have cy:=dh 0 _ rfl;have dD:=dh 1 _ rfl;have di:=dh 2 _ rfl
 simp only [Nat.add_zero] at cy
 have g0:=cy (aB.self _);have g1:=dD (aB.self _);have g2:=di (aB.self _)
 simp only [aB.self] at g0
 simp only [aB.self] at g1
 simp only [aB.self] at g2
 clear dh cy dD di
 go_wp2_with fail
 refine (pK an c0 rs h0 ⟨qr,cp,dy⟩ t bP.out false fT.out _ (eu.out.U (ai I aw))).mono ?_
 rintro e bA ⟨rfl,bC⟩
 have aL:=be aQ bC;replace I:=ai I aL;replace ae:=ae.to aL;clear aq;have aq:=ae.cK;clear g0 g1 g2
 go_upto_region 4 with fail
 have tF:=I.size;have JK:=ae.lt
 obtain⟨pv,yN⟩ :∃X:World→Prop,∀V,X V↔(Below w w V):=⟨_,fun _=>Iff.rfl⟩
 have iJ:=J yN;clear yN
 haveI:Nonempty (cP pv):=⟨⟨bA,((iJ.out _).2 (I))⟩⟩
 clear aq
 obtain⟨_,_,y,e9,fR,hy,dh⟩:=gh.out.at_ (Below.refl _ _) (k:=j) (by have:=eI.out;omega)
 cases e9
 obtain rfl:(⟨qr,cp,dy⟩ :aN)= y:=Option.some.inj (dc.out.symm.trans hy)
 clear hy;have qg:=dh;have cy:=qg 0 _ rfl;have dD:=qg 1 _ rfl;have di:=qg 2 _ rfl
 simp only [Nat.add_zero] at cy
 have g0:=fun K:cP pv=>cy ⟨K.world,((iJ.out _).1 K.holds)⟩
 have g1:=fun K:cP pv=>dD ⟨K.world,((iJ.out _).1 K.holds)⟩
 have g2:=fun K:cP pv=>di ⟨K.world,((iJ.out _).1 K.holds)⟩
 clear dh qg cy dD di
 refine Bv (MK j 5 (qs.take j)) pv [([],0),([1,2,3,4],5)] [6,7,8,9,10] [([11],12)] [13] (by kernel_rfl) (by kernel_rfl) ((iJ.out _).2 (I.drew)) (fun W eF h k=>((iJ.out _).2 (((iJ.out _).1 h).trans (k.mono ((iJ.out _).1 h).size)))) ?_
 intro bu
 refine iF (some 29) rfl (.slice (bu 0).1 0 0) rfl fun hH eN=>?_
 change wpQuiet _ _ _ _ ([]) _
 refine wpQuiet_nil ?_
 refine⟨fun k fO=>?_,eN _ ?_⟩
 ·exact aaN
 simp only [Act.put]
 go_simp
 refine iF (some 34) rfl (.slice (bu 5).1 j (bu 5).2) rfl fun hH eN=>?_
 change wpQuiet _ _ _ _ (_ ::_ ::_ ::_ ::[]) _
 repeat (go_big_quiet_step (fail))
 refine wpQuiet_nil ?_
 refine⟨fun k fO=>?_,eN _ ?_⟩
 ·exact acI
 simp only [Act.put]
 go_simp
 refine tM ?_
 change wpQuiet _ _ _ _ (_ ::_ ::_ ::_ ::_ ::[]) _
 repeat (go_big_quiet_step (fail))
 refine wpQuiet_nil ?_
 intro cY V W aY bK
 clear g0 g1 g2
 obtain⟨g,br,e0,e4,Dn⟩ :∃g br,(bu 0).1= some ⟨g,0,none⟩∧(bu 5).1= some ⟨br,0,none⟩∧aX g 115 3 aN.cells (V 5) (.slice (bu 5).1 (qs.take j).length (bu 5).2) (qs.take j):=aY.post 5 (by simp)
 obtain⟨a0,_⟩ :(bu 0).1= some ⟨(cY 0).heap.size,0,none⟩∧aC (V 0) (cY 0).heap.size 115 #[]:=aY.post 0 (by simp)
 have iO:(cY 0).heap.size= g:=by rw [a0] at e0;exact congrArg Addr.block (Option.some.inj e0)
 have cv:=(Dn.bh (aY.bh 5 (by simp))).base (B':=bA.heap.size) (by rw [← iO];exact (aY.nt 0 (by simp)).size);have cG:Below bA bA W:=ai aw (aY.whole 5 (by simp)).qZ;replace I:=ai I cG;replace ae:=ae.to cG;have aq:=ae.cK;clear aY Dn a0 e0 iO bK
 generalize bu 5= pN at *
 obtain⟨D,d⟩:=pN
 simp only at cv e4
 subst e4
 rw [mT.out] at cv
 refine gZ fun gr dX=>?_
 change wpQuiet _ _ _ _ (_ ::[]) _
 repeat (go_big_quiet_step (fail))
 refine wpQuiet_nil ?_
 change wpList _ _ _ (_ ::[]) _ _
 have ez:=ae.nT
 have ih:∀k,(Value.slice (some ⟨br,0,none⟩) j d).ownBlock= some k→¬k= w.heap.size:=fun k ax e=>by have:=(cv.lt k ax).1;omega
 go_wp2
 clear aq
 refine sP 0 fun cQ aD=>?_
 replace I:=aD.aG I;replace ae:=aD.vP ae;replace cv:=cv.bY aD ih;have aq:=ae.cK
 refine hh ((iJ.out _).2 I) (dX _ _ ?_)
 refine mg ?_
 change wpQuiet _ _ _ _ (_ ::[]) _
 repeat (go_big_quiet_step (fail))
 refine wpQuiet_nil ?_
 go_wp2
 refine bodyPost_ret (v:= .tuple #[.slice (some ⟨br,0,none⟩) j d,.agg #[qr,cp,dy],true]) (by simp [results,Tryz.results286,go_sem,aq]) rfl ?_
 exact⟨br,d,rfl,cv.base (by omega),I⟩
open Go.RowKit Go.G9
theorem alZ (ee y n a:Int) (h:0≤y∧y≤1000∧0≤n∧n≤1000) (v:Bool) (az:pA ee y n= v) (w:World):
 Calls Tryz.prog 288 #[ee,.agg #[y,n,a]] w fun e ah=>e= .returned v∧Below w w ah:=by
 go_in
 go_wp2_with (go_at_call 316;refine (ama _ _ _ (by omega) (by omega) (by omega) (by omega) _ az _).mono ?_;rintro e ah ⟨rfl,rfl⟩)
 go_ret
 exact⟨rfl,ca _ _⟩
theorem aag {y n a:Int} (h:tG y n a= true):(0≤y∧y≤1000)∧(0≤n∧n≤1000):=by
 simp only [tG,Bool.and_eq_true,rH] at h
 exact⟨h.1,h.2.1⟩
theorem amW {B:Nat} {w:World} {cl cN cn:Option Addr} {d0 d1 d4:Nat} {rs:List aM} {qs:List aN} {os:List Out} (h0:aX B 89 7 aM.cells w (.slice cl rs d0) rs) (h1:aX B 115 3 aN.cells w (.slice cN qs d1) qs) (h4:aX B 163 3 Out.cells w (.slice cn os d4) os):
 gi B w cl d0 cN d1 none 0 none 0 cn d4 rs qs [] [] os:=⟨h0,h1,aX.nil,aX.nil,h4⟩
theorem aaQ {p:Prop} (h:p:=by
 have aq:=ae.aI;have ez:=ae.jb
 go_wp2
 clear aq
 refine iE 0 fun cQ aD=>?_
 replace I:=aD.aG I;replace ae:=aD.ja ae;have aq:=ae.aI
 exact hc ⟨rfl,I⟩ (by simp [results,Tryz.results253,go_sem,aq])):p:=h
theorem alx (an ar ak al aA:Option Addr) (c0 au c2 c3 c4:Nat) (rs:List aM) (qs:List aN) (ag af sp:Int) (ws:List Int) (ad:List aK) (os:List Out) (Z:ed an ar ak al aA c0 au c2 c3 c4 rs qs ws ad os) (mem val yes no bB:Int) (az:pk ⟨rs,qs,ag,af,sp,ws,ad,os⟩ ⟨7,mem,val,yes,no,bB⟩ =none) (w:World) (R:dL w an ar ak al aA rs qs ws ad os):
 Calls Tryz.prog 253 #[.agg #[.slice an rs c0,.slice ar qs au,ag,af,sp,.slice ak ws c2,.slice al ad c3,.slice aA os c4],.agg #[yes,no,bB]] w fun e ah=>e= .returned (.tuple #[.agg #[.slice none 0 0,.slice none 0 0,(0:Int),(0:Int),(0:Int),.slice none 0 0,.slice none 0 0,.slice none 0 0],false])∧Below w w ah:=by
 have bL:=J R;have bj:=J Z;clear R Z
 cases bS:rv rs qs with
 | none=>
  have fD:=J bS;clear bS az
  go_in
  go_upto_region 1 with fail
  refine fv fun aH av aj dt ae=>?_
  have I:=av;have aF:=aj.aI;have aq:=ae.aI
  go_wp2_with fail
  refine (akB an c0 rs bj.out.h0 bj.out.dP ar au qs bj.out.h1 bj.out.eh fD.out _ (bL.out.ft.U (ai I aw)) (bL.out.dz.U (ai I aw))).mono ?_
  rintro e aQ ⟨rfl,aP⟩
  have ao:=be aH aP;replace I:=ai I ao;clear aF;replace ae:=ae.to ao;clear aq;have aq:=ae.aI
  go_upto_region 2 with fail
  refine cR fun ra aL ej=>?_
  replace I:=ai I aL;clear aq;replace ae:=ae.to aL
  exact aaQ
 | some pq=>
  obtain⟨ps,⟨qr,cp,dy⟩⟩:=pq
  obtain⟨j,bI,bf,OK,aR,aT⟩:=TU bS
  subst OK
  have eI:=J bI;have dc:=J bf;have ei:=J aR;have cJ:=J aT
  cases cA:tG yes no bB
  case false=>
   have bP:=J cA;clear bS az bI bf aR aT cA
   go_in
   go_upto_region 1 with fail
   refine fv fun aH av aj dt ae=>?_
   have I:=av;have aF:=aj.aI;have fo:=dt.cK;have aq:=ae.aI
   go_wp2_with fail
   refine (Ph an c0 rs bj.out.h0 bj.out.dP ar au qs bj.out.h1 bj.out.eh j eI.out qr cp dy dc.out ei.out cJ.out _ (bL.out.ft.U (ai I aw)) (bL.out.dz.U (ai I aw))).mono ?_
   rintro e aQ ⟨g1,d1,rfl,cv,aP⟩
   have ao:=be aH aP;replace I:=ai I ao;clear aF;replace dt:=dt.to ao;clear fo;have fo:=dt.cK;replace ae:=ae.to ao;clear aq;have aq:=ae.aI;clear cv
   go_upto_region 2 with fail
   refine cR fun ra aL ej=>?_
   replace I:=ai I aL;clear fo;replace dt:=dt.to aL;have fo:=dt.cK;clear aq;replace ae:=ae.to aL;have aq:=ae.aI
   go_wp2_with fail
   refine (Pn yes no bB _ bP.out _).mono ?_
   rintro e cf ⟨rfl,cZ⟩
   have bV:=be ra cZ;replace I:=ai I bV;clear fo;replace ae:=ae.to bV;clear aq
   exact aaQ
  case true=>
   have dd:os.length= 12:=by
    by_cases h:os.length= 12
    ·exact h
    ·simp [pk,bS,cA,h] at az
   have Gy:((os.length:Int) == 12)= true:=by rw [dd];rfl
   have bP:=J cA;clear bS az bI bf aR aT cA dd
   go_in
   go_upto_region 1 with fail
   refine fv fun aH av aj dt ae=>?_
   have I:=av;have aF:=aj.aI;have fo:=dt.cK;have aq:=ae.aI
   go_wp2_with fail
   refine (Ph an c0 rs bj.out.h0 bj.out.dP ar au qs bj.out.h1 bj.out.eh j eI.out qr cp dy dc.out ei.out cJ.out _ (bL.out.ft.U (ai I aw)) (bL.out.dz.U (ai I aw))).mono ?_
   rintro e aQ ⟨g1,d1,rfl,cv,aP⟩
   have ao:=be aH aP;replace I:=ai I ao;replace aj:=aj.to ao;clear aF;have aF:=aj.aI;replace dt:=dt.to ao;clear fo;have fo:=dt.cK;replace ae:=ae.to ao;clear aq;have aq:=ae.aI;clear cv
   go_upto_region 2 with fail
   refine cR fun ra aL ej=>?_
   replace I:=ai I aL;clear aF;replace aj:=aj.to aL;have aF:=aj.aI;clear fo;replace dt:=dt.to aL;have fo:=dt.cK;clear aq;replace ae:=ae.to aL;have aq:=ae.aI
   go_wp2_with fail
   refine (Pn yes no bB _ bP.out _).mono ?_
   rintro e cf ⟨rfl,cZ⟩
   have bV:=be ra cZ;replace I:=ai I bV;replace aj:=aj.to bV;clear aF;have aF:=aj.aI;clear fo;replace ae:=ae.to bV;clear aq;have aq:=ae.aI;have ez:=ae.jb
   go_wp2
   clear aF aq
   refine iE 0 fun cQ aD=>?_
   replace I:=aD.aG I;replace ae:=aD.ja ae;have aq:=ae.aI
   exact hc ⟨rfl,I⟩ (by simp [results,Tryz.results253,go_sem,aq])
theorem aaR {p:Prop} (h:p:=by
 have aq:=ae.aI;have ez:=ae.jb
 go_wp2
 clear aq
 refine iE 0 fun cQ aD=>?_
 replace I:=aD.aG I;replace ae:=aD.ja ae;have aq:=ae.aI
 exact hc ⟨rfl,I⟩ (by simp [results,Tryz.results232,go_sem,aq])):p:=h
theorem aaP {p:Prop} (h:p:=by
 have aq:=ae.aI;have ez:=ae.jb
 go_wp2
 clear aF aq
 refine iE 0 fun cQ aD=>?_
 replace I:=aD.aG I;replace ae:=aD.ja ae;have aq:=ae.aI
 exact hc ⟨rfl,I⟩ (by simp [results,Tryz.results232,go_sem,aq])):p:=h
theorem aqs (an ar ak al aA:Option Addr) (c0 au c2 c3 c4:Nat) (rs:List aM) (qs:List aN) (ag af sp:Int) (ws:List Int) (ad:List aK) (os:List Out) (Z:ed an ar ak al aA c0 au c2 c3 c4 rs qs ws ad os) (mem val yes no bB:Int) (az:sp≠0∨pk ⟨rs,qs,ag,af,sp,ws,ad,os⟩ ⟨7,mem,val,yes,no,bB⟩ =none) (w:World) (R:dL w an ar ak al aA rs qs ws ad os):
 Calls Tryz.prog 232 #[.agg #[.slice an rs c0,.slice ar qs au,ag,af,sp,.slice ak ws c2,.slice al ad c3,.slice aA os c4],.agg #[yes,no,bB]] w fun e ah=>e= .returned (.tuple #[.agg #[.slice none 0 0,.slice none 0 0,(0:Int),(0:Int),(0:Int),.slice none 0 0,.slice none 0 0,.slice none 0 0],false])∧Below w w ah:=by
 have bL:=J R;have bj:=J Z;clear R Z
 cases bS:rv rs qs with
 | none=>
  have fD:=J bS;clear bS az
  go_in
  go_upto_region 1 with fail
  refine fv fun aH av aj dt ae=>?_
  have I:=av;have aF:=aj.aI;have aq:=ae.aI
  go_wp2_with fail
  refine (apB an c0 rs bj.out.h0 bj.out.dP ar au qs bj.out.h1 bj.out.eh fD.out _ (bL.out.ft.U (ai I aw)) (bL.out.dz.U (ai I aw))).mono ?_
  rintro e aQ ⟨A9,c9,rfl,aP⟩
  have ao:=be aH aP;replace I:=ai I ao;clear aF;replace ae:=ae.to ao;clear aq;have aq:=ae.aI
  go_upto_region 2 with fail
  refine cR fun ra aL ej=>?_
  replace I:=ai I aL;clear aq;replace ae:=ae.to aL
  exact aaR
 | some pq=>
  obtain⟨ps,⟨qr,cp,dy⟩⟩:=pq
  obtain⟨j,bI,bf,OK,aR,aT⟩:=TU bS
  subst OK
  have eI:=J bI;have dc:=J bf;have ei:=J aR;have cJ:=J aT
  by_cases qR:sp= 0
  case neg=>
   have aZ:(sp != 0)= true:=by simpa using qR
   clear bS az bI bf aR aT qR
   go_in
   go_upto_region 1 with fail
   refine fv fun aH av aj dt ae=>?_
   have I:=av;have aF:=aj.aI;have aq:=ae.aI
   go_wp2_with fail
   refine (KC an c0 rs bj.out.h0 bj.out.dP ar au qs bj.out.h1 bj.out.eh j eI.out qr cp dy dc.out ei.out cJ.out _ (bL.out.ft.U (ai I aw)) (bL.out.dz.U (ai I aw))).mono ?_
   rintro e aQ ⟨g1,d1,rfl,cv,aP⟩
   have ao:=be aH aP;replace I:=ai I ao;replace aj:=aj.to ao;clear aF;have aF:=aj.aI;replace ae:=ae.to ao;clear aq;have aq:=ae.aI;clear cv
   go_upto_region 2 with fail
   refine cR fun ra aL ej=>?_
   replace I:=ai I aL;clear aF;replace aj:=aj.to aL;have aF:=aj.aI;clear aq;replace ae:=ae.to aL
   exact aaP
  case pos=>
  have aZ:(sp != 0)= false:=by simpa using qR
  have az:pk ⟨rs,qs,ag,af,sp,ws,ad,os⟩ ⟨7,mem,val,yes,no,bB⟩ =none:=az.resolve_left (fun h=>h qR);clear qR
  cases cA:tG yes no bB
  case false=>
   have bP:=J cA;clear bS az bI bf aR aT cA
   go_in
   go_upto_region 1 with fail
   refine fv fun aH av aj dt ae=>?_
   have I:=av;have aF:=aj.aI;have fo:=dt.cK;have aq:=ae.aI
   go_wp2_with fail
   refine (KC an c0 rs bj.out.h0 bj.out.dP ar au qs bj.out.h1 bj.out.eh j eI.out qr cp dy dc.out ei.out cJ.out _ (bL.out.ft.U (ai I aw)) (bL.out.dz.U (ai I aw))).mono ?_
   rintro e aQ ⟨g1,d1,rfl,cv,aP⟩
   have ao:=be aH aP;replace I:=ai I ao;replace aj:=aj.to ao;clear aF;have aF:=aj.aI;replace dt:=dt.to ao;clear fo;have fo:=dt.cK;replace ae:=ae.to ao;clear aq;have aq:=ae.aI;clear cv
   go_upto_region 2 with fail
   refine cR fun ra aL ej=>?_
   replace I:=ai I aL;clear aF;replace aj:=aj.to aL;have aF:=aj.aI;clear fo;replace dt:=dt.to aL;have fo:=dt.cK;clear aq;replace ae:=ae.to aL;have aq:=ae.aI
   go_wp2_with fail
   refine (Pp yes no bB _ bP.out _).mono ?_
   rintro e cf ⟨rfl,cZ⟩
   have bV:=be ra cZ;replace I:=ai I bV;clear aF;clear fo;replace ae:=ae.to bV;clear aq
   exact aaR
  case true=>
   have dd:os.length= 12:=by
    by_cases h:os.length= 12
    ·exact h
    ·simp [pk,bS,cA,h] at az
   have Gy:((os.length:Int) == 12)= true:=by rw [dd];rfl
   have bP:=J cA;clear bS az bI bf aR aT cA dd
   go_in
   go_upto_region 1 with fail
   refine fv fun aH av aj dt ae=>?_
   have I:=av;have aF:=aj.aI;have fo:=dt.cK;have aq:=ae.aI
   go_wp2_with fail
   refine (KC an c0 rs bj.out.h0 bj.out.dP ar au qs bj.out.h1 bj.out.eh j eI.out qr cp dy dc.out ei.out cJ.out _ (bL.out.ft.U (ai I aw)) (bL.out.dz.U (ai I aw))).mono ?_
   rintro e aQ ⟨g1,d1,rfl,cv,aP⟩
   have ao:=be aH aP;replace I:=ai I ao;replace aj:=aj.to ao;clear aF;have aF:=aj.aI;replace dt:=dt.to ao;clear fo;have fo:=dt.cK;replace ae:=ae.to ao;clear aq;have aq:=ae.aI;clear cv
   go_upto_region 2 with fail
   refine cR fun ra aL ej=>?_
   replace I:=ai I aL;clear aF;replace aj:=aj.to aL;have aF:=aj.aI;clear fo;replace dt:=dt.to aL;have fo:=dt.cK;clear aq;replace ae:=ae.to aL;have aq:=ae.aI
   go_wp2_with fail
   refine (Pp yes no bB _ bP.out _).mono ?_
   rintro e cf ⟨rfl,cZ⟩
   have bV:=be ra cZ;replace I:=ai I bV;replace aj:=aj.to bV;clear aF;have aF:=aj.aI;clear fo;replace ae:=ae.to bV;clear aq
   exact aaP
open Go.RowKit Go.G9
def arK (hz:Bool) (o:Out):lu Nat where
 par:=fun _=>[]
 val:=fun n p=>match n with
  | 8=> .bool hz
  | 10=> .slice (some ⟨p,0,none⟩) 1 1
  | _=>undef
 post:=fun n _ p cY V=>match n with
  | 10=>cY.heap.size= p∧aC V p 163 #[.int .i64 o.fU,.int .i64 o.mover,.bool o.hz]
  | _=>True
theorem aaY {p:Prop} (h:p:=by
 have h0:i= 0:=by have:=(List.getElem?_eq_some_iff.1 hy).1;simp at this;omega
 subst h0;simp at hy;subst hy
 rw [Nat.zero_mul,Nat.zero_add]
 exact (Cn.cell _).trans (by simpa [Out.cells] using hu)):p:=h
theorem abd {p:Prop} (h:p:=by
 exact⟨cl,d0,some ⟨g1,0,none⟩,d1,none,0,none,0,Y,gV,rfl,amW (cq.base (by omega)) (by rw [tU.out];exact cv.base (by omega)) (by rw [Ik.out];exact cz.base (by omega)),I⟩):p:=h
theorem aqt (an ar ak al aA:Option Addr) (c0 au c2 c3 c4:Nat) (rs:List aM) (qs:List aN) (ag af sp:Int) (ws:List Int) (ad:List aK) (os:List Out) (Z:ed an ar ak al aA c0 au c2 c3 c4 rs qs ws ad os) (yes no bB:Int) (aZ:(sp != 0)= false) (j:Nat) (bI:qs.length= j + 1) (qr cp:Int) (dy:Bool) (bf:qs[j]? =some ⟨qr,cp,dy⟩) (aR:dF rs qs= true) (aT:jC rs qs= false) (cA:tG yes no bB= true) (dd:os.length < 12) (w:World) (R:dL w an ar ak al aA rs qs ws ad os):
 Calls Tryz.prog 232 #[.agg #[.slice an rs c0,.slice ar qs au,ag,af,sp,.slice ak ws c2,.slice al ad c3,.slice aA os c4],.agg #[yes,no,bB]] w fun e ah=>∃cl d0 cN d1 bk d2 bo d3 cn d4,e= .returned (.tuple #[.agg #[.slice cl rs d0,.slice cN (qs.take j).length d1,ag,af,(0:Int),.slice bk ([]:List Int).length d2,.slice bo ([]:List aK).length d3,.slice cn (os ++ [(⟨qr,cp,pA (tw rs ⟨qr,cp,dy⟩) yes no⟩ :Out)]).length d4],true])∧gi w ah cl d0 cN d1 bk d2 bo d3 cn d4 rs (qs.take j) [] [] (os ++ [(⟨qr,cp,pA (tw rs ⟨qr,cp,dy⟩) yes no⟩ :Out)])∧Below w w ah:=by
 obtain⟨i0,hi,dk,dx,dC⟩:=info_parts GR
 have bL:=J R;have bj:=J Z;clear R Z
 obtain⟨⟨Bl,Bm,Bn,dn,rd,Bj,rx,YX⟩,bz⟩:=oi aR bf
 obtain⟨hz,xu⟩ :∃hz,pA (tw rs ⟨qr,cp,dy⟩) yes no= hz:=⟨_,rfl⟩
 have eg:tw rs ⟨qr,cp,dy⟩ =rx:=by simp only [tw];rw [bz]
 have rB:=aag cA
 rw [xu]
 rw [eg] at xu
 have yZ:(os ++ [(⟨qr,cp,hz⟩ :Out)]).length= os.length + 1:=by simp
 rw [yZ]
 have Ik:=J yZ;have Gy:((os.length:Int) == 12)= false:=beq_eq_false_iff_ne.2 (by omega)
 have ie:(qs.take j).length= j:=by rw [List.length_take];omega
 rw [ie]
 have eI:=J bI;have dc:=J bf;have ei:=J aR;have cJ:=J aT;have bP:=J cA;have qq:=J bz;have Lv:=J xu;have tU:=J ie;clear bI bf aR aT cA bz xu eg yZ ie
 go_in
 go_upto_region 1 with fail
 refine fv fun aH av aj dt ae=>?_
 have I:=av
 obtain⟨f0,f1,f2,f3,f4,f5,f6,f7⟩:=aj.aI
 have fo:=dt.cK;have aq:=ae.aI;have gv:=ae.lt
 go_wp2_with fail
 refine (KC an c0 rs bj.out.h0 bj.out.dP ar au qs bj.out.h1 bj.out.eh j eI.out qr cp dy dc.out ei.out cJ.out _ (bL.out.ft.U (ai I aw)) (bL.out.dz.U (ai I aw))).mono ?_
 rintro e aQ ⟨g1,d1,rfl,cv,aP⟩
 have ao:=be aH aP;replace I:=ai I ao;replace aj:=aj.to ao;clear f0 f1 f2 f3 f4 f5 f6 f7
 obtain⟨f0,f1,f2,f3,f4,f5,f6,f7⟩:=aj.aI
 replace dt:=dt.to ao;clear fo;have fo:=dt.cK;replace ae:=ae.to ao;clear aq;have aq:=ae.aI
 rw [tU.out]
 rw [tU.out] at cv
 go_upto_region 2 with fail
 have EG:=cv.bh (ca aQ (.cells #[qr,cp,dy] 115));clear cv;have aL:Below aQ aQ (World.alloc aQ (.cells #[qr,cp,dy] 115)):=ca aQ _
 have ej:=aC.new aQ 115 #[qr,cp,dy]
 generalize World.alloc aQ (.cells #[qr,cp,dy] 115)= ra at *
 replace I:=ai I aL
 obtain⟨iB,q1,gn⟩:=ej.cK
 clear f0 f1 f2 f3 f4 f5 f6 f7;replace aj:=aj.to aL
 obtain⟨f0,f1,f2,f3,f4,f5,f6,f7⟩:=aj.aI
 clear fo;replace dt:=dt.to aL;have fo:=dt.cK;clear aq;replace ae:=ae.to aL;have aq:=ae.aI;have cv:=EG;clear EG
 go_wp2_with fail
 refine (Pp yes no bB _ bP.out _).mono ?_
 rintro e cf ⟨rfl,cZ⟩
 have bV:=be ra cZ;replace I:=ai I bV;replace cv:=cv.bh bV;replace aj:=aj.to bV;clear f0 f1 f2 f3 f4 f5 f6 f7
 obtain⟨f0,f1,f2,f3,f4,f5,f6,f7⟩:=aj.aI
 replace dt:=dt.to bV;clear fo;have fo:=dt.cK;replace ae:=ae.to bV;clear aq;have aq:=ae.aI;replace ej:=ej.to bV;clear iB q1 gn
 obtain⟨iB,q1,gn⟩:=ej.cK
 obtain⟨alU,VM,OR⟩:=rG qq.out
 have qj:=(List.getElem?_eq_some_iff.1 OR).1
 obtain⟨eb,kp,ft,hA0,oF,kW,gC⟩:=bL.out.ft.at_ I qj
 obtain rfl:=Option.some.inj (kW.symm.trans OR)
 have aoJ:=gC 6 _ rfl;have aeD:=J VM;have Bz:=J hA0;clear gC kW VM OR hA0
 go_upto_region 4 with fail
 clear f0 f1 f2 f3 f4 f5 f6 f7
 obtain⟨f0,f1,f2,f3,f4,f5,f6,f7⟩:=aC.qb (fun K:aB cf.heap.size cf=>(aj.U K.U aj.lt))
 clear fo;have fo:=aC.jN (fun K:aB cf.heap.size cf=>(dt.U K.U dt.lt));clear aq;have aq:=aC.qb (fun K:aB cf.heap.size cf=>(ae.U K.U ae.lt));clear iB q1 gn
 obtain⟨iB,q1,gn⟩:=aC.jN (fun K:aB cf.heap.size cf=>(ej.U K.U ej.lt))
 have Uf:=fun K=>(f0 K).trans (show some (Value.slice an rs c0)= some (Value.slice (some ⟨eb,kp,none⟩) rs c0) by rw [Bz.out])
 clear f0;have f0:=Uf;clear Uf;have aeY:Hid (∀K:aB cf.heap.size cf,aJ 7 aM.cells K.world (some ⟨eb,kp,none⟩) rs):=J (fun K=>by have h:=bL.out.ft.U (ai I K.U);rw [Bz.out] at h;exact h)
 refine eC (by kernel_rfl) (by kernel_rfl) ?_
 repeat (go_big_quiet_step (fail))
 go_big_quiet_step ((go_at_call 72;exact aB.same _ (vg (some ⟨eb,kp,none⟩) c0 rs bj.out.h0 qr alU aeD.out _ (aeY.out _))))
 repeat (go_big_quiet_step (fail))
 refine wpQuiet_nil ?_
 intro K
 clear aoJ;clear f0 f1 f2 f3 f4 f5 f6 f7;clear fo;clear aq;clear iB q1 gn;have cG:Below cf cf K.world:=ai aw K.U;replace I:=ai I cG;replace cv:=cv.bh cG;replace aj:=aj.to cG
 obtain⟨f0,f1,f2,f3,f4,f5,f6,f7⟩:=aj.aI
 replace dt:=dt.to cG;have fo:=dt.cK;replace ae:=ae.to cG;have aq:=ae.aI;replace ej:=ej.to cG
 obtain⟨iB,q1,gn⟩:=ej.cK
 have vq:=I.size
 go_wp2_with fail
 refine (Xn an ar ak al aA c0 au c2 c3 c4 rs qs ag af sp ws ad os bj.out (some ⟨g1,0,none⟩) j d1 _ (bL.out.U (ai I aw))).mono ?_
 rintro e hX ⟨cl,d0,cn,d4,rfl,cq,cz,pE⟩
 have fb:Below K.world.heap.size K.world hX:=ai aw pE;replace I:=ai I fb;replace cv:=cv.bh fb;replace aj:=aj.to fb;clear f0 f1 f2 f3 f4 f5 f6 f7;replace dt:=dt.to fb;clear fo;have fo:=dt.cK;replace ae:=ae.to fb;clear aq;have aq:=ae.aI;replace ej:=ej.to fb;clear iB q1 gn
 obtain⟨iB,q1,gn⟩:=ej.cK
 have aro:=I.size;have akl:=ae.lt
 go_upto_region 6 with fail
 have EF:=cq.bh (ca hX (.cells #[.slice cl rs d0,.slice g1 j d1,ag,af,(0:Int),.slice none 0 0,.slice none 0 0,.slice cn os d4] 44));have sf:=cz.bh (ca hX (.cells #[.slice cl rs d0,.slice g1 j d1,ag,af,(0:Int),.slice none 0 0,.slice none 0 0,.slice cn os d4] 44))
 clear cq cz;have qQ:Below hX hX (World.alloc hX (.cells #[.slice cl rs d0,.slice g1 j d1,ag,af,(0:Int),.slice none 0 0,.slice none 0 0,.slice cn os d4] 44)):=ca hX _
 have aO:=aC.new hX 44 #[.slice cl rs d0,.slice g1 j d1,ag,af,(0:Int),.slice none 0 0,.slice none 0 0,.slice cn os d4]
 replace cv:=cv.bh qQ
 generalize World.alloc hX (.cells #[.slice cl rs d0,.slice g1 j d1,ag,af,(0:Int),.slice none 0 0,.slice none 0 0,.slice cn os d4] 44)= tI at *
 replace I:=ai I qQ;have bG:=aO.aI;replace aj:=aj.to qQ;clear fo;replace dt:=dt.to qQ;have fo:=dt.cK;clear aq;replace ae:=ae.to qQ;have aq:=ae.aI;clear iB q1 gn;replace ej:=ej.to qQ
 obtain⟨iB,q1,gn⟩:=ej.cK
 have cq:=EF.base (B':=w.heap.size) vq;have cz:=sf.base (B':=w.heap.size) vq;clear EF sf
 obtain⟨DR,Uy⟩ :∃X:World→Prop,∀V,X V↔(Below w w V∧aC V (w.heap.size) 44 #[.slice an rs c0,.slice ar qs au,ag,af,sp,.slice ak ws c2,.slice al ad c3,.slice aA os c4]∧aC V (w.heap.size + 1) 146 #[yes,no,bB]∧aC V (aQ.heap.size) 115 #[qr,cp,dy]∧aC V (hX.heap.size) 44 #[.slice cl rs d0,.slice g1 j d1,ag,af,(0:Int),.slice none 0 0,.slice none 0 0,.slice cn os d4]):=⟨_,fun _=>Iff.rfl⟩
 have pY:=J Uy;clear Uy
 haveI:Nonempty (cP DR):=⟨⟨tI,((pY.out _).2 ⟨I,aj,dt,ej,aO⟩)⟩⟩
 clear fo;clear aq;clear iB q1 gn;clear bG;have fo:=aC.jN (fun K:cP DR=>((pY.out _).1 K.holds).2.2.1)
 obtain⟨iB,q1,gn⟩:=aC.jN (fun K:cP DR=>((pY.out _).1 K.holds).2.2.2.1)
 have bG:=aC.qb (fun K:cP DR=>((pY.out _).1 K.holds).2.2.2.2)
 refine HQ (arK hz ⟨qr,cp,hz⟩) DR [([0,1,2,3,4,5,6,7],8),([9],10)] [] [([],[],11,true),([],[12],13,true)] [] [] (by kernel_rfl) (by kernel_rfl) ((pY.out _).2 ⟨I.drew,aj,dt,ej,aO⟩) (fun W eF h k=>((pY.out _).2 ⟨((pY.out _).1 h).1.trans (k.mono ((pY.out _).1 h).1.size),((pY.out _).1 h).2.1.U k ((pY.out _).1 h).2.1.lt,((pY.out _).1 h).2.2.1.U k ((pY.out _).1 h).2.2.1.lt,((pY.out _).1 h).2.2.2.1.U k ((pY.out _).1 h).2.2.2.1.lt,((pY.out _).1 h).2.2.2.2.U k ((pY.out _).1 h).2.2.2.2.lt⟩)) ?_
 intro bu
 refine iF (some 61) rfl (.bool hz) rfl fun hH eN=>?_
 change wpQuiet _ _ _ _ (_ ::_ ::_ ::_ ::_ ::_ ::_ ::_ ::[]) _
 repeat (go_big_quiet_step (fail))
 refine wpQuiet_nil ?_
 refine⟨fun k fO=>?_,eN _ ?_⟩
 ·change wpList _ _ _ (_ ::[]) _ _
  go_wp2_with fail
  refine (alZ rx yes no bB (by omega) hz Lv.out _).mono ?_
  rintro e mP ⟨rfl,fR⟩
  go_wp2
  exact hZ ⟨0,rfl,fR,trivial⟩
 simp only [Act.put]
 go_simp
 refine iF (some 63) rfl (.slice (some ⟨bu 10,0,none⟩) 1 1) rfl fun hH eN=>?_
 change wpQuiet _ _ _ _ (_ ::[]) _
 repeat (go_big_quiet_step (fail))
 refine wpQuiet_nil ?_
 refine⟨fun k fO=>?_,eN _ ?_⟩
 ·exact Rk
 simp only [Act.put]
 go_simp
 refine tM ?_
 change wpQuiet _ _ _ _ ([]) _
 refine wpQuiet_nil ?_
 intro cY V W aY bK
 obtain⟨Ao,ry⟩ :(cY 10).heap.size= bu 10∧aC (V 10) (bu 10) 163 #[qr,cp,.bool hz]:=aY.post 10 (by simp)
 have Cn:=ry.U (aY.bh 10 (by simp)) ry.lt;clear fo;clear iB q1 gn;clear bG;have zc:Below tI tI W:=ai aw (aY.whole 10 (by simp)).qZ;replace I:=ai I zc;replace cv:=cv.bh zc;replace cq:=cq.bh zc;replace cz:=cz.bh zc;replace aj:=aj.to zc;replace ae:=ae.to zc;have aq:=ae.aI;replace ej:=ej.to zc
 obtain⟨iB,q1,gn⟩:=ej.cK
 replace aO:=aO.to zc;have bG:=aO.aI;clear aY Ao ry bK
 generalize bu 10= pU at *
 have LR:Hid (aJ 3 Out.cells W (some ⟨pU,0,none⟩) [(⟨qr,cp,hz⟩ :Out)]):=J (fun _=>⟨pU,0,rfl,Cn.lt,fun i y hy j u hu=>by
  exact aaY⟩)
 have qM:=cz.cH aO;have sw:=cz.cH ae;have FX:=cz.apart cq (by decide);have FY:=cz.apart cv (by decide);have oG:=cz.lt;have la:=J cz;have lr:=J cv;have jI:=J cq;have cg:=J aO;have jf:=J ae;have eE:=J I;have zS:=J qM;have zT:=J sw;have Bz:=J FX;have Lu:=J FY;have zR:=J oG;have QE:=I.size;clear cz cv cq Cn qM sw FX FY oG
 refine pn fun gr dX=>?_
 refine wpQuiet_nil ?_
 refine wpQuiet_nil ?_
 change wpList _ _ _ (_ ::[]) _ _
 go_wp2_with ((at_builtin;refine kJ rfl _ _ 42 rfl _ 163 i0 _ 3 24 Tryz.underlying42 hi dk dx dC rfl (by decide) Out.cells AY PN _ os rfl la.out ⟨pU,0,none⟩ 1 ⟨qr,cp,hz⟩ rfl LR.out (by unfold maxLen;omega) (by omega) (by omega) ?_;intro v9 mP kP lh Al;clear Al;obtain⟨Y,gV,rfl,q1,gn,nf⟩:=kP.form AY;clear q1 gn nf;rw [Ik.out] at kP))
 have ec:=cg.out.jO lh (fun e=>zS.out _ e.symm rfl);have bT:=jf.out.jO lh (fun e=>zT.out _ e.symm rfl);have cq:=jI.out.kept lh (fun k ax e=>Bz.out k e.symm ax.symm);have cv:=lr.out.kept lh (fun k ax e=>Lu.out k e.symm ax.symm);have cz:=kP;have DV:Below w w mP:=eE.out.grown lh (by omega) (fun q bf=>by have:=(zR.out q bf).1;omega);clear aO ae aj dt ej I iB q1 gn bG aq lh kP
 refine yB (dX _ _ ?_)
 refine pn fun Ex ux=>?_
 refine wpQuiet_nil ?_
 change wpQuiet _ _ _ _ (_ ::[]) _
 haveI:Nonempty (cP (fun _=>True)):=⟨⟨w,trivial⟩⟩
 try simp only [Act.put]
 try go_simp
 repeat (go_big_quiet_step (fail))
 refine wpQuiet_nil ?_
 change wpList _ _ _ (_ ::[]) _ _
 have I:=DV;clear DV;have aq:=bT.aI;have bG:=ec.aI;have fC:=cq.cH ec;have ih:=cv.cH ec;have fH:=cz.cH ec;have MZ:=ec.frozen 7
 go_wp2
 clear aq bG
 refine kG 7 fun IJ jT=>?_
 replace I:=jT.aG I;replace bT:=jT.dJ bT;replace ec:=jT.PW ec;replace cq:=cq.bY jT fC;replace cv:=cv.bY jT ih;replace cz:=cz.bY jT fH;have aq:=bT.aI;have bG:=ec.aI
 clear fC ih fH MZ
 refine yB (ux _ _ ?_)
 refine zC ?_
 refine wpQuiet_nil ?_
 refine wpQuiet_nil ?_
 have fC:=cq.cH bT;have ih:=cv.cH bT;have fH:=cz.cH bT;have Ce:=bT.frozen 0;have Cf:=bT.frozen 1;have Cg:=bT.frozen 2;have Ch:=bT.frozen 3;have Ci:=bT.frozen 4;have ahB:=bT.frozen 5;have ahC:=bT.frozen 6;have ahD:=bT.frozen 7
 go_wp2
 clear aq bG
 refine iE 0 fun IK kH=>?_
 replace I:=kH.aG I;replace bT:=kH.ja bT;replace cq:=cq.bY kH fC;replace cv:=cv.bY kH ih;replace cz:=cz.bY kH fH;have aq:=bT.aI
 refine bodyPost_ret (v:= .tuple #[.agg #[.slice cl rs d0,.slice g1 j d1,ag,af,(0:Int),.slice none 0 0,.slice none 0 0,.slice Y (os.length + 1) gV],true]) (by simp [results,Tryz.results232,go_sem,aq]) rfl ?_
 exact abd
open Go.RowKit Go.G9
def arJ (Bl:Int) (Bm:ByteArray) (Bn:Int) (rs rd Bj:Bool) (rx:Int) (hz:Bool) (o:Out):lu Nat where
 par:=fun _=>[]
 val:=fun n p=>match n with
  | 9=> .agg #[.int .i64 Bl,.string Bm,.int .i64 Bn,.bool rs,.bool rd,.bool Bj,.int .i64 rx]
  | 15=> .bool hz
  | 17=> .slice (some ⟨p,0,none⟩) 1 1
  | _=>undef
 post:=fun n _ p cY V=>match n with
  | 17=>cY.heap.size= p∧aC V p 163 #[.int .i64 o.fU,.int .i64 o.mover,.bool o.hz]
  | _=>True
theorem aly (an ar ak al aA:Option Addr) (c0 au c2 c3 c4:Nat) (rs:List aM) (qs:List aN) (ag af sp:Int) (ws:List Int) (ad:List aK) (os:List Out) (Z:ed an ar ak al aA c0 au c2 c3 c4 rs qs ws ad os) (yes no bB:Int) (j:Nat) (bI:qs.length= j + 1) (qr cp:Int) (dy:Bool) (bf:qs[j]? =some ⟨qr,cp,dy⟩) (aR:dF rs qs= true) (aT:jC rs qs= false) (cA:tG yes no bB= true) (dd:os.length < 12) (w:World) (R:dL w an ar ak al aA rs qs ws ad os):
 Calls Tryz.prog 253 #[.agg #[.slice an rs c0,.slice ar qs au,ag,af,sp,.slice ak ws c2,.slice al ad c3,.slice aA os c4],.agg #[yes,no,bB]] w fun e ah=>∃cl d0 cN d1 bk d2 bo d3 cn d4,e= .returned (.tuple #[.agg #[.slice cl rs d0,.slice cN (qs.take j).length d1,ag,af,(0:Int),.slice bk ([]:List Int).length d2,.slice bo ([]:List aK).length d3,.slice cn (os ++ [(⟨qr,cp,pA (tw rs ⟨qr,cp,dy⟩) yes no⟩ :Out)]).length d4],true])∧gi w ah cl d0 cN d1 bk d2 bo d3 cn d4 rs (qs.take j) [] [] (os ++ [(⟨qr,cp,pA (tw rs ⟨qr,cp,dy⟩) yes no⟩ :Out)])∧Below w w ah:=by
 obtain⟨i0,hi,dk,dx,dC⟩:=info_parts GR
 have bL:=J R;have bj:=J Z;clear R Z
 obtain⟨⟨Bl,Bm,Bn,dn,rd,Bj,rx,YX⟩,bz⟩:=oi aR bf
 obtain⟨hz,xu⟩ :∃hz,pA (tw rs ⟨qr,cp,dy⟩) yes no= hz:=⟨_,rfl⟩
 have eg:tw rs ⟨qr,cp,dy⟩ =rx:=by simp only [tw];rw [bz]
 have rB:=aag cA
 rw [xu]
 rw [eg] at xu
 have yZ:(os ++ [(⟨qr,cp,hz⟩ :Out)]).length= os.length + 1:=by simp
 rw [yZ]
 have Ik:=J yZ;have Gy:((os.length:Int) == 12)= false:=beq_eq_false_iff_ne.2 (by omega)
 have ie:(qs.take j).length= j:=by rw [List.length_take];omega
 rw [ie]
 have eI:=J bI;have dc:=J bf;have ei:=J aR;have cJ:=J aT;have bP:=J cA;have qq:=J bz;have Lv:=J xu;have tU:=J ie;clear bI bf aR aT cA bz xu eg yZ ie
 go_in
 go_upto_region 1 with fail
 refine fv fun aH av aj dt ae=>?_
 have I:=av;have aF:=aj.aI;have fo:=dt.cK;have aq:=ae.aI;have gv:=ae.lt
 go_wp2_with fail
 refine (Ph an c0 rs bj.out.h0 bj.out.dP ar au qs bj.out.h1 bj.out.eh j eI.out qr cp dy dc.out ei.out cJ.out _ (bL.out.ft.U (ai I aw)) (bL.out.dz.U (ai I aw))).mono ?_
 rintro e aQ ⟨g1,d1,rfl,cv,aP⟩
 have ao:=be aH aP;replace I:=ai I ao;replace aj:=aj.to ao;clear aF;have aF:=aj.aI;replace dt:=dt.to ao;clear fo;have fo:=dt.cK;replace ae:=ae.to ao;clear aq;have aq:=ae.aI
 rw [tU.out]
 rw [tU.out] at cv
 go_upto_region 2 with fail
 have EG:=cv.bh (ca aQ (.cells #[qr,cp,dy] 115));clear cv;have aL:Below aQ aQ (World.alloc aQ (.cells #[qr,cp,dy] 115)):=ca aQ _
 have ej:=aC.new aQ 115 #[qr,cp,dy]
 generalize World.alloc aQ (.cells #[qr,cp,dy] 115)= ra at *
 replace I:=ai I aL
 obtain⟨iB,q1,gn⟩:=ej.cK
 clear aF;replace aj:=aj.to aL;have aF:=aj.aI;clear fo;replace dt:=dt.to aL;have fo:=dt.cK;clear aq;replace ae:=ae.to aL;have aq:=ae.aI;have cv:=EG;clear EG
 go_wp2_with fail
 refine (Pn yes no bB _ bP.out _).mono ?_
 rintro e cf ⟨rfl,cZ⟩
 have bV:=be ra cZ;replace I:=ai I bV;replace cv:=cv.bh bV;replace aj:=aj.to bV;clear aF;have aF:=aj.aI;replace dt:=dt.to bV;clear fo;have fo:=dt.cK;replace ae:=ae.to bV;clear aq;have aq:=ae.aI;replace ej:=ej.to bV;clear iB q1 gn
 obtain⟨iB,q1,gn⟩:=ej.cK
 have vq:=I.size
 go_wp2_with fail
 refine (aay an ar ak al aA c0 au c2 c3 c4 rs qs ag af sp ws ad os bj.out (some ⟨g1,0,none⟩) j d1 _ (bL.out.U (ai I aw))).mono ?_
 rintro e dE ⟨cl,d0,cn,d4,rfl,cq,cz,ek⟩
 have cG:=be cf ek;replace I:=ai I cG;replace cv:=cv.bh cG;replace aj:=aj.to cG;clear aF;have aF:=aj.aI;replace dt:=dt.to cG;clear fo;have fo:=dt.cK;replace ae:=ae.to cG;clear aq;have aq:=ae.aI;replace ej:=ej.to cG;clear iB q1 gn
 obtain⟨iB,q1,gn⟩:=ej.cK
 have aro:=I.size;have akl:=ae.lt
 go_upto_region 5 with fail
 have EF:=cq.bh (ca dE (.cells #[.slice cl rs d0,.slice g1 j d1,ag,af,(0:Int),.slice none 0 0,.slice none 0 0,.slice cn os d4] 44));have sf:=cz.bh (ca dE (.cells #[.slice cl rs d0,.slice g1 j d1,ag,af,(0:Int),.slice none 0 0,.slice none 0 0,.slice cn os d4] 44))
 clear cq cz;have fb:Below dE dE (World.alloc dE (.cells #[.slice cl rs d0,.slice g1 j d1,ag,af,(0:Int),.slice none 0 0,.slice none 0 0,.slice cn os d4] 44)):=ca dE _
 have aO:=aC.new dE 44 #[.slice cl rs d0,.slice g1 j d1,ag,af,(0:Int),.slice none 0 0,.slice none 0 0,.slice cn os d4]
 replace cv:=cv.bh fb
 generalize World.alloc dE (.cells #[.slice cl rs d0,.slice g1 j d1,ag,af,(0:Int),.slice none 0 0,.slice none 0 0,.slice cn os d4] 44)= tI at *
 replace I:=ai I fb;have bG:=aO.aI;clear aF;replace aj:=aj.to fb;have aF:=aj.aI;clear fo;replace dt:=dt.to fb;have fo:=dt.cK;clear aq;replace ae:=ae.to fb;have aq:=ae.aI;clear iB q1 gn;replace ej:=ej.to fb
 obtain⟨iB,q1,gn⟩:=ej.cK
 have cq:=EF.base (B':=w.heap.size) vq;have cz:=sf.base (B':=w.heap.size) vq;clear EF sf
 obtain⟨sQ,FH⟩ :∃X:World→Prop,∀V,X V↔(Below w w V∧aC V (w.heap.size) 44 #[.slice an rs c0,.slice ar qs au,ag,af,sp,.slice ak ws c2,.slice al ad c3,.slice aA os c4]∧aC V (w.heap.size + 1) 146 #[yes,no,bB]∧aC V (aQ.heap.size) 115 #[qr,cp,dy]∧aC V (dE.heap.size) 44 #[.slice cl rs d0,.slice g1 j d1,ag,af,(0:Int),.slice none 0 0,.slice none 0 0,.slice cn os d4]):=⟨_,fun _=>Iff.rfl⟩
 have lI:=J FH;clear FH
 haveI:Nonempty (cP sQ):=⟨⟨tI,((lI.out _).2 ⟨I,aj,dt,ej,aO⟩)⟩⟩
 clear aF;clear fo;clear aq;clear iB q1 gn;clear bG;have aF:=aC.qb (fun K:cP sQ=>((lI.out _).1 K.holds).2.1);have fo:=aC.jN (fun K:cP sQ=>((lI.out _).1 K.holds).2.2.1)
 obtain⟨iB,q1,gn⟩:=aC.jN (fun K:cP sQ=>((lI.out _).1 K.holds).2.2.2.1)
 have bG:=aC.qb (fun K:cP sQ=>((lI.out _).1 K.holds).2.2.2.2)
 have hf:=fun W=>(show (Instr.field 89 (.agg #[Bl,Bm,Bn,dn,rd,Bj,rx]) 6).run Tryz.prog W= .ok (.int .i64 rx) W by kernel_rfl)
 refine HQ (arJ Bl Bm Bn dn rd Bj rx hz ⟨qr,cp,hz⟩) sQ [([0,1,2,3,4,5,6,7,8],9),([10,11,12,13,14],15),([16],17)] [] [([],[],18,true),([],[19],20,true)] [] [] (by kernel_rfl) (by kernel_rfl) ((lI.out _).2 ⟨I.drew,aj,dt,ej,aO⟩) (fun W eF h k=>((lI.out _).2 ⟨((lI.out _).1 h).1.trans (k.mono ((lI.out _).1 h).1.size),((lI.out _).1 h).2.1.U k ((lI.out _).1 h).2.1.lt,((lI.out _).1 h).2.2.1.U k ((lI.out _).1 h).2.2.1.lt,((lI.out _).1 h).2.2.2.1.U k ((lI.out _).1 h).2.2.2.1.lt,((lI.out _).1 h).2.2.2.2.U k ((lI.out _).1 h).2.2.2.2.lt⟩)) ?_
 intro bu
 refine iF (some 45) rfl (.agg #[Bl,Bm,Bn,dn,rd,Bj,rx]) rfl fun hH eN=>?_
 change wpQuiet _ _ _ _ (_ ::_ ::_ ::_ ::_ ::_ ::_ ::_ ::_ ::[]) _
 repeat (go_big_quiet_step (fail))
 refine wpQuiet_nil ?_
 refine⟨fun k fO=>?_,eN _ ?_⟩
 ·change wpList _ _ _ (_ ::[]) _ _
  go_wp2_with fail
  refine (qY an c0 rs bj.out.h0 ⟨qr,cp,dy⟩ ⟨Bl,Bm,Bn,dn,rd,Bj,rx,YX⟩ qq.out _ (bL.out.ft.U ((lI.out _).1 k.holds).1)).mono ?_
  rintro e mP ⟨rfl,fR⟩
  go_wp2
  exact hZ ⟨0,rfl,fR,trivial⟩
 simp only [Act.put]
 go_simp
 refine iF (some 51) rfl (.bool hz) rfl fun hH eN=>?_
 change wpQuiet _ _ _ _ (_ ::_ ::_ ::_ ::_ ::[]) _
 repeat (go_big_quiet_step (fail))
 refine wpQuiet_nil ?_
 refine⟨fun k fO=>?_,eN _ ?_⟩
 ·change wpList _ _ _ (_ ::[]) _ _
  go_wp2_with fail
  refine (alR rx yes no (by omega) (by omega) (by omega) (by omega) hz Lv.out _).mono ?_
  rintro e mP ⟨rfl,fR⟩
  go_wp2
  first | exact hZ ⟨0,rfl,fR,trivial⟩ | (subst fR;exact hZ ⟨0,rfl,Below.refl _ _,trivial⟩)
 simp only [Act.put]
 go_simp
 refine iF (some 53) rfl (.slice (some ⟨bu 17,0,none⟩) 1 1) rfl fun hH eN=>?_
 change wpQuiet _ _ _ _ (_ ::[]) _
 repeat (go_big_quiet_step (fail))
 refine wpQuiet_nil ?_
 refine⟨fun k fO=>?_,eN _ ?_⟩
 ·exact Rk
 simp only [Act.put]
 go_simp
 refine tM ?_
 change wpQuiet _ _ _ _ ([]) _
 refine wpQuiet_nil ?_
 intro cY V W aY bK
 obtain⟨Ao,ry⟩ :(cY 17).heap.size= bu 17∧aC (V 17) (bu 17) 163 #[qr,cp,.bool hz]:=aY.post 17 (by simp)
 have Cn:=ry.U (aY.bh 17 (by simp)) ry.lt;clear aF;clear fo;clear iB q1 gn;clear bG;have Ay:Below tI tI W:=ai aw (aY.whole 17 (by simp)).qZ;replace I:=ai I Ay;replace cv:=cv.bh Ay;replace cq:=cq.bh Ay;replace cz:=cz.bh Ay;replace ae:=ae.to Ay;have aq:=ae.aI;replace ej:=ej.to Ay
 obtain⟨iB,q1,gn⟩:=ej.cK
 replace aO:=aO.to Ay;have bG:=aO.aI;clear aY Ao ry bK hf
 generalize bu 17= pU at *
 have LR:Hid (aJ 3 Out.cells W (some ⟨pU,0,none⟩) [(⟨qr,cp,hz⟩ :Out)]):=J (fun _=>⟨pU,0,rfl,Cn.lt,fun i y hy j u hu=>by
  exact aaY⟩)
 have qM:=cz.cH aO;have sw:=cz.cH ae;have FX:=cz.apart cq (by decide);have FY:=cz.apart cv (by decide);have oG:=cz.lt;have la:=J cz;have lr:=J cv;have jI:=J cq;have cg:=J aO;have jf:=J ae;have eE:=J I;have zS:=J qM;have zT:=J sw;have Bz:=J FX;have Lu:=J FY;have zR:=J oG;have QE:=I.size;clear cz cv cq Cn qM sw FX FY oG
 refine pn fun gr dX=>?_
 refine wpQuiet_nil ?_
 refine wpQuiet_nil ?_
 change wpList _ _ _ (_ ::[]) _ _
 go_wp2_with ((at_builtin;refine kJ rfl _ _ 42 rfl _ 163 i0 _ 3 24 Tryz.underlying42 hi dk dx dC rfl (by decide) Out.cells AY PN _ os rfl la.out ⟨pU,0,none⟩ 1 ⟨qr,cp,hz⟩ rfl LR.out (by unfold maxLen;omega) (by omega) (by omega) ?_;intro v9 mP kP lh Al;clear Al;obtain⟨Y,gV,rfl,q1,gn,nf⟩:=kP.form AY;clear q1 gn nf;rw [Ik.out] at kP))
 have ec:=cg.out.jO lh (fun e=>zS.out _ e.symm rfl);have bT:=jf.out.jO lh (fun e=>zT.out _ e.symm rfl);have cq:=jI.out.kept lh (fun k ax e=>Bz.out k e.symm ax.symm);have cv:=lr.out.kept lh (fun k ax e=>Lu.out k e.symm ax.symm);have cz:=kP;have DV:Below w w mP:=eE.out.grown lh (by omega) (fun q bf=>by have:=(zR.out q bf).1;omega);clear aO ae aj dt ej I iB q1 gn bG aq lh kP
 refine yB (dX _ _ ?_)
 refine pn fun Ex ux=>?_
 refine wpQuiet_nil ?_
 change wpQuiet _ _ _ _ (_ ::[]) _
 haveI:Nonempty (cP (fun _=>True)):=⟨⟨w,trivial⟩⟩
 try simp only [Act.put]
 try go_simp
 repeat (go_big_quiet_step (fail))
 refine wpQuiet_nil ?_
 change wpList _ _ _ (_ ::[]) _ _
 have I:=DV;clear DV;have aq:=bT.aI;have bG:=ec.aI;have fC:=cq.cH ec;have ih:=cv.cH ec;have fH:=cz.cH ec;have MZ:=ec.frozen 7
 go_wp2
 clear aq bG
 refine kG 7 fun IJ jT=>?_
 replace I:=jT.aG I;replace bT:=jT.dJ bT;replace ec:=jT.PW ec;replace cq:=cq.bY jT fC;replace cv:=cv.bY jT ih;replace cz:=cz.bY jT fH;have aq:=bT.aI;have bG:=ec.aI
 clear fC ih fH MZ
 refine yB (ux _ _ ?_)
 refine zC ?_
 refine wpQuiet_nil ?_
 refine wpQuiet_nil ?_
 have fC:=cq.cH bT;have ih:=cv.cH bT;have fH:=cz.cH bT;have Ce:=bT.frozen 0;have Cf:=bT.frozen 1;have Cg:=bT.frozen 2;have Ch:=bT.frozen 3;have Ci:=bT.frozen 4;have ahB:=bT.frozen 5;have ahC:=bT.frozen 6;have ahD:=bT.frozen 7
 go_wp2
 clear aq bG
 refine iE 0 fun IK kH=>?_
 replace I:=kH.aG I;replace bT:=kH.ja bT;replace cq:=cq.bY kH fC;replace cv:=cv.bY kH ih;replace cz:=cz.bY kH fH;have aq:=bT.aI
 refine bodyPost_ret (v:= .tuple #[.agg #[.slice cl rs d0,.slice g1 j d1,ag,af,(0:Int),.slice none 0 0,.slice none 0 0,.slice Y (os.length + 1) gV],true]) (by simp [results,Tryz.results253,go_sem,aq]) rfl ?_
 exact abd
open Go.RowKit Go.G9
def hq (o:Option cF) (w:World) (e:Ending) (ah:World):Prop:=match o with
 | some n=>∃cl d0 cN d1 bk d2 bo d3 cn d4,e= .returned (.tuple #[.agg #[.slice cl n.bx.length d0,.slice cN n.bH.length d1,.int .i64 n.de,.int .i64 n.cU,.int .i64 n.dH,.slice bk n.bJ.length d2,.slice bo n.bM.length d3,.slice cn n.bt.length d4],.bool true])∧gi w.heap.size ah cl d0 cN d1 bk d2 bo d3 cn d4 n.bx n.bH n.bJ n.bM n.bt∧Below w.heap.size w ah
 | none=>e= .returned (.tuple #[.agg #[.slice none 0 0,.slice none 0 0,.int .i64 0,.int .i64 0,.int .i64 0,.slice none 0 0,.slice none 0 0,.slice none 0 0],.bool false])∧Below w.heap.size w ah
theorem alm (an:Option Addr) (c0:Nat) (rs:List aM) (h0:rs.length≤1048576) (ga:rs.length≤c0) (ar:Option Addr) (au:Nat) (qs:List aN) (h1:qs.length≤1048576) (aU:ar= none→qs= []∧au= 0) (id mem:Int) (ps:List aN) (az:jD rs qs id mem= some ps) (w:World) (aW:aJ 7 aM.cells w an rs) (aV:aJ 3 aN.cells w ar qs):Calls Tryz.prog 254 #[.slice an rs c0,.slice ar qs au,id,mem] w fun e ah=>∃A c,e= .returned (.tuple #[.slice A ps c,true])∧aX w 115 3 aN.cells ah (.slice A ps c) ps∧Below w w ah:=by
 have h:=WK an c0 rs h0 ga ar au qs h1 aU id mem w aW aV
 rw [az] at h
 exact h
theorem alk (an:Option Addr) (c0:Nat) (rs:List aM) (h0:rs.length≤1048576) (ga:rs.length≤c0) (ar:Option Addr) (au:Nat) (qs:List aN) (h1:qs.length≤1048576) (aU:ar= none→qs= []∧au= 0) (id mem:Int) (az:jD rs qs id mem= none) (w:World) (aW:aJ 7 aM.cells w an rs) (aV:aJ 3 aN.cells w ar qs):Calls Tryz.prog 254 #[.slice an rs c0,.slice ar qs au,id,mem] w fun e ah=>∃A c,e= .returned (.tuple #[.slice A 0 c,false])∧Below w w ah:=by
 have h:=WK an c0 rs h0 ga ar au qs h1 aU id mem w aW aV
 rw [az] at h
 exact h.mono fun e ah ⟨A,c,he,_,aE⟩=>⟨A,c,he,aE⟩
theorem Zo (an:Option Addr) (c0:Nat) (rs:List aM) (h0:rs.length≤1048576) (ar:Option Addr) (au:Nat) (qs:List aN) (h1:qs.length≤1048576) (aU:ar= none→qs= []∧au= 0) (id mem:Int) (ps:List aN) (az:jD rs qs id mem= some ps) (w:World) (aW:aJ 7 aM.cells w an rs) (aV:aJ 3 aN.cells w ar qs):Calls Tryz.prog 230 #[.slice an rs c0,.slice ar qs au,id,mem] w fun e ah=>∃A c,e= .returned (.tuple #[.slice A ps c,true])∧aX w 115 3 aN.cells ah (.slice A ps c) ps∧Below w w ah:=by
 have h:=Zp an c0 rs h0 ar au qs h1 aU id mem w aW aV
 rw [az] at h
 exact h
theorem aqf (an:Option Addr) (c0:Nat) (rs:List aM) (h0:rs.length≤1048576) (ar:Option Addr) (au:Nat) (qs:List aN) (h1:qs.length≤1048576) (aU:ar= none→qs= []∧au= 0) (id mem:Int) (az:jD rs qs id mem= none) (w:World) (aW:aJ 7 aM.cells w an rs) (aV:aJ 3 aN.cells w ar qs):Calls Tryz.prog 230 #[.slice an rs c0,.slice ar qs au,id,mem] w fun e ah=>∃A c,e= .returned (.tuple #[.slice A 0 c,false])∧Below w w ah:=by
 have h:=Zp an c0 rs h0 ar au qs h1 aU id mem w aW aV
 rw [az] at h
 exact h.mono fun e ah ⟨A,c,he,_,aE⟩=>⟨A,c,he,aE⟩
theorem alB (an:Option Addr) (c0:Nat) (rs:List aM) (h0:rs.length≤1048576) (ga:rs.length≤c0) (ar:Option Addr) (au:Nat) (qs:List aN) (h1:qs.length≤1048576) (hU:qs.length≤au) (mem:Int) (ps:List aN) (az:ks rs qs mem= some ps) (w:World) (aW:aJ 7 aM.cells w an rs) (aV:aJ 3 aN.cells w ar qs):Calls Tryz.prog 255 #[.slice an rs c0,.slice ar qs au,mem] w fun e ah=>∃A c,e= .returned (.tuple #[.slice A ps c,true])∧aX w 115 3 aN.cells ah (.slice A ps c) ps∧Below w w ah:=by
 have h:=WO an c0 rs h0 ga ar au qs h1 hU mem w aW aV
 rw [az] at h
 exact h
theorem alA (an:Option Addr) (c0:Nat) (rs:List aM) (h0:rs.length≤1048576) (ga:rs.length≤c0) (ar:Option Addr) (au:Nat) (qs:List aN) (h1:qs.length≤1048576) (hU:qs.length≤au) (mem:Int) (az:ks rs qs mem= none) (w:World) (aW:aJ 7 aM.cells w an rs) (aV:aJ 3 aN.cells w ar qs):Calls Tryz.prog 255 #[.slice an rs c0,.slice ar qs au,mem] w fun e ah=>∃A c,e= .returned (.tuple #[.slice A 0 c,false])∧Below w w ah:=by
 have h:=WO an c0 rs h0 ga ar au qs h1 hU mem w aW aV
 rw [az] at h
 exact h.mono fun e ah ⟨A,c,he,_,aE⟩=>⟨A,c,he,aE⟩
theorem Zr (an:Option Addr) (c0:Nat) (rs:List aM) (h0:rs.length≤1048576) (ar:Option Addr) (au:Nat) (qs:List aN) (h1:qs.length≤1048576) (hU:qs.length≤au) (mem:Int) (ps:List aN) (az:ks rs qs mem= some ps) (w:World) (aW:aJ 7 aM.cells w an rs) (aV:aJ 3 aN.cells w ar qs):Calls Tryz.prog 233 #[.slice an rs c0,.slice ar qs au,mem] w fun e ah=>∃A c,e= .returned (.tuple #[.slice A ps c,true])∧aX w 115 3 aN.cells ah (.slice A ps c) ps∧Below w w ah:=by
 have h:=Zs an c0 rs h0 ar au qs h1 hU mem w aW aV
 rw [az] at h
 exact h
theorem aqv (an:Option Addr) (c0:Nat) (rs:List aM) (h0:rs.length≤1048576) (ar:Option Addr) (au:Nat) (qs:List aN) (h1:qs.length≤1048576) (hU:qs.length≤au) (mem:Int) (az:ks rs qs mem= none) (w:World) (aW:aJ 7 aM.cells w an rs) (aV:aJ 3 aN.cells w ar qs):Calls Tryz.prog 233 #[.slice an rs c0,.slice ar qs au,mem] w fun e ah=>∃A c,e= .returned (.tuple #[.slice A 0 c,false])∧Below w w ah:=by
 have h:=Zs an c0 rs h0 ar au qs h1 hU mem w aW aV
 rw [az] at h
 exact h.mono fun e ah ⟨A,c,he,_,aE⟩=>⟨A,c,he,aE⟩
theorem alu (an:Option Addr) (c0:Nat) (rs:List aM) (h0:rs.length≤1048576) (ga:rs.length≤c0) (ar:Option Addr) (au:Nat) (qs:List aN) (h1:qs.length≤1048576) (aU:ar= none→qs= []∧au= 0) (mem:Int) (ps:List aN) (az:jS rs qs mem= some ps) (w:World) (aW:aJ 7 aM.cells w an rs) (aV:aJ 3 aN.cells w ar qs):Calls Tryz.prog 180 #[.slice an rs c0,.slice ar qs au,mem] w fun e ah=>∃A c,e= .returned (.tuple #[.slice A ps c,true])∧aX w 115 3 aN.cells ah (.slice A ps c) ps∧Below w w ah:=by
 have h:=WN an c0 rs h0 ga ar au qs h1 aU mem w aW aV
 rw [az] at h
 exact h
theorem als (an:Option Addr) (c0:Nat) (rs:List aM) (h0:rs.length≤1048576) (ga:rs.length≤c0) (ar:Option Addr) (au:Nat) (qs:List aN) (h1:qs.length≤1048576) (aU:ar= none→qs= []∧au= 0) (mem:Int) (az:jS rs qs mem= none) (w:World) (aW:aJ 7 aM.cells w an rs) (aV:aJ 3 aN.cells w ar qs):Calls Tryz.prog 180 #[.slice an rs c0,.slice ar qs au,mem] w fun e ah=>∃A c,e= .returned (.tuple #[.slice A 0 c,false])∧Below w w ah:=by
 have h:=WN an c0 rs h0 ga ar au qs h1 aU mem w aW aV
 rw [az] at h
 exact h.mono fun e ah ⟨A,c,he,_,aE⟩=>⟨A,c,he,aE⟩
theorem aqn (an:Option Addr) (c0:Nat) (rs:List aM) (h0:rs.length≤1048576) (ar:Option Addr) (au:Nat) (qs:List aN) (h1:qs.length≤1048576) (aU:ar= none→qs= []∧au= 0) (mem:Int) (ps:List aN) (az:jS rs qs mem= some ps) (w:World) (aW:aJ 7 aM.cells w an rs) (aV:aJ 3 aN.cells w ar qs):Calls Tryz.prog 231 #[.slice an rs c0,.slice ar qs au,mem] w fun e ah=>∃A c,e= .returned (.tuple #[.slice A ps c,true])∧aX w 115 3 aN.cells ah (.slice A ps c) ps∧Below w w ah:=by
 have h:=Zq an c0 rs h0 ar au qs h1 aU mem w aW aV
 rw [az] at h
 exact h
theorem aqm (an:Option Addr) (c0:Nat) (rs:List aM) (h0:rs.length≤1048576) (ar:Option Addr) (au:Nat) (qs:List aN) (h1:qs.length≤1048576) (aU:ar= none→qs= []∧au= 0) (mem:Int) (az:jS rs qs mem= none) (w:World) (aW:aJ 7 aM.cells w an rs) (aV:aJ 3 aN.cells w ar qs):Calls Tryz.prog 231 #[.slice an rs c0,.slice ar qs au,mem] w fun e ah=>∃A c,e= .returned (.tuple #[.slice A 0 c,false])∧Below w w ah:=by
 have h:=Zq an c0 rs h0 ar au qs h1 aU mem w aW aV
 rw [az] at h
 exact h.mono fun e ah ⟨A,c,he,_,aE⟩=>⟨A,c,he,aE⟩
theorem WJ (an:Option Addr) (c0:Nat) (rs:List aM) (h0:rs.length≤1048576) (ga:rs.length≤c0) (ar:Option Addr) (au:Nat) (qs:List aN) (h1:qs.length≤1048576) (aU:ar= none→qs= []∧au= 0) (ps:List aN) (az:lB rs qs= some ps) (w:World) (aW:aJ 7 aM.cells w an rs) (aV:aJ 3 aN.cells w ar qs):Calls Tryz.prog 256 #[.slice an rs c0,.slice ar qs au] w fun e ah=>∃A c,e= .returned (.tuple #[.slice A ps c,true])∧aX w 115 3 aN.cells ah (.slice A ps c) ps∧Below w w ah:=by
 have h:=akC an c0 rs h0 ga ar au qs h1 aU w aW aV
 rw [az] at h
 exact h
theorem Zh (an:Option Addr) (c0:Nat) (rs:List aM) (h0:rs.length≤1048576) (ar:Option Addr) (au:Nat) (qs:List aN) (h1:qs.length≤1048576) (aU:ar= none→qs= []∧au= 0) (hU:qs.length≤au) (ps:List aN) (az:lB rs qs= some ps) (w:World) (aW:aJ 7 aM.cells w an rs) (aV:aJ 3 aN.cells w ar qs):Calls Tryz.prog 234 #[.slice an rs c0,.slice ar qs au] w fun e ah=>∃A c,e= .returned (.tuple #[.slice A ps c,true])∧aX w 115 3 aN.cells ah (.slice A ps c) ps∧Below w w ah:=by
 have h:=apC an c0 rs h0 ar au qs h1 aU hU w aW aV
 rw [az] at h
 exact h
theorem alz (an ar ak al aA:Option Addr) (c0 au c2 c3 c4:Nat) (rs:List aM) (qs:List aN) (ag af sp:Int) (ws:List Int) (ad:List aK) (os:List Out) (Z:ed an ar ak al aA c0 au c2 c3 c4 rs qs ws ad os) (mem val:Int) (yes no bB:Int) (n:cF) (az:pk ⟨rs,qs,ag,af,sp,ws,ad,os⟩ ⟨7,mem,val,yes,no,bB⟩ =some n) (aR:dF rs qs= true) (dd:os.length≤12) (w:World) (R:dL w an ar ak al aA rs qs ws ad os):
 Calls Tryz.prog 253 #[.agg #[.slice an rs c0,.slice ar qs au,ag,af,sp,.slice ak ws c2,.slice al ad c3,.slice aA os c4],.agg #[yes,no,bB]] w fun e ah=>∃cl d0 cN d1 bk d2 bo d3 cn d4,e= .returned (.tuple #[.agg #[.slice cl n.bx d0,.slice cN n.bH d1,n.de,n.cU,n.dH,.slice bk n.bJ d2,.slice bo n.bM d3,.slice cn n.bt d4],true])∧gi w ah cl d0 cN d1 bk d2 bo d3 cn d4 n.bx n.bH n.bJ n.bM n.bt∧Below w w ah:=by
 obtain⟨ps,⟨qr,cp,dy⟩,bS,cA,h12,rfl⟩:=KV az
 dsimp only at bS cA h12
 unfold rv at bS
 split at bS
 ·rename_i q bf
  split at bS
  ·rename_i aG
   cases bS
   simp only [Bool.and_eq_true,Bool.not_eq_true'] at aG
   have aT:=(List.getElem?_eq_some_iff.1 bf).1
   exact aly an ar ak al aA c0 au c2 c3 c4 rs qs ag af sp ws ad os Z yes no bB (qs.length - 1) (by omega) qr cp dy bf aG.1 aG.2 cA (by omega) w R
  ·cases bS
 ·cases bS
theorem aqu (an ar ak al aA:Option Addr) (c0 au c2 c3 c4:Nat) (rs:List aM) (qs:List aN) (ag af sp:Int) (ws:List Int) (ad:List aK) (os:List Out) (Z:ed an ar ak al aA c0 au c2 c3 c4 rs qs ws ad os) (mem val:Int) (yes no bB:Int) (aZ:(sp != 0)= false) (n:cF) (az:pk ⟨rs,qs,ag,af,sp,ws,ad,os⟩ ⟨7,mem,val,yes,no,bB⟩ =some n) (aR:dF rs qs= true) (dd:os.length≤12) (w:World) (R:dL w an ar ak al aA rs qs ws ad os):
 Calls Tryz.prog 232 #[.agg #[.slice an rs c0,.slice ar qs au,ag,af,sp,.slice ak ws c2,.slice al ad c3,.slice aA os c4],.agg #[yes,no,bB]] w fun e ah=>∃cl d0 cN d1 bk d2 bo d3 cn d4,e= .returned (.tuple #[.agg #[.slice cl n.bx d0,.slice cN n.bH d1,n.de,n.cU,n.dH,.slice bk n.bJ d2,.slice bo n.bM d3,.slice cn n.bt d4],true])∧gi w ah cl d0 cN d1 bk d2 bo d3 cn d4 n.bx n.bH n.bJ n.bM n.bt∧Below w w ah:=by
 obtain⟨ps,⟨qr,cp,dy⟩,bS,cA,h12,rfl⟩:=KV az
 dsimp only at bS cA h12
 unfold rv at bS
 split at bS
 ·rename_i q bf
  split at bS
  ·rename_i aG
   cases bS
   simp only [Bool.and_eq_true,Bool.not_eq_true'] at aG
   have aT:=(List.getElem?_eq_some_iff.1 bf).1
   exact aqt an ar ak al aA c0 au c2 c3 c4 rs qs ag af sp ws ad os Z yes no bB aZ (qs.length - 1) (by omega) qr cp dy bf aG.1 aG.2 cA (by omega) w R
  ·cases bS
 ·cases bS
open Go.RowKit Go.G9
theorem ads {p:Prop} (h:p:=by
 have ez:=ae.jb
 go_wp2
 clear aF aq
 refine iE 0 fun cQ aD=>?_
 replace I:=aD.aG I;replace ae:=aD.ja ae;have aq:=ae.aI
 refine bodyPost_ret (v:= .tuple #[.agg #[.slice none 0 0,.slice none 0 0,(0:Int),(0:Int),(0:Int),.slice none 0 0,.slice none 0 0,.slice none 0 0],false]) (by simp [results,Tryz.results178,go_sem,aq]) rfl ?_
 exact⟨rfl,I⟩):p:=h
theorem JM (an ar ak al aA:Option Addr) (c0 au c2 c3 c4:Nat) (rs:List aM) (qs:List aN) (ag af sp:Int) (ws:List Int) (ad:List aK) (os:List Out) (Z:ed an ar ak al aA c0 au c2 c3 c4 rs qs ws ad os) (kind mem val yes no bB:Int) (aZ:(sp != 0)= true) (w:World) (R:dL w an ar ak al aA rs qs ws ad os):
 Calls Tryz.prog 178 #[.agg #[.slice an rs c0,.slice ar qs au,ag,af,sp,.slice ak ws c2,.slice al ad c3,.slice aA os c4],.agg #[kind,mem,val,yes,no,bB]] w (hq none w):=by
 clear R Z
 go_in
 go_upto_region 1 with fail
 refine fv fun aH av aj aU ae=>?_
 have I:=av;have aF:=aj.aI;have aq:=ae.aI
 exact ads
theorem Rc {p:Prop} (h:p:=by
 rintro e aQ ⟨oU,pg,rfl,fB,aP⟩
 have ao:=be aH aP;replace I:=ai I ao;replace aj:=aj.to ao;clear aF;have aF:=aj.aI;clear a';replace ae:=ae.to ao;clear aq;have aq:=ae.aI;have vp:=I.size
 go_wp2_with fail
 refine (aay an ar ak al aA c0 au c2 c3 c4 rs qs ag af sp ws ad os bj.out oU ps.length pg _ (bL.out.U (ai I aw))).mono ?_
 rintro e bA ⟨cl,d0,cn,d4,rfl,cq,cz,bC⟩
 have aL:=be aQ bC;replace I:=ai I aL;replace fB:=fB.bh aL;clear aF;replace ae:=ae.to aL;clear aq;have aq:=ae.aI;have fC:=cq.cH ae;have sG:=fB.cH ae;have fH:=cz.cH ae;have ez:=ae.jb
 go_wp2
 clear aq
 refine iE 0 fun cQ aD=>?_
 replace I:=aD.aG I;replace ae:=aD.ja ae;replace fB:=fB.bY aD sG;replace cq:=cq.bY aD fC;replace cz:=cz.bY aD fH;have aq:=ae.aI
 refine bodyPost_ret (v:= .tuple #[.agg #[.slice cl rs d0,.slice oU ps pg,ag,af,(0:Int),.slice none 0 0,.slice none 0 0,.slice cn os d4],true]) (by simp [results,Tryz.results178,go_sem,aq]) rfl ?_
 exact⟨cl,d0,oU,pg,none,0,none,0,cn,d4,rfl,⟨cq.base (by omega),fB.base (by omega),aX.nil,aX.nil,cz.base (by omega)⟩,I⟩):p:=h
theorem aku (an ar ak al aA:Option Addr) (c0 au c2 c3 c4:Nat) (rs:List aM) (qs:List aN) (ag af sp:Int) (ws:List Int) (ad:List aK) (os:List Out) (Z:ed an ar ak al aA c0 au c2 c3 c4 rs qs ws ad os) (mem val yes no bB:Int) (ps:List aN) (az:jD rs qs val mem= some ps) (aZ:(sp != 0)= false) (w:World) (R:dL w an ar ak al aA rs qs ws ad os):
 Calls Tryz.prog 178 #[.agg #[.slice an rs c0,.slice ar qs au,ag,af,sp,.slice ak ws c2,.slice al ad c3,.slice aA os c4],.agg #[(1:Int),mem,val,yes,no,bB]] w (hq (some ⟨rs,ps,ag,af,0,[],[],os⟩) w):=by
 have bL:=J R;have bj:=J Z;clear R Z;have bD:=J az;clear az
 go_in
 go_upto_region 1 with fail
 refine fv fun aH av aj aU ae=>?_
 have I:=av;have aF:=aj.aI;have a':=aU.df;have aq:=ae.aI;have gv:=ae.lt
 go_wp2_with fail
 refine (alm an c0 rs bj.out.h0 bj.out.dP ar au qs bj.out.h1 bj.out.n1 val mem ps bD.out _ (bL.out.ft.U (ai I aw)) (bL.out.dz.U (ai I aw))).mono ?_
 exact Rc
theorem adb {p:Prop} (h:p:=by
 rintro e aQ ⟨oU,pg,rfl,aP⟩
 have ao:=be aH aP;replace I:=ai I ao;clear aF;clear a';replace ae:=ae.to ao;clear aq;have aq:=ae.aI;have ez:=ae.jb
 go_wp2
 clear aq
 refine iE 0 fun cQ aD=>?_
 replace I:=aD.aG I;replace ae:=aD.ja ae;have aq:=ae.aI
 refine bodyPost_ret (v:= .tuple #[.agg #[.slice none 0 0,.slice none 0 0,(0:Int),(0:Int),(0:Int),.slice none 0 0,.slice none 0 0,.slice none 0 0],false]) (by simp [results,Tryz.results178,go_sem,aq]) rfl ?_
 exact⟨rfl,I⟩):p:=h
theorem akt (an ar ak al aA:Option Addr) (c0 au c2 c3 c4:Nat) (rs:List aM) (qs:List aN) (ag af sp:Int) (ws:List Int) (ad:List aK) (os:List Out) (Z:ed an ar ak al aA c0 au c2 c3 c4 rs qs ws ad os) (mem val yes no bB:Int) (az:jD rs qs val mem= none) (aZ:(sp != 0)= false) (w:World) (R:dL w an ar ak al aA rs qs ws ad os):
 Calls Tryz.prog 178 #[.agg #[.slice an rs c0,.slice ar qs au,ag,af,sp,.slice ak ws c2,.slice al ad c3,.slice aA os c4],.agg #[(1:Int),mem,val,yes,no,bB]] w (hq none w):=by
 have bL:=J R;have bj:=J Z;clear R Z;have bD:=J az;clear az
 go_in
 go_upto_region 1 with fail
 refine fv fun aH av aj aU ae=>?_
 have I:=av;have aF:=aj.aI;have a':=aU.df;have aq:=ae.aI
 go_wp2_with fail
 refine (alk an c0 rs bj.out.h0 bj.out.dP ar au qs bj.out.h1 bj.out.n1 val mem bD.out _ (bL.out.ft.U (ai I aw)) (bL.out.dz.U (ai I aw))).mono ?_
 exact adb
theorem aky (an ar ak al aA:Option Addr) (c0 au c2 c3 c4:Nat) (rs:List aM) (qs:List aN) (ag af sp:Int) (ws:List Int) (ad:List aK) (os:List Out) (Z:ed an ar ak al aA c0 au c2 c3 c4 rs qs ws ad os) (mem val yes no bB:Int) (ps:List aN) (az:ks rs qs mem= some ps) (aZ:(sp != 0)= false) (w:World) (R:dL w an ar ak al aA rs qs ws ad os):
 Calls Tryz.prog 178 #[.agg #[.slice an rs c0,.slice ar qs au,ag,af,sp,.slice ak ws c2,.slice al ad c3,.slice aA os c4],.agg #[(8:Int),mem,val,yes,no,bB]] w (hq (some ⟨rs,ps,ag,af,0,[],[],os⟩) w):=by
 have bL:=J R;have bj:=J Z;clear R Z;have bD:=J az;clear az
 go_in
 go_upto_region 1 with fail
 refine fv fun aH av aj aU ae=>?_
 have I:=av;have aF:=aj.aI;have a':=aU.df;have aq:=ae.aI;have gv:=ae.lt
 go_wp2_with fail
 refine (alB an c0 rs bj.out.h0 bj.out.dP ar au qs bj.out.h1 bj.out.eh mem ps bD.out _ (bL.out.ft.U (ai I aw)) (bL.out.dz.U (ai I aw))).mono ?_
 exact Rc
theorem akx (an ar ak al aA:Option Addr) (c0 au c2 c3 c4:Nat) (rs:List aM) (qs:List aN) (ag af sp:Int) (ws:List Int) (ad:List aK) (os:List Out) (Z:ed an ar ak al aA c0 au c2 c3 c4 rs qs ws ad os) (mem val yes no bB:Int) (az:ks rs qs mem= none) (aZ:(sp != 0)= false) (w:World) (R:dL w an ar ak al aA rs qs ws ad os):
 Calls Tryz.prog 178 #[.agg #[.slice an rs c0,.slice ar qs au,ag,af,sp,.slice ak ws c2,.slice al ad c3,.slice aA os c4],.agg #[(8:Int),mem,val,yes,no,bB]] w (hq none w):=by
 have bL:=J R;have bj:=J Z;clear R Z;have bD:=J az;clear az
 go_in
 go_upto_region 1 with fail
 refine fv fun aH av aj aU ae=>?_
 have I:=av;have aF:=aj.aI;have a':=aU.df;have aq:=ae.aI
 go_wp2_with fail
 refine (alA an c0 rs bj.out.h0 bj.out.dP ar au qs bj.out.h1 bj.out.eh mem bD.out _ (bL.out.ft.U (ai I aw)) (bL.out.dz.U (ai I aw))).mono ?_
 exact adb
theorem akA (an ar ak al aA:Option Addr) (c0 au c2 c3 c4:Nat) (rs:List aM) (qs:List aN) (ag af sp:Int) (ws:List Int) (ad:List aK) (os:List Out) (Z:ed an ar ak al aA c0 au c2 c3 c4 rs qs ws ad os) (mem val yes no bB:Int) (ps:List aN) (az:lB rs qs= some ps) (aZ:(sp != 0)= false) (aT:ps.length < qs.length) (w:World) (R:dL w an ar ak al aA rs qs ws ad os):
 Calls Tryz.prog 178 #[.agg #[.slice an rs c0,.slice ar qs au,ag,af,sp,.slice ak ws c2,.slice al ad c3,.slice aA os c4],.agg #[(9:Int),mem,val,yes,no,bB]] w (hq (some ⟨rs,ps,ag,af,0,[],[],os⟩) w):=by
 have bL:=J R;have bj:=J Z;clear R Z;have bD:=J az;clear az
 go_in
 go_upto_region 1 with fail
 refine fv fun aH av aj aU ae=>?_
 have I:=av;have aF:=aj.aI;have a':=aU.df;have aq:=ae.aI;have gv:=ae.lt
 go_wp2_with fail
 refine (WJ an c0 rs bj.out.h0 bj.out.dP ar au qs bj.out.h1 bj.out.n1 ps bD.out _ (bL.out.ft.U (ai I aw)) (bL.out.dz.U (ai I aw))).mono ?_
 exact Rc
theorem akz (an ar ak al aA:Option Addr) (c0 au c2 c3 c4:Nat) (rs:List aM) (qs:List aN) (ag af sp:Int) (ws:List Int) (ad:List aK) (os:List Out) (Z:ed an ar ak al aA c0 au c2 c3 c4 rs qs ws ad os) (mem val yes no bB:Int) (ps:List aN) (az:lB rs qs= some ps) (aZ:(sp != 0)= false) (aT:¬ps.length < qs.length) (w:World) (R:dL w an ar ak al aA rs qs ws ad os):
 Calls Tryz.prog 178 #[.agg #[.slice an rs c0,.slice ar qs au,ag,af,sp,.slice ak ws c2,.slice al ad c3,.slice aA os c4],.agg #[(9:Int),mem,val,yes,no,bB]] w (hq none w):=by
 have bL:=J R;have bj:=J Z;clear R Z;have bD:=J az;clear az
 go_in
 go_upto_region 1 with fail
 refine fv fun aH av aj aU ae=>?_
 have I:=av;have aF:=aj.aI;have a':=aU.df;have aq:=ae.aI
 go_wp2_with fail
 refine (WJ an c0 rs bj.out.h0 bj.out.dP ar au qs bj.out.h1 bj.out.n1 ps bD.out _ (bL.out.ft.U (ai I aw)) (bL.out.dz.U (ai I aw))).mono ?_
 rintro e aQ ⟨oU,pg,rfl,fB,aP⟩
 have ao:=be aH aP;replace I:=ai I ao;replace aj:=aj.to ao;clear aF;have aF:=aj.aI;clear a';replace ae:=ae.to ao;clear aq;have aq:=ae.aI;clear fB
 exact ads
theorem akw (an ar ak al aA:Option Addr) (c0 au c2 c3 c4:Nat) (rs:List aM) (qs:List aN) (ag af sp:Int) (ws:List Int) (ad:List aK) (os:List Out) (Z:ed an ar ak al aA c0 au c2 c3 c4 rs qs ws ad os) (mem val yes no bB:Int) (aZ:(sp != 0)= false) (n:cF) (az:pk ⟨rs,qs,ag,af,sp,ws,ad,os⟩ ⟨7,mem,val,yes,no,bB⟩ =some n) (aR:dF rs qs= true) (dd:os.length≤12) (w:World) (R:dL w an ar ak al aA rs qs ws ad os):
 Calls Tryz.prog 178 #[.agg #[.slice an rs c0,.slice ar qs au,ag,af,sp,.slice ak ws c2,.slice al ad c3,.slice aA os c4],.agg #[(7:Int),mem,val,yes,no,bB]] w (hq (some n) w):=by
 have bL:=J R;have bj:=J Z;clear R Z;have bD:=J az;clear az
 go_in
 go_upto_region 1 with fail
 refine fv fun aH av aj aU ae=>?_
 have I:=av;have aF:=aj.aI;have a':=aU.df;have aq:=ae.aI;have gv:=ae.lt
 go_wp2_with fail
 refine (alz an ar ak al aA c0 au c2 c3 c4 rs qs ag af sp ws ad os bj.out mem val yes no bB n bD.out aR dd _ (bL.out.U (ai I aw))).mono ?_
 rintro e aQ ⟨cl,d0,cN,d1,bk,d2,bo,d3,cn,d4,rfl,dr,aP⟩
 have ao:=be aH aP;replace I:=ai I ao;clear aF;clear a';replace ae:=ae.to ao;clear aq;have aq:=ae.aI;have cq:=dr.kp;have cv:=dr.hO;have bF:=dr.fg;have bw:=dr.fF;have cz:=dr.lE;clear dr;have fC:=cq.cH ae;have ih:=cv.cH ae;have en:=bF.cH ae;have dI:=bw.cH ae;have fH:=cz.cH ae;have ez:=ae.jb
 go_wp2
 clear aq
 refine iE 0 fun cQ aD=>?_
 replace I:=aD.aG I;replace ae:=aD.ja ae;replace cq:=cq.bY aD fC;replace cv:=cv.bY aD ih;replace bF:=bF.bY aD en;replace bw:=bw.bY aD dI;replace cz:=cz.bY aD fH;have aq:=ae.aI
 refine bodyPost_ret (v:= .tuple #[.agg #[.slice cl n.bx d0,.slice cN n.bH d1,n.de,n.cU,n.dH,.slice bk n.bJ d2,.slice bo n.bM d3,.slice cn n.bt d4],true]) (by simp [results,Tryz.results178,go_sem,aq]) rfl ?_
 exact⟨cl,d0,cN,d1,bk,d2,bo,d3,cn,d4,rfl,⟨cq.base (by omega),cv.base (by omega),bF.base (by omega),bw.base (by omega),cz.base (by omega)⟩,I⟩
theorem akv (an ar ak al aA:Option Addr) (c0 au c2 c3 c4:Nat) (rs:List aM) (qs:List aN) (ag af sp:Int) (ws:List Int) (ad:List aK) (os:List Out) (Z:ed an ar ak al aA c0 au c2 c3 c4 rs qs ws ad os) (mem val yes no bB:Int) (aZ:(sp != 0)= false) (az:pk ⟨rs,qs,ag,af,sp,ws,ad,os⟩ ⟨7,mem,val,yes,no,bB⟩ =none) (w:World) (R:dL w an ar ak al aA rs qs ws ad os):
 Calls Tryz.prog 178 #[.agg #[.slice an rs c0,.slice ar qs au,ag,af,sp,.slice ak ws c2,.slice al ad c3,.slice aA os c4],.agg #[(7:Int),mem,val,yes,no,bB]] w (hq none w):=by
 have bL:=J R;have bj:=J Z;clear R Z;have bD:=J az;clear az
 go_in
 go_upto_region 1 with fail
 refine fv fun aH av aj aU ae=>?_
 have I:=av;have aF:=aj.aI;have a':=aU.df;have aq:=ae.aI
 go_wp2_with fail
 refine (alx an ar ak al aA c0 au c2 c3 c4 rs qs ag af sp ws ad os bj.out mem val yes no bB bD.out _ (bL.out.U (ai I aw))).mono ?_
 rintro e aQ ⟨rfl,aP⟩
 have ao:=be aH aP;replace I:=ai I ao;clear aF;clear a';replace ae:=ae.to ao;clear aq;have aq:=ae.aI;have ez:=ae.jb
 go_wp2
 clear aq
 refine iE 0 fun cQ aD=>?_
 replace I:=aD.aG I;replace ae:=aD.ja ae;have aq:=ae.aI
 refine bodyPost_ret (v:= .tuple #[.agg #[.slice none 0 0,.slice none 0 0,(0:Int),(0:Int),(0:Int),.slice none 0 0,.slice none 0 0,.slice none 0 0],false]) (by simp [results,Tryz.results178,go_sem,aq]) rfl ?_
 exact⟨rfl,I⟩
open Go.RowKit Go.G9
theorem zF {p:Prop} (h:p:=by
 clear H R Z
 cases o with
 | none=>
  go_in
  go_upto_region 1 with fail
  refine fv fun aH av aj aU ae=>?_
  have I:=av;have aF:=aj.aI;have a':=aU.df;have aq:=ae.aI
  go_wp2_with fail
  refine (mo.out _ (ai I aw)).mono ?_
  rintro e aQ ⟨rfl,aP⟩
  have ao:=be aH aP;replace I:=ai I ao;clear aF;clear a';replace ae:=ae.to ao;clear aq;have aq:=ae.aI;have ez:=ae.jb
  go_wp2
  clear aq
  refine iE 0 fun cQ aD=>?_
  replace I:=aD.aG I;replace ae:=aD.ja ae;have aq:=ae.aI
  refine bodyPost_ret (v:= .tuple #[.agg #[.slice none 0 0,.slice none 0 0,(0:Int),(0:Int),(0:Int),.slice none 0 0,.slice none 0 0,.slice none 0 0],false]) (by simp [results,Tryz.results103,go_sem,aq]) rfl ?_
  exact⟨rfl,I⟩
 | some n=>
  go_in
  go_upto_region 1 with fail
  refine fv fun aH av aj aU ae=>?_
  have I:=av;have aF:=aj.aI;have a':=aU.df;have aq:=ae.aI;have gv:=ae.lt
  go_wp2_with fail
  refine (mo.out _ (ai I aw)).mono ?_
  rintro e aQ ⟨cl,d0,cN,d1,bk,d2,bo,d3,cn,d4,rfl,dr,aP⟩
  have ao:=be aH aP;replace I:=ai I ao;clear aF;clear a';replace ae:=ae.to ao;clear aq;have aq:=ae.aI;have cq:=dr.kp;have cv:=dr.hO;have bF:=dr.fg;have bw:=dr.fF;have cz:=dr.lE;clear dr;have fC:=cq.cH ae;have ih:=cv.cH ae;have en:=bF.cH ae;have dI:=bw.cH ae;have fH:=cz.cH ae;have ez:=ae.jb
  go_wp2
  clear aq
  refine iE 0 fun cQ aD=>?_
  replace I:=aD.aG I;replace ae:=aD.ja ae;replace cq:=cq.bY aD fC;replace cv:=cv.bY aD ih;replace bF:=bF.bY aD en;replace bw:=bw.bY aD dI;replace cz:=cz.bY aD fH;have aq:=ae.aI
  refine bodyPost_ret (v:= .tuple #[.agg #[.slice cl n.bx d0,.slice cN n.bH d1,n.de,n.cU,n.dH,.slice bk n.bJ d2,.slice bo n.bM d3,.slice cn n.bt d4],true]) (by simp [results,Tryz.results103,go_sem,aq]) rfl ?_
  exact⟨cl,d0,cN,d1,bk,d2,bo,d3,cn,d4,rfl,⟨cq.base (by omega),cv.base (by omega),bF.base (by omega),bw.base (by omega),cz.base (by omega)⟩,I⟩):p:=h
theorem akY (an ar ak al aA:Option Addr) (c0 au c2 c3 c4:Nat) (rs:List aM) (qs:List aN) (ag af sp:Int) (ws:List Int) (ad:List aK) (os:List Out) (Z:ed an ar ak al aA c0 au c2 c3 c4 rs qs ws ad os) (mem val yes no bB:Int) (o:Option cF) (w:World) (R:dL w an ar ak al aA rs qs ws ad os) (H:∀W,Below w w W→Calls Tryz.prog 178 #[.agg #[.slice an rs c0,.slice ar qs au,ag,af,sp,.slice ak ws c2,.slice al ad c3,.slice aA os c4],.agg #[(1:Int),mem,val,yes,no,bB]] W (hq o W)):
 Calls Tryz.prog 103 #[.agg #[.slice an rs c0,.slice ar qs au,ag,af,sp,.slice ak ws c2,.slice al ad c3,.slice aA os c4],.agg #[(1:Int),mem,val,yes,no,bB]] w (hq o w):=by
 have mo:=J H
 exact zF
theorem alf (an ar ak al aA:Option Addr) (c0 au c2 c3 c4:Nat) (rs:List aM) (qs:List aN) (ag af sp:Int) (ws:List Int) (ad:List aK) (os:List Out) (Z:ed an ar ak al aA c0 au c2 c3 c4 rs qs ws ad os) (mem val yes no bB:Int) (o:Option cF) (w:World) (R:dL w an ar ak al aA rs qs ws ad os) (H:∀W,Below w w W→Calls Tryz.prog 178 #[.agg #[.slice an rs c0,.slice ar qs au,ag,af,sp,.slice ak ws c2,.slice al ad c3,.slice aA os c4],.agg #[(7:Int),mem,val,yes,no,bB]] W (hq o W)):
 Calls Tryz.prog 103 #[.agg #[.slice an rs c0,.slice ar qs au,ag,af,sp,.slice ak ws c2,.slice al ad c3,.slice aA os c4],.agg #[(7:Int),mem,val,yes,no,bB]] w (hq o w):=by
 have mo:=J H
 exact zF
theorem alg (an ar ak al aA:Option Addr) (c0 au c2 c3 c4:Nat) (rs:List aM) (qs:List aN) (ag af sp:Int) (ws:List Int) (ad:List aK) (os:List Out) (Z:ed an ar ak al aA c0 au c2 c3 c4 rs qs ws ad os) (mem val yes no bB:Int) (o:Option cF) (w:World) (R:dL w an ar ak al aA rs qs ws ad os) (H:∀W,Below w w W→Calls Tryz.prog 178 #[.agg #[.slice an rs c0,.slice ar qs au,ag,af,sp,.slice ak ws c2,.slice al ad c3,.slice aA os c4],.agg #[(8:Int),mem,val,yes,no,bB]] W (hq o W)):
 Calls Tryz.prog 103 #[.agg #[.slice an rs c0,.slice ar qs au,ag,af,sp,.slice ak ws c2,.slice al ad c3,.slice aA os c4],.agg #[(8:Int),mem,val,yes,no,bB]] w (hq o w):=by
 have mo:=J H
 exact zF
theorem alh (an ar ak al aA:Option Addr) (c0 au c2 c3 c4:Nat) (rs:List aM) (qs:List aN) (ag af sp:Int) (ws:List Int) (ad:List aK) (os:List Out) (Z:ed an ar ak al aA c0 au c2 c3 c4 rs qs ws ad os) (mem val yes no bB:Int) (o:Option cF) (w:World) (R:dL w an ar ak al aA rs qs ws ad os) (H:∀W,Below w w W→Calls Tryz.prog 178 #[.agg #[.slice an rs c0,.slice ar qs au,ag,af,sp,.slice ak ws c2,.slice al ad c3,.slice aA os c4],.agg #[(9:Int),mem,val,yes,no,bB]] W (hq o W)):
 Calls Tryz.prog 103 #[.agg #[.slice an rs c0,.slice ar qs au,ag,af,sp,.slice ak ws c2,.slice al ad c3,.slice aA os c4],.agg #[(9:Int),mem,val,yes,no,bB]] w (hq o w):=by
 have mo:=J H
 exact zF
theorem alb (an ar ak al aA:Option Addr) (c0 au c2 c3 c4:Nat) (rs:List aM) (qs:List aN) (ag af sp:Int) (ws:List Int) (ad:List aK) (os:List Out) (Z:ed an ar ak al aA c0 au c2 c3 c4 rs qs ws ad os) (mem val yes no bB:Int) (o:Option cF) (w:World) (R:dL w an ar ak al aA rs qs ws ad os) (H:∀W,Below w w W→Calls Tryz.prog 179 #[.agg #[.slice an rs c0,.slice ar qs au,ag,af,sp,.slice ak ws c2,.slice al ad c3,.slice aA os c4],.agg #[(3:Int),mem,val,yes,no,bB]] W (hq o W)):
 Calls Tryz.prog 103 #[.agg #[.slice an rs c0,.slice ar qs au,ag,af,sp,.slice ak ws c2,.slice al ad c3,.slice aA os c4],.agg #[(3:Int),mem,val,yes,no,bB]] w (hq o w):=by
 have mo:=J H
 exact zF
theorem alc (an ar ak al aA:Option Addr) (c0 au c2 c3 c4:Nat) (rs:List aM) (qs:List aN) (ag af sp:Int) (ws:List Int) (ad:List aK) (os:List Out) (Z:ed an ar ak al aA c0 au c2 c3 c4 rs qs ws ad os) (mem val yes no bB:Int) (o:Option cF) (w:World) (R:dL w an ar ak al aA rs qs ws ad os) (H:∀W,Below w w W→Calls Tryz.prog 179 #[.agg #[.slice an rs c0,.slice ar qs au,ag,af,sp,.slice ak ws c2,.slice al ad c3,.slice aA os c4],.agg #[(4:Int),mem,val,yes,no,bB]] W (hq o W)):
 Calls Tryz.prog 103 #[.agg #[.slice an rs c0,.slice ar qs au,ag,af,sp,.slice ak ws c2,.slice al ad c3,.slice aA os c4],.agg #[(4:Int),mem,val,yes,no,bB]] w (hq o w):=by
 have mo:=J H
 exact zF
theorem ald (an ar ak al aA:Option Addr) (c0 au c2 c3 c4:Nat) (rs:List aM) (qs:List aN) (ag af sp:Int) (ws:List Int) (ad:List aK) (os:List Out) (Z:ed an ar ak al aA c0 au c2 c3 c4 rs qs ws ad os) (mem val yes no bB:Int) (o:Option cF) (w:World) (R:dL w an ar ak al aA rs qs ws ad os) (H:∀W,Below w w W→Calls Tryz.prog 179 #[.agg #[.slice an rs c0,.slice ar qs au,ag,af,sp,.slice ak ws c2,.slice al ad c3,.slice aA os c4],.agg #[(5:Int),mem,val,yes,no,bB]] W (hq o W)):
 Calls Tryz.prog 103 #[.agg #[.slice an rs c0,.slice ar qs au,ag,af,sp,.slice ak ws c2,.slice al ad c3,.slice aA os c4],.agg #[(5:Int),mem,val,yes,no,bB]] w (hq o w):=by
 have mo:=J H
 exact zF
theorem ale (an ar ak al aA:Option Addr) (c0 au c2 c3 c4:Nat) (rs:List aM) (qs:List aN) (ag af sp:Int) (ws:List Int) (ad:List aK) (os:List Out) (Z:ed an ar ak al aA c0 au c2 c3 c4 rs qs ws ad os) (mem val yes no bB:Int) (o:Option cF) (w:World) (R:dL w an ar ak al aA rs qs ws ad os) (H:∀W,Below w w W→Calls Tryz.prog 179 #[.agg #[.slice an rs c0,.slice ar qs au,ag,af,sp,.slice ak ws c2,.slice al ad c3,.slice aA os c4],.agg #[(6:Int),mem,val,yes,no,bB]] W (hq o W)):
 Calls Tryz.prog 103 #[.agg #[.slice an rs c0,.slice ar qs au,ag,af,sp,.slice ak ws c2,.slice al ad c3,.slice aA os c4],.agg #[(6:Int),mem,val,yes,no,bB]] w (hq o w):=by
 have mo:=J H
 exact zF
theorem abr {p:Prop} (h:p:=by
 exact⟨cI,e0,oU,pg,cV,e2,cW,e3,cL,e4,rfl,⟨cq.base (by omega),fB.base (by omega),bF.base (by omega),bw.base (by omega),cz.base (by omega)⟩,I⟩):p:=h
theorem ala (an ar ak al aA:Option Addr) (c0 au c2 c3 c4:Nat) (rs:List aM) (qs:List aN) (ag af sp:Int) (ws:List Int) (ad:List aK) (os:List Out) (Z:ed an ar ak al aA c0 au c2 c3 c4 rs qs ws ad os) (mem val yes no bB:Int) (ps:List aN) (az:jS rs qs mem= some ps) (w:World) (R:dL w an ar ak al aA rs qs ws ad os):
 Calls Tryz.prog 103 #[.agg #[.slice an rs c0,.slice ar qs au,ag,af,sp,.slice ak ws c2,.slice al ad c3,.slice aA os c4],.agg #[(2:Int),mem,val,yes,no,bB]] w (hq (some ⟨rs,ps,ag,af,sp,ws,ad,os⟩) w):=by
 have bL:=J R;have bj:=J Z;clear R Z;have bD:=J az;clear az
 go_in
 go_upto_region 1 with fail
 refine fv fun aH av aj aU ae=>?_
 have I:=av;have aF:=aj.aI;have a':=aU.df;have aq:=ae.aI;have gv:=ae.lt
 go_wp2_with fail
 refine (alu an c0 rs bj.out.h0 bj.out.dP ar au qs bj.out.h1 bj.out.n1 mem ps bD.out _ (bL.out.ft.U (ai I aw)) (bL.out.dz.U (ai I aw))).mono ?_
 rintro e aQ ⟨oU,pg,rfl,fB,aP⟩
 have ao:=be aH aP;replace I:=ai I ao;replace aj:=aj.to ao;clear aF;have aF:=aj.aI;clear a';replace ae:=ae.to ao;clear aq;have aq:=ae.aI;have QC:=ao.size;have vp:=I.size
 go_wp2_with fail
 refine (Kk an ar ak al aA c0 au c2 c3 c4 rs qs ag af sp ws ad os bj.out _ (bL.out.U (ai I aw))).mono ?_
 rintro e bA ⟨cI,e0,cC,e1,cV,e2,cW,e3,cL,e4,rfl,dr,bC⟩
 have aL:=be aQ bC;replace I:=ai I aL;replace fB:=fB.bh aL;clear aF;replace ae:=ae.to aL;clear aq;have aq:=ae.aI;have aac:=aL.size;have KQ:=I.size
 go_upto_region 17 with fail
 have lv:=dr.bh (ca bA (.cells #[.slice cI rs e0,.slice cC qs e1,ag,af,sp,.slice cV ws e2,.slice cW ad e3,.slice cL os e4] 44));clear dr;have bV:Below bA bA (World.alloc bA (.cells #[.slice cI rs e0,.slice cC qs e1,ag,af,sp,.slice cV ws e2,.slice cW ad e3,.slice cL os e4] 44)):=ca bA _
 have aO:=aC.new bA 44 #[.slice cI rs e0,.slice cC qs e1,ag,af,sp,.slice cV ws e2,.slice cW ad e3,.slice cL os e4]
 replace fB:=fB.bh bV
 generalize World.alloc bA (.cells #[.slice cI rs e0,.slice cC qs e1,ag,af,sp,.slice cV ws e2,.slice cW ad e3,.slice cL os e4] 44)= tI at *
 replace I:=ai I bV;have bG:=aO.aI;clear aq;replace ae:=ae.to bV;have aq:=ae.aI;have cq:=lv.kp;have bF:=lv.fg;have bw:=lv.fF;have cz:=lv.lE;clear lv;have Ag:=aO.frozen 1;have fC:=cq.cH aO;have sG:=fB.cH aO;have en:=bF.cH aO;have dI:=bw.cH aO;have fH:=cz.cH aO
 go_upto_region 18 with fail
 clear aq bG
 refine kG 1 fun mb eQ=>?_
 replace I:=eQ.aG I;replace ae:=eQ.dJ ae;replace aO:=eQ.Ht aO;replace fB:=fB.bY eQ sG;replace cq:=cq.bY eQ fC;replace bF:=bF.bY eQ en;replace bw:=bw.bY eQ dI;replace cz:=cz.bY eQ fH
 have aq:=ae.aI;have bG:=aO.aI;clear fC sG en dI fH Ag;have fC:=cq.cH ae;have sG:=fB.cH ae;have en:=bF.cH ae;have dI:=bw.cH ae;have fH:=cz.cH ae;have ez:=ae.jb
 go_wp2
 clear aq bG
 refine iE 0 fun cQ aD=>?_
 replace I:=aD.aG I;replace ae:=aD.ja ae;replace fB:=fB.bY aD sG;replace cq:=cq.bY aD fC;replace bF:=bF.bY aD en;replace bw:=bw.bY aD dI;replace cz:=cz.bY aD fH;have aq:=ae.aI
 refine bodyPost_ret (v:= .tuple #[.agg #[.slice cI rs e0,.slice oU ps pg,ag,af,sp,.slice cV ws e2,.slice cW ad e3,.slice cL os e4],true]) (by simp [results,Tryz.results103,go_sem,aq]) rfl ?_
 exact abr
theorem adC {p:Prop} (h:p:=by
 refine iE 0 fun cQ aD=>?_
 replace I:=aD.aG I;replace ae:=aD.ja ae;have aq:=ae.aI
 refine bodyPost_ret (v:= .tuple #[.agg #[.slice none 0 0,.slice none 0 0,(0:Int),(0:Int),(0:Int),.slice none 0 0,.slice none 0 0,.slice none 0 0],false]) (by simp [results,Tryz.results103,go_sem,aq]) rfl ?_
 exact⟨rfl,I⟩):p:=h
theorem akZ (an ar ak al aA:Option Addr) (c0 au c2 c3 c4:Nat) (rs:List aM) (qs:List aN) (ag af sp:Int) (ws:List Int) (ad:List aK) (os:List Out) (Z:ed an ar ak al aA c0 au c2 c3 c4 rs qs ws ad os) (mem val yes no bB:Int) (az:jS rs qs mem= none) (w:World) (R:dL w an ar ak al aA rs qs ws ad os):
 Calls Tryz.prog 103 #[.agg #[.slice an rs c0,.slice ar qs au,ag,af,sp,.slice ak ws c2,.slice al ad c3,.slice aA os c4],.agg #[(2:Int),mem,val,yes,no,bB]] w (hq none w):=by
 have bL:=J R;have bj:=J Z;clear R Z;have bD:=J az;clear az
 go_in
 go_upto_region 1 with fail
 refine fv fun aH av aj aU ae=>?_
 have I:=av;have aF:=aj.aI;have a':=aU.df;have aq:=ae.aI
 go_wp2_with fail
 refine (als an c0 rs bj.out.h0 bj.out.dP ar au qs bj.out.h1 bj.out.n1 mem bD.out _ (bL.out.ft.U (ai I aw)) (bL.out.dz.U (ai I aw))).mono ?_
 rintro e aQ ⟨oU,pg,rfl,aP⟩
 have ao:=be aH aP;replace I:=ai I ao;clear aF;clear a';replace ae:=ae.to ao;clear aq;have aq:=ae.aI;have ez:=ae.jb
 go_wp2
 clear aq
 exact adC
theorem alj (an ar ak al aA:Option Addr) (c0 au c2 c3 c4:Nat) (rs:List aM) (qs:List aN) (ag af sp:Int) (ws:List Int) (ad:List aK) (os:List Out) (Z:ed an ar ak al aA c0 au c2 c3 c4 rs qs ws ad os) (kind mem val yes no bB:Int) (g1:(kind == 1)= false) (g2:(kind == 2)= false) (g3:(kind == 3)= false) (g4:(kind == 4)= false) (g5:(kind == 5)= false) (g6:(kind == 6)= false) (g7:(kind == 7)= false) (g8:(kind == 8)= false) (g9:(kind == 9)= false) (w:World) (R:dL w an ar ak al aA rs qs ws ad os):
 Calls Tryz.prog 103 #[.agg #[.slice an rs c0,.slice ar qs au,ag,af,sp,.slice ak ws c2,.slice al ad c3,.slice aA os c4],.agg #[kind,mem,val,yes,no,bB]] w (hq none w):=by
 clear R Z
 go_in
 go_upto_region 1 with fail
 refine fv fun aH av aj aU ae=>?_
 have I:=av;have a':=aU.df;have aq:=ae.aI;have ez:=ae.jb
 go_wp2
 clear a' aq
 exact adC
end Go.Proofs.YtlaaemmmbodaaaaGreatDoor
