/- Parts. -/
import Derived.Test.YtlaaemmmbodaaaaGreatDoorRp6
set_option maxHeartbeats 16000000
set_option maxRecDepth 100000
set_option linter.unnecessarySimpa false
set_option linter.unusedSimpArgs false
set_option linter.unusedVariables false
namespace Go.Proofs.YtlaaemmmbodaaaaGreatDoor
open Go.RowKit Go.G9
theorem abm {p:Prop} (h:p:=by
 have xv:Below w w bU:=(kt.alloc kt.size _).grown gq (by have:=kt.size;simp;omega) (fun q bj=>(xi.lt q bj).1)
 go_roundw
 case rel=>exact⟨k + 1,by omega,by go_num,by rw [jD.out];exact fb,xv⟩
 case measure=>simp [intOf];omega):p:=h
theorem YR {p:Prop} (h:p:=by
 skip
 obtain rfl:k= rs.length:=by omega
 obtain⟨Y,gV,rfl,_,_,_⟩:=bM.form fW
 go_wp2
 go_ret
 rw [cB.out]
 exact⟨Y,gV,rfl,bM,aF⟩):p:=h
theorem Zq {p:Prop} (h:p:=by
 go_wp2
 go_ret
 rw [cB.out]
 obtain⟨Y,gV,ax,_,_,_⟩:=bM.form fW
 subst ax
 exact⟨Y,gV,rfl,bM,aF⟩):p:=h
theorem MZ (aq:Option Addr) (c0:Nat) (rs:List aK) (h0:rs.length≤1048576) (ar:Option Addr) (av:Nat) (qs:List aQ) (h1:qs.length≤1048576) (aN:dt rs qs= true) (w:World) (bf:aS 7 aK.cells w aq rs) (aW:aS 3 aQ.cells w ar qs):
 Calls Tryz.prog 165 #[.slice aq rs c0,.slice ar qs av] w fun e ah=>∃A c,e= .returned (.slice A (hv rs qs).length c)∧bd w 3 1 bV ah (.slice A (hv rs qs).length c) (hv rs qs)∧Below w w ah:=by
 obtain⟨i0,hi,dn,dC,dz⟩:=info_parts rr
 have eL:=J bf;have hL:bd w 3 1 bV (w.alloc (.cells #[] 3)) (.slice w.heap.size 0 0) ([]:List Int):=bd.made w (Nat.le_refl _) _;have mT:Below w w (w.alloc (.cells #[] 3)):=bT w _;have Se:=(mj aN).1
 by_cases ix:qs.length= 0
 ·have cB:=J (UR aN ix)
  clear bf aW
  obtain rfl:=List.length_eq_zero_iff.1 ix
  clear ix
  go_in
  go_wp2
  go_loopw [5,7] (fun y i wr=>∃k:Nat,k≤rs.length∧i= .int .i64 k∧bd w 3 1 bV wr y (lB (-1) rs k)∧Below w w wr) (fun _ i _=>rs.length - (intOf i).toNat)
  case atStart=>exact⟨0,Nat.zero_le _,rfl,hL,mT⟩
  case round=>
   clear hL mT
   obtain⟨k,aD,rfl,bM,aF⟩:=hrel
   by_cases bu:k < rs.length
   ·skip
    obtain⟨dY,gP,x,rfl,ew,aw,bz⟩:=eL.out.at_ aF bu
    have gB:=xJ (xK Se aw)
    obtain⟨oN,tX,hb,xs,tV,jh,tW,OD⟩:=x
    have ch:=bz 0 _ rfl
    simp only [Nat.add_zero] at ch
    have cc:=J aw;clear aw bz
    have bp:(-1) < hb:=by dsimp only at gB;omega
    have cS:=EJ (rk:=(-1)) cc.out bp;have jD:=J cS;clear cS
    go_wp2
    refine eK (by kernel_rfl) (by kernel_rfl) ?_
    repeat (go_big_quiet_step (fail))
    refine wpQuiet_nil ?_
    intro K
    have g0:=ch K;have kt:=aj aF K.ae;have xi:=bM.bm K.ae;clear ch bM
    generalize K.world= hJ at *
    go_wp2_with ((at_builtin;refine kC rfl _ _ 38 rfl w.heap.size 3 i0 _ 1 8 Tryz.underlying38 hi dn dC dz rfl (by decide) bV fW nS _ (lB (-1) rs k) rfl (xi.alloc _) ⟨hJ.heap.size,0,none⟩ 1 oN rfl (aS.one _ _) (by have:=wb (-1) rs k;unfold maxLen;omega) (by have:=wb (-1) rs k;omega) (by have:=kt.size;simp;omega) ?_;intro v4 bU fb gq ld))
    exact abm
   ·exact YR
 ·obtain⟨j,bE⟩ :∃j,qs.length= j + 1:=⟨qs.length - 1,by omega⟩
  obtain⟨dF,iz,⟨qr,cb,dp⟩,rfl,br,bj,mW⟩:=aW.at_ (Below.refl _ _) (k:=j) (by omega)
  obtain⟨t,ct⟩:=nd aN bj
  have dH:=J bj;have bO:=J ct;have eA:=J bE;have aeS:=(mj aN).2.1;have FT:Hid (aS 3 aQ.cells w (some ⟨dF,iz,none⟩) qs):=J aW;clear bj ct mW aW
  rw [bE] at aeS ⊢
  clear bE ix h1
  by_cases h6:j + 1= 6
  ·obtain rfl:j= 5:=by omega
   have cB:=J (HO eA.out dH.out bO.out (Or.inr eA.out));clear aN
   go_in
   go_wp2
   go_loopw [5,7] (fun y i wr=>i= .int .i64 0∧bd w 3 1 bV wr y ([]:List Int)∧Below w w wr) (fun _ i _=>0)
   case atStart=>exact⟨rfl,hL,mT⟩
   case round=>
    clear hL mT
    obtain⟨rfl,bM,aF⟩:=hrel
    rcases Nat.eq_zero_or_pos rs.length with h9 | h9
    ·obtain rfl:=List.length_eq_zero_iff.1 h9
     clear h9
     exact Zq
    ·exact Zq
  ·have rl:((j:Int) + 1 == 0)= false:=beq_eq_false_iff_ne.2 (by omega)
   have Tl:decide ((j:Int) + 1 < 6)= true:=decide_eq_true (by omega)
   cases aD:jS t ⟨qr,cb,dp⟩
   case true=>
    have ft:=J aD;have cB:=J (HO eA.out dH.out bO.out (Or.inl aD));clear aD
    go_in
    go_wp2
    go_loopw [5,7] (fun y i wr=>∃k:Nat,k≤rs.length∧i= .int .i64 k∧bd w 3 1 bV wr y ([])∧Below w w wr) (fun _ i _=>rs.length - (intOf i).toNat)
    case atStart=>exact⟨0,Nat.zero_le _,rfl,hL,mT⟩
    case round=>
     clear hL mT
     obtain⟨k,aD,rfl,bM,aF⟩:=hrel
     by_cases bu:k < rs.length
     ·obtain⟨_,_,OG,e9,fL,Ex,cX⟩:=FT.out.at_ aF (k:=j) (by have:=eA.out;omega)
      cases e9
      obtain rfl:(⟨qr,cb,dp⟩ :aQ)= OG:=Option.some.inj (dH.out.symm.trans Ex)
      clear Ex;have iI:=cX 0 _ rfl;have q1:=cX 1 _ rfl;have gv:=cX 2 _ rfl
      simp only [Nat.add_zero] at iI
      clear cX
      go_wp2
      refine eK (by kernel_rfl) (by kernel_rfl) ?_
      repeat (go_big_quiet_step (fail))
      go_big_quiet_step ((go_at_call 163;exact ay.call _ (by first | exact Nat.le_refl _ | omega) (oC aq c0 rs h0 ⟨qr,cb,dp⟩ t bO.out true ft.out _ (eL.out.ae (aj aF (ay.ae _))))))
      repeat (go_big_quiet_step (fail))
      refine wpQuiet_nil ?_
      intro K
      have kt:=aj aF K.ae;have xi:=bM.bm K.ae;clear iI q1 gv bM
      generalize K.world= hJ at *
      go_wp2
      go_roundw
      case rel=>exact⟨k + 1,by omega,by go_num,xi,kt⟩
      case measure=>simp [intOf];omega
     ·skip
      obtain⟨Y,gV,rfl,_,_,_⟩:=bM.form fW
      go_wp2
      go_ret
      rw [cB.out]
      exact⟨Y,gV,rfl,bM,aF⟩
   case false=>
    have ft:=J aD;have cB:=J (UU eA.out dH.out bO.out aD (by have:=eA.out;omega));clear aD
    obtain⟨xP,il,eX,gU,ik,ij,xO,IF⟩:=t
    go_in
    go_wp2
    go_loopw [5,7] (fun y i wr=>∃k:Nat,k≤rs.length∧i= .int .i64 k∧bd w 3 1 bV wr y (lB eX rs k)∧Below w w wr) (fun _ i _=>rs.length - (intOf i).toNat)
    case atStart=>exact⟨0,Nat.zero_le _,rfl,hL,mT⟩
    case round=>
     clear hL mT
     obtain⟨k,aD,rfl,bM,aF⟩:=hrel
     by_cases bu:k < rs.length
     ·skip
      obtain⟨dY,gP,x,hA0,ew,aw,bz⟩:=eL.out.at_ aF bu
      have gB:=xJ (xK Se aw)
      obtain⟨oN,tX,hb,xs,tV,jh,tW,OD⟩:=x
      have ch:=bz 0 _ rfl;have cZ:=bz 2 _ rfl
      simp only [Nat.add_zero] at ch
      have cc:=J aw;clear aw bz
      subst hA0
      obtain⟨_,_,OG,e9,fL,Ex,cX⟩:=FT.out.at_ aF (k:=j) (by have:=eA.out;omega)
      cases e9
      obtain rfl:(⟨qr,cb,dp⟩ :aQ)= OG:=Option.some.inj (dH.out.symm.trans Ex)
      clear Ex;have iI:=cX 0 _ rfl;have q1:=cX 1 _ rfl;have gv:=cX 2 _ rfl
      simp only [Nat.add_zero] at iI
      clear cX
      by_cases bp:eX < hb
      ·have cS:=EJ (rk:=eX) cc.out bp;have jD:=J cS;clear cS
       go_wp2
       refine eK (by kernel_rfl) (by kernel_rfl) ?_
       repeat (go_big_quiet_step (fail))
       go_big_quiet_step ((go_at_call 163;exact ay.call _ (by first | exact Nat.le_refl _ | omega) (oC (some ⟨dY,gP,none⟩) c0 rs h0 ⟨qr,cb,dp⟩ ⟨xP,il,eX,gU,ik,ij,xO,IF⟩ bO.out false ft.out _ (eL.out.ae (aj aF (ay.ae _))))))
       repeat (go_big_quiet_step (fail))
       go_big_quiet_step ((go_at_call 164;exact ay.call _ (by first | exact Nat.le_refl _ | omega) (By (some ⟨dY,gP,none⟩) c0 rs h0 ⟨qr,cb,dp⟩ ⟨xP,il,eX,gU,ik,ij,xO,IF⟩ bO.out _ (eL.out.ae (aj aF (ay.ae _))))))
       repeat (go_big_quiet_step (fail))
       refine wpQuiet_nil ?_
       intro K
       have g0:=ch K;have kt:=aj aF K.ae;have xi:=bM.bm K.ae;clear ch cZ bM
       generalize K.world= hJ at *
       clear iI q1 gv
       go_wp2_with ((at_builtin;refine kC rfl _ _ 38 rfl w.heap.size 3 i0 _ 1 8 Tryz.underlying38 hi dn dC dz rfl (by decide) bV fW nS _ (lB (eX) rs k) rfl (xi.alloc _) ⟨hJ.heap.size,0,none⟩ 1 oN rfl (aS.one _ _) (by have:=wb (eX) rs k;unfold maxLen;omega) (by have:=wb (eX) rs k;omega) (by have:=kt.size;simp;omega) ?_;intro v4 bU fb gq ld))
       exact abm
      ·have oA:decide (eX < hb)= false:=decide_eq_false bp
       have cS:=HN (rk:=eX) cc.out bp;have jD:=J cS;clear cS
       go_wp2
       refine eK (by kernel_rfl) (by kernel_rfl) ?_
       repeat (go_big_quiet_step (fail))
       go_big_quiet_step ((go_at_call 163;exact ay.call _ (by first | exact Nat.le_refl _ | omega) (oC (some ⟨dY,gP,none⟩) c0 rs h0 ⟨qr,cb,dp⟩ ⟨xP,il,eX,gU,ik,ij,xO,IF⟩ bO.out false ft.out _ (eL.out.ae (aj aF (ay.ae _))))))
       repeat (go_big_quiet_step (fail))
       go_big_quiet_step ((go_at_call 164;exact ay.call _ (by first | exact Nat.le_refl _ | omega) (By (some ⟨dY,gP,none⟩) c0 rs h0 ⟨qr,cb,dp⟩ ⟨xP,il,eX,gU,ik,ij,xO,IF⟩ bO.out _ (eL.out.ae (aj aF (ay.ae _))))))
       repeat (go_big_quiet_step (fail))
       refine wpQuiet_nil ?_
       intro K
       have kt:=aj aF K.ae;have xi:=bM.bm K.ae;clear ch cZ bM
       generalize K.world= hJ at *
       clear iI q1 gv
       go_wp2
       go_roundw
       case rel=>exact⟨k + 1,by omega,by go_num,by rw [jD.out];exact xi,kt⟩
       case measure=>simp [intOf];omega
     ·exact YR
open Go.RowKit Go.G9
theorem aaW {p:Prop} (h:p:=by
 clear aN
 go_in
 go_wp2_with fail
 refine (nb aq c0 rs h0 ar av qs h1 _ ea.out _ (bf.ae az) (aW.ae az)).mono ?_
 rintro e bh ⟨rfl,br⟩
 have au:=be w br;have I:Below w w bh:=au
 go_wp2
 go_ret2
 exact⟨some ⟨_,0,none⟩,0,rfl,bd.made _ (by have:=I.size;first | omega | (simp;omega)) _,(aj I az)⟩):p:=h
theorem aaA {p:Prop} (h:p:=by
 clear aN hm
 go_in
 go_wp2_with fail
 refine (nb aq c0 rs h0 ar av qs h1 _ ea.out _ (bf.ae az) (aW.ae az)).mono ?_
 rintro e bh ⟨rfl,br⟩
 have au:=be w br;have I:Below w w bh:=au
 go_wp2_with fail
 refine (iy mem _ dP.out _).mono ?_
 rintro e w0 ⟨rfl,h0⟩
 rw [h0]
 clear h0 w0
 go_wp2
 go_ret2
 exact⟨some ⟨_,0,none⟩,0,rfl,bd.made _ (by have:=I.size;first | omega | (simp;omega)) _,(aj I az)⟩):p:=h
theorem IV {p:Prop} (h:p:=by
 go_wp2
 go_ret2
 exact⟨some ⟨_,0,none⟩,0,rfl,bd.made _ (by have:=I.size;first | omega | (simp;omega)) _,(aj I az)⟩):p:=h
theorem WN (aq:Option Addr) (c0:Nat) (rs:List aK) (h0:rs.length≤1048576) (ar:Option Addr) (av:Nat) (qs:List aQ) (h1:qs.length≤1048576) (aX:ar= none→qs= []∧av= 0) (id mem:Int) (w:World) (bf:aS 7 aK.cells w aq rs) (aW:aS 3 aQ.cells w ar qs):Calls Tryz.prog 230 #[.slice aq rs c0,.slice ar qs av,id,mem] w fun e ah=>∃A c,e= .returned (.tuple #[.slice A (iR (jy rs qs id mem)).length c,.bool (jy rs qs id mem).isSome])∧bd w 115 3 aQ.cells ah (.slice A (iR (jy rs qs id mem)).length c) (iR (jy rs qs id mem))∧Below w w ah:=by
 obtain⟨i0,hi,dn,dC,dz⟩:=info_parts si
 have po:=J aX;clear aX
 cases aN:dt rs qs
 ·have ea:=J aN
  rw [Vh aN]
  exact aaW
 cases hm:ey mem
 ·have ea:=J aN;have dP:=J hm
  rw [Vi hm]
  exact aaA
 have jo:(hv rs qs).length≤1048576:=Nat.le_trans (US rs qs) h0
 cases aV:hasB (hv rs qs) id
 ·have ea:=J aN;have dP:=J hm;have dU:=J aV
  rw [Vj aV]
  clear aN hm aV
  go_in
  go_wp2_with fail
  refine (nb aq c0 rs h0 ar av qs h1 _ ea.out _ (bf.ae az) (aW.ae az)).mono ?_
  rintro e bh ⟨rfl,br⟩
  have au:=be w br;have I:Below w w bh:=au;replace bf:=bf.ae au;replace aW:=aW.ae au
  go_wp2_with fail
  refine (iy mem _ dP.out _).mono ?_
  rintro e w0 ⟨rfl,h0⟩
  rw [h0]
  clear h0 w0
  go_wp2_with fail
  refine (MZ aq c0 rs h0 ar av qs h1 ea.out _ (bf.ae az) (aW.ae az)).mono ?_
  rintro e aJ ⟨oc,c5,rfl,iu,aL⟩
  have al:=be bh aL;replace I:=aj I al;have wX:=iu.hj (hf:=fW);clear iu
  go_wp2_with fail
  refine (xB oc c5 (hv rs qs) id jo _ dU.out _ (wX.ae az)).mono ?_
  rintro e bB ⟨rfl,bx⟩
  have aP:=be aJ bx;replace I:=aj I aP
  exact IV
 ·have ea:=J aN;have dP:=J hm;have dU:=J aV
  rw [Vk aN hm aV]
  clear aN hm aV
  go_in
  go_wp2_with fail
  refine (nb aq c0 rs h0 ar av qs h1 _ ea.out _ (bf.ae az) (aW.ae az)).mono ?_
  rintro e bh ⟨rfl,br⟩
  have au:=be w br;have I:Below w w bh:=au;replace bf:=bf.ae au;replace aW:=aW.ae au
  go_wp2_with fail
  refine (iy mem _ dP.out _).mono ?_
  rintro e w0 ⟨rfl,h0⟩
  rw [h0]
  clear h0 w0
  go_wp2_with fail
  refine (MZ aq c0 rs h0 ar av qs h1 ea.out _ (bf.ae az) (aW.ae az)).mono ?_
  rintro e aJ ⟨oc,c5,rfl,iu,aL⟩
  have al:=be bh aL;replace I:=aj I al;replace aW:=aW.ae al;have wX:=iu.hj (hf:=fW);clear iu
  go_wp2_with fail
  refine (xB oc c5 (hv rs qs) id jo _ dU.out _ (wX.ae az)).mono ?_
  exact Ys
theorem Oc {T:Type}:∀{xs:List T} {j:Nat} {x:T},xs[j]? =some x→xs.set j x= xs
 | [],j,x,h=>by simp at h
 | y ::xs,0,x,h=>by simp at h;subst h;rfl
 | y ::xs,j + 1,x,h=>by simp at h;rw [List.set_cons_succ,Oc h]
theorem WR (aq:Option Addr) (c0:Nat) (rs:List aK) (h0:rs.length≤1048576) (ar:Option Addr) (av:Nat) (qs:List aQ) (h1:qs.length≤1048576) (aX:ar= none→qs= []∧av= 0) (mem:Int) (w:World) (bf:aS 7 aK.cells w aq rs) (aW:aS 3 aQ.cells w ar qs):Calls Tryz.prog 231 #[.slice aq rs c0,.slice ar qs av,mem] w fun e ah=>∃A c,e= .returned (.tuple #[.slice A (iR (jJ rs qs mem)).length c,.bool (jJ rs qs mem).isSome])∧bd w 115 3 aQ.cells ah (.slice A (iR (jJ rs qs mem)).length c) (iR (jJ rs qs mem))∧Below w w ah:=by
 obtain⟨i0,hi,dn,dC,dz⟩:=info_parts si
 have po:=J aX;clear aX
 cases aN:dt rs qs
 ·have ea:=J aN
  rw [It (by simp [lk,aN])]
  exact aaW
 cases hm:ey mem
 ·have ea:=J aN;have dP:=J hm
  rw [WX hm]
  exact aaA
 by_cases ix:qs.length= 0
 ·have ea:=J aN;have dP:=J hm
  rw [It (by rw [lk,HL ix,Bool.and_false])]
  obtain rfl:=List.length_eq_zero_iff.1 ix
  clear aN hm ix
  go_in
  go_wp2_with fail
  refine (nb aq c0 rs h0 ar av [] h1 _ ea.out _ (bf.ae az) (aW.ae az)).mono ?_
  rintro e bh ⟨rfl,br⟩
  have au:=be w br;have I:Below w w bh:=au
  go_wp2_with fail
  refine (iy mem _ dP.out _).mono ?_
  rintro e w0 ⟨rfl,h0⟩
  rw [h0]
  clear h0 w0
  exact IV
 obtain⟨j,bE⟩ :∃j,qs.length= j + 1:=⟨qs.length - 1,by omega⟩
 obtain⟨dY,gP,⟨qr,cb,dp⟩,rfl,_,bj,_⟩:=aW.at_ (Below.refl _ _) (k:=j) (by omega)
 obtain⟨t,ct⟩:=nd aN bj
 have eA:=J bE;have dH:=J bj;have bO:=J ct;have dP:=J hm
 have ic:j≤1048576:=by omega
 have rl:((j:Int) + 1 == 0)= false:=beq_eq_false_iff_ne.2 (by omega);have cW:=J (fun W h dj=>nb aq c0 rs h0 (some ⟨dY,gP,none⟩) av qs h1 _ aN W h dj)
 cases aD:jS t ⟨qr,cb,dp⟩
 case false=>
  have ft:=J aD
  rw [It (by rw [lk,wa bE bj ct,aD,Bool.and_false])]
  rw [bE] at cW ⊢
  clear aD hm bE bj ct aN ix h1
  go_in
  go_wp2_with fail
  refine (cW.out _ (bf.ae az) (aW.ae az)).mono ?_
  rintro e bh ⟨rfl,br⟩
  have au:=be w br;have I:Below w w bh:=au;replace bf:=bf.ae au;replace aW:=aW.ae au
  go_wp2_with fail
  refine (iy mem _ dP.out _).mono ?_
  rintro e w0 ⟨rfl,h0⟩
  rw [h0]
  clear h0 w0
  obtain⟨_,_,y,e9,fL,hy,cX⟩:=aW.at_ (Below.refl _ _) (k:=j) (by have:=eA.out;omega)
  cases e9
  obtain rfl:(⟨qr,cb,dp⟩ :aQ)= y:=Option.some.inj (dH.out.symm.trans hy)
  clear hy;have ch:=cX 0 _ rfl;have dq:=cX 1 _ rfl;have cZ:=cX 2 _ rfl
  simp only [Nat.add_zero] at ch
  have g0:=ch (ay.self _);have g1:=dq (ay.self _);have g2:=cZ (ay.self _)
  simp only [ay.self] at g0
  simp only [ay.self] at g1
  simp only [ay.self] at g2
  clear cX ch dq cZ
  go_wp2_with fail
  refine (oC aq c0 rs h0 ⟨qr,cb,dp⟩ t bO.out false ft.out _ (bf.ae az)).mono ?_
  rintro e aJ ⟨rfl,aL⟩
  have al:=be bh aL;replace I:=aj I al
  exact IV
 cases aV:cb == mem
 case true=>
  have ft:=J aD
  rw [WY ((HM bE bj).trans aV)]
  rw [bE] at cW ⊢
  clear aD hm bE bj ct aN ix h1
  go_in
  go_wp2_with fail
  refine (cW.out _ (bf.ae az) (aW.ae az)).mono ?_
  rintro e bh ⟨rfl,br⟩
  have au:=be w br;have I:Below w w bh:=au;replace bf:=bf.ae au;replace aW:=aW.ae au
  go_wp2_with fail
  refine (iy mem _ dP.out _).mono ?_
  rintro e w0 ⟨rfl,h0⟩
  rw [h0]
  clear h0 w0
  obtain⟨_,_,y,e9,fL,hy,cX⟩:=aW.at_ (Below.refl _ _) (k:=j) (by have:=eA.out;omega)
  cases e9
  obtain rfl:(⟨qr,cb,dp⟩ :aQ)= y:=Option.some.inj (dH.out.symm.trans hy)
  clear hy;have ch:=cX 0 _ rfl;have dq:=cX 1 _ rfl;have cZ:=cX 2 _ rfl
  simp only [Nat.add_zero] at ch
  have g0:=ch (ay.self _);have g1:=dq (ay.self _);have g2:=cZ (ay.self _)
  simp only [ay.self] at g0
  simp only [ay.self] at g1
  simp only [ay.self] at g2
  clear cX ch dq cZ;clear g0 g1 g2
  obtain⟨_,_,y,e9,fL,hy,cX⟩:=aW.at_ (Below.refl _ _) (k:=j) (by have:=eA.out;omega)
  cases e9
  obtain rfl:(⟨qr,cb,dp⟩ :aQ)= y:=Option.some.inj (dH.out.symm.trans hy)
  clear hy;have ch:=cX 0 _ rfl;have dq:=cX 1 _ rfl;have cZ:=cX 2 _ rfl
  simp only [Nat.add_zero] at ch
  have g0:=ch (ay.self _);have g1:=dq (ay.self _);have g2:=cZ (ay.self _)
  simp only [ay.self] at g0
  simp only [ay.self] at g1
  simp only [ay.self] at g2
  clear cX ch dq cZ
  go_wp2_with fail
  refine (oC aq c0 rs h0 ⟨qr,cb,dp⟩ t bO.out true ft.out _ (bf.ae az)).mono ?_
  rintro e aJ ⟨rfl,aL⟩
  have al:=be bh aL;replace I:=aj I al;replace aW:=aW.ae al;clear g0 g1 g2
  obtain⟨_,_,y,e9,fL,hy,cX⟩:=aW.at_ (Below.refl _ _) (k:=j) (by have:=eA.out;omega)
  cases e9
  obtain rfl:(⟨qr,cb,dp⟩ :aQ)= y:=Option.some.inj (dH.out.symm.trans hy)
  clear hy;have ch:=cX 0 _ rfl;have dq:=cX 1 _ rfl;have cZ:=cX 2 _ rfl
  simp only [Nat.add_zero] at ch
  have g0:=ch (ay.self _);have g1:=dq (ay.self _);have g2:=cZ (ay.self _)
  simp only [ay.self] at g0
  simp only [ay.self] at g1
  simp only [ay.self] at g2
  clear cX ch dq cZ
  exact IV
 case false=>
  have ft:=J aD
  rw [WZ (show lk rs qs= true by rw [lk,aN,wa bE bj ct,aD];rfl) hm ((HM bE bj).trans aV),Xa bE bj]
  have vQ:(qs.set j ⟨qr,cb,true⟩).length= j + 1:=by rw [List.length_set,bE]
  have Cp:=J vQ
  rw [bE] at cW ⊢
  clear aD hm bE bj ct aN ix h1 vQ
  go_in
  go_wp2_with fail
  refine (cW.out _ (bf.ae az) (aW.ae az)).mono ?_
  rintro e bh ⟨rfl,br⟩
  have au:=be w br;have I:Below w w bh:=au;replace bf:=bf.ae au;replace aW:=aW.ae au
  go_wp2_with fail
  refine (iy mem _ dP.out _).mono ?_
  rintro e w0 ⟨rfl,h0⟩
  rw [h0]
  clear h0 w0
  obtain⟨_,_,y,e9,fL,hy,cX⟩:=aW.at_ (Below.refl _ _) (k:=j) (by have:=eA.out;omega)
  cases e9
  obtain rfl:(⟨qr,cb,dp⟩ :aQ)= y:=Option.some.inj (dH.out.symm.trans hy)
  clear hy;have ch:=cX 0 _ rfl;have dq:=cX 1 _ rfl;have cZ:=cX 2 _ rfl
  simp only [Nat.add_zero] at ch
  have g0:=ch (ay.self _);have g1:=dq (ay.self _);have g2:=cZ (ay.self _)
  simp only [ay.self] at g0
  simp only [ay.self] at g1
  simp only [ay.self] at g2
  clear cX ch dq cZ
  go_wp2_with fail
  refine (oC aq c0 rs h0 ⟨qr,cb,dp⟩ t bO.out true ft.out _ (bf.ae az)).mono ?_
  rintro e aJ ⟨rfl,aL⟩
  have al:=be bh aL;replace I:=aj I al;replace aW:=aW.ae al;clear g0 g1 g2
  obtain⟨_,_,y,e9,fL,hy,cX⟩:=aW.at_ (Below.refl _ _) (k:=j) (by have:=eA.out;omega)
  cases e9
  obtain rfl:(⟨qr,cb,dp⟩ :aQ)= y:=Option.some.inj (dH.out.symm.trans hy)
  clear hy;have ch:=cX 0 _ rfl;have dq:=cX 1 _ rfl;have cZ:=cX 2 _ rfl
  simp only [Nat.add_zero] at ch
  have g0:=ch (ay.self _);have g1:=dq (ay.self _);have g2:=cZ (ay.self _)
  simp only [ay.self] at g0
  simp only [ay.self] at g1
  simp only [ay.self] at g2
  clear cX ch dq cZ;have gh:=J (fun e u=>(aW.ae (bT aJ (.cells #[] e))):∀(e:TypeId) (u:Unit),aS 3 aQ.cells (aJ.alloc (.cells #[] e)) (some ⟨dY,gP,none⟩) qs);have sx:=I.size
  go_upto_region 5 with ((at_builtin;refine tT rfl _ _ 37 rfl aJ.heap.size 115 i0 _ 3 24 Tryz.underlying37 hi dn dC dz rfl (by decide) aQ.cells jz sq aJ.heap.size rfl (aB.new _ _ _) (Nat.le_refl _) (some ⟨dY,gP,none⟩) av qs (j + 1) eA.out.symm rfl (gh.out _ ()) (fun h=>by cases h) (by have:=eA.out;unfold maxLen;omega) (by have:=eA.out;omega) ?_;intro bA cM mo fJ fh))
  have mV:Below aJ aJ mo:=aj (bT _ _) fh;have oj:bd w 115 3 aQ.cells mo (.slice bA qs cM) qs:=fJ.base (by omega)
  rw [eA.out] at oj
  have tp:=(oj.lt bA rfl).1;have apA:=(oj.lt bA rfl).2;replace I:=aj I mV;clear fJ fh mV g0 g1 g2 gh;have dZ:=qz oj jz dH.out (i:=0) (u:= .int .i64 qr) rfl;have eI:=qz oj jz dH.out (i:=1) (u:= .int .i64 cb) rfl;have cp:=qz oj jz dH.out (i:=2) (u:= .bool dp) rfl
  simp only [Nat.add_zero] at dZ
  go_upto_region 6 with fail
  clear dZ eI cp
  refine cF fun qa aP ec=>?_
  replace oj:=oj.bm aP;replace I:=aj I aP;have ff:=ec.cq;have aex:=ec.frozen 2
  have Vo:∀k,(Value.slice bA (j + 1) cM).ownBlock= some k→¬k= mo.heap.size:=fun k aD e=>by have h9:bA= k:=Option.some.inj aD;omega
  go_upto_region 7 with fail
  clear ff
  refine mF 2 fun lx eJ=>?_
  replace I:=eJ.aH I;replace ec:=eJ.NA ec;replace oj:=oj.bY eJ Vo;have ff:=ec.cq;clear Vo aex;have z0:=zE oj jz (j:=j) (i:=0) (by have:=eA.out;omega) (by decide);have bW:=zE oj jz (j:=j) (i:=1) (by have:=eA.out;omega) (by decide);have z2:=zE oj jz (j:=j) (i:=2) (by have:=eA.out;omega) (by decide)
  have dZ:=qz oj jz dH.out (i:=0) (u:= .int .i64 qr) rfl;have eI:=qz oj jz dH.out (i:=1) (u:= .int .i64 cb) rfl;have cp:=qz oj jz dH.out (i:=2) (u:= .bool dp) rfl
  simp only [Nat.add_zero] at z0 dZ
  have s1:=zF oj jz (y:=⟨qr,cb,dp⟩) (u:= .int .i64 qr) (i:=0) dH.out (by decide) rfl
  rw [Oc dH.out] at s1
  have s2:=zF s1 jz (y:=⟨qr,cb,dp⟩) (u:= .int .i64 cb) (i:=1) dH.out (by decide) rfl
  rw [Oc dH.out] at s2
  have nD:=zF s2 jz (y:=⟨qr,cb,true⟩) (u:= .bool true) (i:=2) dH.out (by decide) rfl
  simp only [Nat.add_zero] at nD
  have qh:Below w w (((lx.setCell ⟨bA,j * 3,none⟩ (.int .i64 qr)).setCell ⟨bA,j * 3 + 1,none⟩ (.int .i64 cb)).setCell ⟨bA,j * 3 + 2,none⟩ (.bool true)):=((I.setCell (by exact tp) _).setCell (by exact tp) _).setCell (by exact tp) _;have JH:=J nD;have abH:=J qh;clear s1 s2 nD qh
  go_wp2
  go_ret2
  refine⟨some ⟨bA,0,none⟩,cM,by simp only [iR,Option.getD_some,Cp.out];rfl,?_,abH.out⟩
  simp only [iR,Option.getD_some]
  rw [Cp.out]
  exact JH.out
open Go.RowKit Go.G9
theorem adJ {rs:List aK} {qs:List aQ} (h:qg rs qs= none):dt rs qs= false∨qs.length= 0∨jx rs qs= true:=by
 by_cases h0:qs.length= 0
 ·exact .inr (.inl h0)
 ·have bj:qs[qs.length - 1]? =some qs[qs.length - 1]:=List.getElem?_eq_getElem (by omega)
  unfold qg at h
  rw [bj] at h
  dsimp only at h
  split at h
  ·cases h
  ·rename_i aH
   cases aN:dt rs qs with
   | false=>exact .inl rfl
   | true=>
    refine .inr (.inr ?_)
    cases aT:jx rs qs with
    | true=>rfl
    | false=>exact absurd (by rw [aN,aT];rfl) aH
theorem Rh {rs:List aK} {qs ps:List aQ} {q:aQ} (h:qg rs qs= some (ps,q)):∃j,qs.length= j + 1∧qs[j]? =some q∧ps= qs.take j∧dt rs qs= true∧jx rs qs= false:=by
 obtain⟨_,h2,j,h3,h4,h5⟩:=Rg h
 refine⟨j,h3,h4,h5,h2,?_⟩
 unfold qg at h
 rw [show qs.length - 1= j by omega,h4] at h
 dsimp only at h
 split at h
 ·rename_i aH
  simp only [Bool.and_eq_true,Bool.not_eq_true'] at aH
  exact aH.2
 ·cases h
def Kw (j:Nat) (ap:Nat) (xs:List aQ):kq (Option Addr×Nat) where
 par:=fun n=>if n= ap then [0] else []
 val:=fun n p=>if n= ap then .slice p.1 j p.2 else match n with
  | 0=> .slice p.1 0 0
  | _=>undef
 post:=fun n bl p cN V=>if n= ap then∃g bA,(bl 0).1= some ⟨g,0,none⟩∧p.1= some ⟨bA,0,none⟩∧bd g 115 3 aQ.cells V (.slice p.1 xs.length p.2) xs else match n with
  | 0=>p.1= some ⟨cN.heap.size,0,none⟩∧aB V cN.heap.size 115 #[]
  | _=>True
theorem aaY {p:Prop} (h:p:=by
 rintro e aJ ⟨rfl,aL⟩
 have al:=be aG aL;replace I:=aj I al;replace U:=U.to al;clear ak;have ak:=U.cq;have dM:=U.mQ
 go_wp2
 clear ak
 refine su 0 fun cD aE=>?_
 replace I:=aE.aH I;replace U:=aE.uh U;have ak:=U.cq
 exact hD ⟨rfl,I⟩ (by simp [results,Tryz.results303,go_sem,ak])):p:=h
theorem ZR {p:Prop} (h:p:=by
 rcases adJ aY with h | h | h
 ·rw [aN] at h;cases h
 ·exact absurd h ix
 ·exact h):p:=h
theorem aht (aq:Option Addr) (c0:Nat) (rs:List aK) (h0:rs.length≤1048576) (fo:rs.length≤c0) (ar:Option Addr) (av:Nat) (qs:List aQ) (h1:qs.length≤1048576) (hZ:qs.length≤av) (aY:qg rs qs= none) (w:World) (bf:aS 7 aK.cells w aq rs) (aW:aS 3 aQ.cells w ar qs):Calls Tryz.prog 303 #[.slice aq rs c0,.slice ar qs av] w fun e ah=>e= .returned (.tuple #[.slice none 0 0,.agg #[(0:Int),(0:Int),false],false])∧Below w w ah:=by
 have eL:=J bf;have gh:=J aW;clear bf aW
 cases aN:dt rs qs
 ·have ea:=J aN
  clear aN aY
  go_in
  go_upto_region 1 with fail
  refine cF fun aG au U=>?_
  have I:=au;have ak:=U.cq
  go_wp2_with fail
  refine (mx aq c0 rs h0 fo ar av qs h1 _ ea.out _ (eL.out.ae (aj I az)) (gh.out.ae (aj I az))).mono ?_
  exact aaY
 by_cases ix:qs.length= 0
 ·obtain rfl:=List.length_eq_zero_iff.1 ix
  have ea:=J aN;clear aN aY ix
  go_in
  go_upto_region 1 with fail
  refine cF fun aG au U=>?_
  have I:=au;have ak:=U.cq
  go_wp2_with fail
  refine (mx aq c0 rs h0 fo ar av [] h1 _ ea.out _ (eL.out.ae (aj I az)) (gh.out.ae (aj I az))).mono ?_
  exact aaY
 have aT:jx rs qs= true:=by
  exact ZR
 obtain⟨j,⟨qr,cb,dp⟩,bE,bj⟩:=EH aT
 obtain⟨dY,gP,_,rfl,_,_,_⟩:=gh.out.at_ (Below.refl _ _) (k:=j) (by omega)
 have Js:Hid (lk rs qs= true):=J (by rw [lk,aN,aT];rfl);have eM:((j:Int) + 1 == 0)= false:=beq_eq_false_iff_ne.2 (by omega);have cW:=J (fun W h dj=>mx aq c0 rs h0 fo (some ⟨dY,gP,none⟩) av qs h1 _ aN W h dj);have cC:=J (fun W h dj=>zx aq c0 rs h0 fo (some ⟨dY,gP,none⟩) av qs h1 _ Js.out W h dj)
 rw [bE] at cW cC ⊢
 clear aN aY aT bj bE ix h1 hZ
 go_in
 go_upto_region 1 with fail
 refine cF fun aG au U=>?_
 have I:=au;have ak:=U.cq
 go_wp2_with fail
 refine (cW.out _ (eL.out.ae (aj I az)) (gh.out.ae (aj I az))).mono ?_
 rintro e aJ ⟨rfl,aL⟩
 have al:=be aG aL;replace I:=aj I al;replace U:=U.to al;clear ak;have ak:=U.cq
 go_wp2_with fail
 refine (cC.out _ (eL.out.ae (aj I az)) (gh.out.ae (aj I az))).mono ?_
 rintro e bB ⟨rfl,bx⟩
 have aP:=be aJ bx;replace I:=aj I aP;replace U:=U.to aP;clear ak;have ak:=U.cq;have dM:=U.mQ
 go_wp2
 clear ak
 refine su 0 fun cD aE=>?_
 replace I:=aE.aH I;replace U:=aE.uh U;have ak:=U.cq
 exact hD ⟨rfl,I⟩ (by simp [results,Tryz.results303,go_sem,ak])
theorem abw {p:Prop} (h:p:=by
 change wpList _ _ _ (_ ::[]) _ _
 go_wp2
 first | exact hA ⟨(some ⟨k.world.heap.size,0,none⟩,0),rfl,bT _ _,rfl,aB.new _ _ _⟩ | exact hA ⟨some ⟨k.world.heap.size,0,none⟩,0,rfl,bT _ _,rfl,aB.new _ _ _⟩):p:=h
theorem aae {p:Prop} (h:p:=by
 change wpList _ _ _ (_ ::[]) _ _
 obtain⟨gI,rN,oq,⟨lb,kM⟩,kN⟩:=fq 0 (by simp [Kw])
 have kO:=kM.to kN;have jI:(bl 0).1= some ⟨gI.heap.size,0,none⟩:=lb;have oi:=J (pv.out.ae ((iC.out _).1 k.holds));have oh:=J kO;clear kO kM lb oq kN fq
 rw [jI]
 have lu:=J jI;clear jI
 go_wp2_with ((at_builtin;refine tT rfl _ _ 37 rfl gI.heap.size 115 i0 _ 3 24 Tryz.underlying37 hi dn dC dz rfl (by decide) aQ.cells jz sq gI.heap.size rfl oh.out (Nat.le_refl _) (some ⟨dY,gP,none⟩) av (qs.take j) j lX.out.symm rfl oi.out (fun h=>by cases h) (by have:=lX.out;unfold maxLen;omega) (by have:=lX.out;omega) ?_;intro bA cM ah fJ fh))
 first | exact hA ⟨(some ⟨bA,0,none⟩,cM),rfl,fh,gI.heap.size,bA,lu.out,rfl,fJ⟩ | exact hA ⟨some ⟨bA,0,none⟩,cM,rfl,fh,gI.heap.size,bA,lu.out,rfl,fJ⟩):p:=h
theorem MO (aq:Option Addr) (c0:Nat) (rs:List aK) (h0:rs.length≤1048576) (fo:rs.length≤c0) (ar:Option Addr) (av:Nat) (qs:List aQ) (h1:qs.length≤1048576) (hZ:qs.length≤av) (j:Nat) (bE:qs.length= j + 1) (qr cb:Int) (dp:Bool) (bj:qs[j]? =some ⟨qr,cb,dp⟩) (aN:dt rs qs= true) (aT:jx rs qs= false) (w:World) (bf:aS 7 aK.cells w aq rs) (aW:aS 3 aQ.cells w ar qs):Calls Tryz.prog 303 #[.slice aq rs c0,.slice ar qs av] w fun e ah=>
  ∃g c,e= .returned (.tuple #[.slice (some ⟨g,0,none⟩) (qs.take j).length c,.agg #[qr,cb,dp],true])∧bd w 115 3 aQ.cells ah (.slice (some ⟨g,0,none⟩) (qs.take j).length c) (qs.take j)∧Below w w ah:=by
 obtain⟨i0,hi,dn,dC,dz⟩:=info_parts si
 have eL:=J bf;have gh:=J aW;clear bf aW
 obtain⟨t,ct⟩:=nd aN bj
 obtain⟨dY,gP,_,rfl,_,_,_⟩:=gh.out.at_ (Below.refl _ _) (k:=j) (by omega)
 have aD:jS t ⟨qr,cb,dp⟩ =false:=(wa bE bj ct).symm.trans aT;have eA:=J bE;have dH:=J bj;have Js:Hid (lk rs qs= false):=J (by rw [lk,aN,aT];rfl)
 have ic:j≤1048576:=by omega
 have LP:j≤av:=by omega
 have eM:((j:Int) + 1 == 0)= false:=beq_eq_false_iff_ne.2 (by omega)
 have bu:(qs.take j).length= j:=by rw [List.length_take];omega
 have lX:=J bu;have pv:=J (BI gh.out j)
 rw [bu]
 have cW:=J (fun W h dj=>mx aq c0 rs h0 fo (some ⟨dY,gP,none⟩) av qs h1 _ aN W h dj);have cC:=J (fun W h dj=>zx aq c0 rs h0 fo (some ⟨dY,gP,none⟩) av qs h1 _ Js.out W h dj)
 rw [bE] at cW cC ⊢
 clear aN aT aD ct bj bE h1 hZ bu
 go_in
 go_upto_region 1 with fail
 refine cF fun aG au U=>?_
 have I:=au;have ak:=U.cq
 go_wp2_with fail
 refine (cW.out _ (eL.out.ae (aj I az)) (gh.out.ae (aj I az))).mono ?_
 rintro e aJ ⟨rfl,aL⟩
 have al:=be aG aL;replace I:=aj I al;replace U:=U.to al;clear ak;have ak:=U.cq
 go_wp2_with fail
 refine (cC.out _ (eL.out.ae (aj I az)) (gh.out.ae (aj I az))).mono ?_
 rintro e bB ⟨rfl,bx⟩
 have aP:=be aJ bx;replace I:=aj I aP;replace U:=U.to aP;clear ak;have ak:=U.cq
 go_upto_region 4 with fail
 have sx:=I.size;have Hv:=U.lt
 obtain⟨od,xe⟩ :∃X:World→Prop,∀V,X V↔(Below w w V):=⟨_,fun _=>Iff.rfl⟩
 have iC:=J xe;clear xe
 haveI:Nonempty (cH od):=⟨⟨bB,((iC.out _).2 (I))⟩⟩
 clear ak
 obtain⟨_,_,y,e9,fL,hy,cX⟩:=gh.out.at_ (Below.refl _ _) (k:=j) (by have:=eA.out;omega)
 cases e9
 obtain rfl:(⟨qr,cb,dp⟩ :aQ)= y:=Option.some.inj (dH.out.symm.trans hy)
 clear hy;have oW:=cX;have ch:=oW 0 _ rfl;have dq:=oW 1 _ rfl;have cZ:=oW 2 _ rfl
 simp only [Nat.add_zero] at ch
 have g0:=fun K:cH od=>ch ⟨K.world,((iC.out _).1 K.holds)⟩
 have g1:=fun K:cH od=>dq ⟨K.world,((iC.out _).1 K.holds)⟩
 have g2:=fun K:cH od=>cZ ⟨K.world,((iC.out _).1 K.holds)⟩
 clear cX oW ch dq cZ
 refine wF (Kw j 4 (qs.take j)) od [([],0),([1,2,3],4)] [5,6,7,8] [([9],10)] [11] (by kernel_rfl) (by kernel_rfl) ((iC.out _).2 (I.drew)) (fun W eF h k=>((iC.out _).2 (((iC.out _).1 h).trans (k.mono ((iC.out _).1 h).size)))) ?_
 intro bl
 refine hI (some 26) rfl (.slice (bl 0).1 0 0) rfl fun hz eb=>?_
 change wpQuiet _ _ _ _ ([]) _
 refine wpQuiet_nil ?_
 refine⟨fun k fq=>?_,eb _ ?_⟩
 ·exact abw
 simp only [Act.put]
 go_simp
 refine hI (some 30) rfl (.slice (bl 4).1 j (bl 4).2) rfl fun hz eb=>?_
 change wpQuiet _ _ _ _ (_ ::_ ::_ ::[]) _
 repeat (go_big_quiet_step (fail))
 refine wpQuiet_nil ?_
 refine⟨fun k fq=>?_,eb _ ?_⟩
 ·exact aae
 simp only [Act.put]
 go_simp
 refine qJ ?_
 change wpQuiet _ _ _ _ (_ ::_ ::_ ::_ ::[]) _
 repeat (go_big_quiet_step (fail))
 refine wpQuiet_nil ?_
 intro cN V W aU bL
 clear g0 g1 g2
 obtain⟨g,bA,e0,e4,EY⟩ :∃g bA,(bl 0).1= some ⟨g,0,none⟩∧(bl 4).1= some ⟨bA,0,none⟩∧bd g 115 3 aQ.cells (V 4) (.slice (bl 4).1 (qs.take j).length (bl 4).2) (qs.take j):=aU.post 4 (by simp)
 obtain⟨a0,_⟩ :(bl 0).1= some ⟨(cN 0).heap.size,0,none⟩∧aB (V 0) (cN 0).heap.size 115 #[]:=aU.post 0 (by simp)
 have jg:(cN 0).heap.size= g:=by rw [a0] at e0;exact congrArg Addr.block (Option.some.inj e0)
 have cI:=(EY.bm (aU.bm 4 (by simp))).base (B':=bB.heap.size) (by rw [← jg];exact (aU.lN 0 (by simp)).size);have cK:Below bB bB W:=aj az (aU.whole 4 (by simp)).oM;replace I:=aj I cK;replace U:=U.to cK;have ak:=U.cq;clear aU EY a0 e0 jg bL
 generalize bl 4= oF at *
 obtain⟨D,d⟩:=oF
 simp only at cI e4
 subst e4
 rw [lX.out] at cI
 refine gr fun fT dv=>?_
 change wpQuiet _ _ _ _ (_ ::[]) _
 repeat (go_big_quiet_step (fail))
 refine wpQuiet_nil ?_
 change wpList _ _ _ (_ ::[]) _ _
 have dM:=U.mQ
 have iY:∀k,(Value.slice (some ⟨bA,0,none⟩) j d).ownBlock= some k→¬k= w.heap.size:=fun k aD e=>by have:=(cI.lt k aD).1;omega
 go_wp2
 clear ak
 refine su 0 fun cD aE=>?_
 replace I:=aE.aH I;replace U:=aE.uh U;replace cI:=cI.bY aE iY;have ak:=U.cq
 refine gw ((iC.out _).2 I) (dv _ _ ?_)
 refine kD ?_
 change wpQuiet _ _ _ _ (_ ::[]) _
 repeat (go_big_quiet_step (fail))
 refine wpQuiet_nil ?_
 go_wp2
 refine bodyPost_ret (v:= .tuple #[.slice (some ⟨bA,0,none⟩) j d,.agg #[qr,cb,dp],true]) (by simp [results,Tryz.results303,go_sem,ak]) rfl ?_
 exact⟨bA,d,rfl,cI.base (by omega),I⟩
theorem ZE {p:Prop} (h:p:=by
 rintro e aJ ⟨rfl,aL⟩
 have al:=be aG aL;replace I:=aj I al;replace U:=U.to al;clear z0 bW z2
 obtain⟨z0,bW,z2⟩:=U.cq
 have dM:=U.mQ;have lV:=U.lt;have qe:=J I;have ja:=J U;have aeJ:=(U.alloc (.cells #[] 115)).frozen 0
 go_wp2
 have cE:=(((ja.out.gE 0 (.int .i64 0)).gE 1 (.int .i64 0)).gE 2 (.bool false)).alloc (.cells #[] 115);obtain⟨OI,OJ,OK⟩:=cE.cq;have la:Below w w (((aJ.setCell ⟨w.heap.size,0,none⟩ (.int .i64 0)).setCell ⟨w.heap.size,1,none⟩ (.int .i64 0)).setCell ⟨w.heap.size,2,none⟩ (.bool false)):=((qe.out.setCell (Nat.le_refl w.heap.size) _).setCell (Nat.le_refl w.heap.size) _).setCell (Nat.le_refl w.heap.size) _
 refine bodyPost_ret (v:= .tuple #[.slice aJ.heap.size 0 0,.agg #[(0:Int),(0:Int),false],false]) (by simp [results,Tryz.results286,go_sem,OI,OJ,OK]) rfl ?_
 exact⟨_,_,rfl,la.alloc la.size _⟩):p:=h
theorem amb (aq:Option Addr) (c0:Nat) (rs:List aK) (h0:rs.length≤1048576) (fo:rs.length≤c0) (ar:Option Addr) (av:Nat) (qs:List aQ) (h1:qs.length≤1048576) (hZ:qs.length≤av) (aY:qg rs qs= none) (w:World) (bf:aS 7 aK.cells w aq rs) (aW:aS 3 aQ.cells w ar qs):Calls Tryz.prog 286 #[.slice aq rs c0,.slice ar qs av] w fun e ah=>∃A c,e= .returned (.tuple #[.slice A 0 c,.agg #[(0:Int),(0:Int),false],false])∧Below w w ah:=by
 have eL:=J bf;have gh:=J aW;clear bf aW
 cases aN:dt rs qs
 ·have ea:=J aN
  clear aN aY
  go_in
  go_upto_region 1 with fail
  refine cF fun aG au U=>?_
  have I:=au
  obtain⟨z0,bW,z2⟩:=U.cq
  go_wp2_with fail
  refine (nb aq c0 rs h0 ar av qs h1 _ ea.out _ (eL.out.ae (aj I az)) (gh.out.ae (aj I az))).mono ?_
  exact ZE
 by_cases ix:qs.length= 0
 ·obtain rfl:=List.length_eq_zero_iff.1 ix
  have ea:=J aN;clear aN aY ix
  go_in
  go_upto_region 1 with fail
  refine cF fun aG au U=>?_
  have I:=au
  obtain⟨z0,bW,z2⟩:=U.cq
  go_wp2_with fail
  refine (nb aq c0 rs h0 ar av [] h1 _ ea.out _ (eL.out.ae (aj I az)) (gh.out.ae (aj I az))).mono ?_
  exact ZE
 have aT:jx rs qs= true:=by
  exact ZR
 obtain⟨j,⟨qr,cb,dp⟩,bE,bj⟩:=EH aT
 obtain⟨t,ct⟩:=nd aN bj
 obtain⟨dY,gP,_,rfl,_,_,_⟩:=gh.out.at_ (Below.refl _ _) (k:=j) (by omega)
 have aD:jS t ⟨qr,cb,dp⟩ =true:=(wa bE bj ct).symm.trans aT;have eA:=J bE;have dH:=J bj;have bO:=J ct;have ft:=J aD
 have ic:j≤1048576:=by omega
 have eM:((j:Int) + 1 == 0)= false:=beq_eq_false_iff_ne.2 (by omega);have cW:=J (fun W h dj=>nb aq c0 rs h0 (some ⟨dY,gP,none⟩) av qs h1 _ aN W h dj)
 rw [bE] at cW ⊢
 clear aN aY aT aD ct bj bE ix h1 hZ
 go_in
 go_upto_region 1 with fail
 refine cF fun aG au U=>?_
 have I:=au
 obtain⟨z0,bW,z2⟩:=U.cq
 go_wp2_with fail
 refine (cW.out _ (eL.out.ae (aj I az)) (gh.out.ae (aj I az))).mono ?_
 rintro e aJ ⟨rfl,aL⟩
 have al:=be aG aL;replace I:=aj I al;replace U:=U.to al;clear z0 bW z2
 obtain⟨z0,bW,z2⟩:=U.cq
 obtain⟨_,_,y,e9,fL,hy,cX⟩:=gh.out.at_ I (k:=j) (by have:=eA.out;omega)
 cases e9
 obtain rfl:(⟨qr,cb,dp⟩ :aQ)= y:=Option.some.inj (dH.out.symm.trans hy)
 clear hy;have ch:=cX 0 _ rfl;have dq:=cX 1 _ rfl;have cZ:=cX 2 _ rfl
 simp only [Nat.add_zero] at ch
 have g0:=ch (ay.self _);have g1:=dq (ay.self _);have g2:=cZ (ay.self _)
 simp only [ay.self] at g0
 simp only [ay.self] at g1
 simp only [ay.self] at g2
 clear cX ch dq cZ
 go_wp2_with fail
 refine (oC aq c0 rs h0 ⟨qr,cb,dp⟩ t bO.out true ft.out _ (eL.out.ae (aj I az))).mono ?_
 rintro e bB ⟨rfl,bx⟩
 have aP:=be aJ bx;replace I:=aj I aP;replace U:=U.to aP;clear z0 bW z2
 obtain⟨z0,bW,z2⟩:=U.cq
 clear g0 g1 g2;have dM:=U.mQ;have lV:=U.lt;have qe:=J I;have ja:=J U;have aeJ:=(U.alloc (.cells #[] 115)).frozen 0
 go_wp2
 have cE:=(((ja.out.gE 0 (.int .i64 0)).gE 1 (.int .i64 0)).gE 2 (.bool false)).alloc (.cells #[] 115);obtain⟨OI,OJ,OK⟩:=cE.cq;have la:Below w w (((bB.setCell ⟨w.heap.size,0,none⟩ (.int .i64 0)).setCell ⟨w.heap.size,1,none⟩ (.int .i64 0)).setCell ⟨w.heap.size,2,none⟩ (.bool false)):=((qe.out.setCell (Nat.le_refl w.heap.size) _).setCell (Nat.le_refl w.heap.size) _).setCell (Nat.le_refl w.heap.size) _
 refine bodyPost_ret (v:= .tuple #[.slice bB.heap.size 0 0,.agg #[(0:Int),(0:Int),false],false]) (by simp [results,Tryz.results286,go_sem,OI,OJ,OK]) rfl ?_
 exact⟨_,_,rfl,la.alloc la.size _⟩
theorem Is (aq:Option Addr) (c0:Nat) (rs:List aK) (h0:rs.length≤1048576) (fo:rs.length≤c0) (ar:Option Addr) (av:Nat) (qs:List aQ) (h1:qs.length≤1048576) (hZ:qs.length≤av) (j:Nat) (bE:qs.length= j + 1) (qr cb:Int) (dp:Bool) (bj:qs[j]? =some ⟨qr,cb,dp⟩) (aN:dt rs qs= true) (aT:jx rs qs= false) (w:World) (bf:aS 7 aK.cells w aq rs) (aW:aS 3 aQ.cells w ar qs):Calls Tryz.prog 286 #[.slice aq rs c0,.slice ar qs av] w fun e ah=>
  ∃g c,e= .returned (.tuple #[.slice (some ⟨g,0,none⟩) (qs.take j).length c,.agg #[qr,cb,dp],true])∧bd w 115 3 aQ.cells ah (.slice (some ⟨g,0,none⟩) (qs.take j).length c) (qs.take j)∧Below w w ah:=by
 obtain⟨i0,hi,dn,dC,dz⟩:=info_parts si
 have eL:=J bf;have gh:=J aW;clear bf aW
 obtain⟨t,ct⟩:=nd aN bj
 obtain⟨dY,gP,_,rfl,_,_,_⟩:=gh.out.at_ (Below.refl _ _) (k:=j) (by omega)
 have aD:jS t ⟨qr,cb,dp⟩ =false:=(wa bE bj ct).symm.trans aT;have eA:=J bE;have dH:=J bj;have bO:=J ct;have ft:=J aD
 have ic:j≤1048576:=by omega
 have LP:j≤av:=by omega
 have eM:((j:Int) + 1 == 0)= false:=beq_eq_false_iff_ne.2 (by omega)
 have bu:(qs.take j).length= j:=by rw [List.length_take];omega
 have lX:=J bu;have pv:=J (BI gh.out j)
 rw [bu]
 have cW:=J (fun W h dj=>nb aq c0 rs h0 (some ⟨dY,gP,none⟩) av qs h1 _ aN W h dj)
 rw [bE] at cW ⊢
 clear aN aT aD ct bj bE h1 hZ bu
 go_in
 go_upto_region 1 with fail
 refine cF fun aG au U=>?_
 have I:=au;have ak:=U.cq
 go_wp2_with fail
 refine (cW.out _ (eL.out.ae (aj I az)) (gh.out.ae (aj I az))).mono ?_
 rintro e aJ ⟨rfl,aL⟩
 have al:=be aG aL;replace I:=aj I al;replace U:=U.to al;clear ak;have ak:=U.cq
 obtain⟨_,_,y,e9,fL,hy,cX⟩:=gh.out.at_ I (k:=j) (by have:=eA.out;omega)
 cases e9
 obtain rfl:(⟨qr,cb,dp⟩ :aQ)= y:=Option.some.inj (dH.out.symm.trans hy)
 clear hy;have ch:=cX 0 _ rfl;have dq:=cX 1 _ rfl;have cZ:=cX 2 _ rfl
 simp only [Nat.add_zero] at ch
 have g0:=ch (ay.self _);have g1:=dq (ay.self _);have g2:=cZ (ay.self _)
 simp only [ay.self] at g0
 simp only [ay.self] at g1
 simp only [ay.self] at g2
 clear cX ch dq cZ
 go_wp2_with fail
 refine (oC aq c0 rs h0 ⟨qr,cb,dp⟩ t bO.out false ft.out _ (eL.out.ae (aj I az))).mono ?_
 rintro e bB ⟨rfl,bx⟩
 have aP:=be aJ bx;replace I:=aj I aP;replace U:=U.to aP;clear ak;have ak:=U.cq;clear g0 g1 g2
 go_upto_region 4 with fail
 have sx:=I.size;have Hv:=U.lt
 obtain⟨od,xe⟩ :∃X:World→Prop,∀V,X V↔(Below w w V):=⟨_,fun _=>Iff.rfl⟩
 have iC:=J xe;clear xe
 haveI:Nonempty (cH od):=⟨⟨bB,((iC.out _).2 (I))⟩⟩
 clear ak
 obtain⟨_,_,y,e9,fL,hy,cX⟩:=gh.out.at_ (Below.refl _ _) (k:=j) (by have:=eA.out;omega)
 cases e9
 obtain rfl:(⟨qr,cb,dp⟩ :aQ)= y:=Option.some.inj (dH.out.symm.trans hy)
 clear hy;have oW:=cX;have ch:=oW 0 _ rfl;have dq:=oW 1 _ rfl;have cZ:=oW 2 _ rfl
 simp only [Nat.add_zero] at ch
 have g0:=fun K:cH od=>ch ⟨K.world,((iC.out _).1 K.holds)⟩
 have g1:=fun K:cH od=>dq ⟨K.world,((iC.out _).1 K.holds)⟩
 have g2:=fun K:cH od=>cZ ⟨K.world,((iC.out _).1 K.holds)⟩
 clear cX oW ch dq cZ
 refine wF (Kw j 5 (qs.take j)) od [([],0),([1,2,3,4],5)] [6,7,8,9,10] [([11],12)] [13] (by kernel_rfl) (by kernel_rfl) ((iC.out _).2 (I.drew)) (fun W eF h k=>((iC.out _).2 (((iC.out _).1 h).trans (k.mono ((iC.out _).1 h).size)))) ?_
 intro bl
 refine hI (some 29) rfl (.slice (bl 0).1 0 0) rfl fun hz eb=>?_
 change wpQuiet _ _ _ _ ([]) _
 refine wpQuiet_nil ?_
 refine⟨fun k fq=>?_,eb _ ?_⟩
 ·exact abw
 simp only [Act.put]
 go_simp
 refine hI (some 34) rfl (.slice (bl 5).1 j (bl 5).2) rfl fun hz eb=>?_
 change wpQuiet _ _ _ _ (_ ::_ ::_ ::_ ::[]) _
 repeat (go_big_quiet_step (fail))
 refine wpQuiet_nil ?_
 refine⟨fun k fq=>?_,eb _ ?_⟩
 ·exact aae
 simp only [Act.put]
 go_simp
 refine qJ ?_
 change wpQuiet _ _ _ _ (_ ::_ ::_ ::_ ::_ ::[]) _
 repeat (go_big_quiet_step (fail))
 refine wpQuiet_nil ?_
 intro cN V W aU bL
 clear g0 g1 g2
 obtain⟨g,bA,e0,e4,EY⟩ :∃g bA,(bl 0).1= some ⟨g,0,none⟩∧(bl 5).1= some ⟨bA,0,none⟩∧bd g 115 3 aQ.cells (V 5) (.slice (bl 5).1 (qs.take j).length (bl 5).2) (qs.take j):=aU.post 5 (by simp)
 obtain⟨a0,_⟩ :(bl 0).1= some ⟨(cN 0).heap.size,0,none⟩∧aB (V 0) (cN 0).heap.size 115 #[]:=aU.post 0 (by simp)
 have jg:(cN 0).heap.size= g:=by rw [a0] at e0;exact congrArg Addr.block (Option.some.inj e0)
 have cI:=(EY.bm (aU.bm 5 (by simp))).base (B':=bB.heap.size) (by rw [← jg];exact (aU.lN 0 (by simp)).size);have cK:Below bB bB W:=aj az (aU.whole 5 (by simp)).oM;replace I:=aj I cK;replace U:=U.to cK;have ak:=U.cq;clear aU EY a0 e0 jg bL
 generalize bl 5= oF at *
 obtain⟨D,d⟩:=oF
 simp only at cI e4
 subst e4
 rw [lX.out] at cI
 refine gr fun fT dv=>?_
 change wpQuiet _ _ _ _ (_ ::[]) _
 repeat (go_big_quiet_step (fail))
 refine wpQuiet_nil ?_
 change wpList _ _ _ (_ ::[]) _ _
 have dM:=U.mQ
 have iY:∀k,(Value.slice (some ⟨bA,0,none⟩) j d).ownBlock= some k→¬k= w.heap.size:=fun k aD e=>by have:=(cI.lt k aD).1;omega
 go_wp2
 clear ak
 refine su 0 fun cD aE=>?_
 replace I:=aE.aH I;replace U:=aE.uh U;replace cI:=cI.bY aE iY;have ak:=U.cq
 refine gw ((iC.out _).2 I) (dv _ _ ?_)
 refine kD ?_
 change wpQuiet _ _ _ _ (_ ::[]) _
 repeat (go_big_quiet_step (fail))
 refine wpQuiet_nil ?_
 go_wp2
 refine bodyPost_ret (v:= .tuple #[.slice (some ⟨bA,0,none⟩) j d,.agg #[qr,cb,dp],true]) (by simp [results,Tryz.results286,go_sem,ak]) rfl ?_
 exact⟨bA,d,rfl,cI.base (by omega),I⟩
open Go.RowKit Go.G9
theorem aiW (dX y n a:Int) (h:0≤y∧y≤1000∧0≤n∧n≤1000) (v:Bool) (ax:om dX y n= v) (w:World):
 Calls Tryz.prog 288 #[dX,.agg #[y,n,a]] w fun e ah=>e= .returned v∧Below w w ah:=by
 go_in
 go_wp2_with (go_at_call 316;refine (aiX _ _ _ (by omega) (by omega) (by omega) (by omega) _ ax _).mono ?_;rintro e ah ⟨rfl,rfl⟩)
 go_ret
 exact⟨rfl,bT _ _⟩
theorem XF {y n a:Int} (h:sy y n a= true):(0≤y∧y≤1000)∧(0≤n∧n≤1000):=by
 simp only [sy,Bool.and_eq_true,qt] at h
 exact⟨h.1,h.2.1⟩
theorem ajU {B:Nat} {w:World} {bQ cn bR:Option Addr} {d0 d1 d4:Nat} {rs:List aK} {qs:List aQ} {os:List Out} (h0:bd B 89 7 aK.cells w (.slice bQ rs d0) rs) (h1:bd B 115 3 aQ.cells w (.slice cn qs d1) qs) (h4:bd B 163 3 Out.cells w (.slice bR os d4) os):
 fP B w bQ d0 cn d1 none 0 none 0 bR d4 rs qs [] [] os:=⟨h0,h1,bd.nil,bd.nil,h4⟩
theorem Yl {p:Prop} (h:p:=by
 have ak:=U.aI;have dM:=U.ib
 go_wp2
 clear ak
 refine hR 0 fun cD aE=>?_
 replace I:=aE.aH I;replace U:=aE.ia U;have ak:=U.aI
 exact hD ⟨rfl,I⟩ (by simp [results,Tryz.results253,go_sem,ak])):p:=h
theorem aiu (aq ar an ao aA:Option Addr) (c0 av c2 c3 c4:Nat) (rs:List aK) (qs:List aQ) (ag af sp:Int) (ws:List Int) (ad:List aO) (os:List Out) (Z:ei aq ar an ao aA c0 av c2 c3 c4 rs qs ws ad os) (mem val yes no bq:Int) (ax:nZ ⟨rs,qs,ag,af,sp,ws,ad,os⟩ ⟨7,mem,val,yes,no,bq⟩ =none) (w:World) (R:dI w aq ar an ao aA rs qs ws ad os):
 Calls Tryz.prog 253 #[.agg #[.slice aq rs c0,.slice ar qs av,ag,af,sp,.slice an ws c2,.slice ao ad c3,.slice aA os c4],.agg #[yes,no,bq]] w fun e ah=>e= .returned (.tuple #[.agg #[.slice none 0 0,.slice none 0 0,(0:Int),(0:Int),(0:Int),.slice none 0 0,.slice none 0 0,.slice none 0 0],false])∧Below w w ah:=by
 have bC:=J R;have bg:=J Z;clear R Z
 cases bJ:qg rs qs with
 | none=>
  have fz:=J bJ;clear bJ ax
  go_in
  go_upto_region 1 with fail
  refine fv fun aG au ai db U=>?_
  have I:=au;have aC:=ai.aI;have ak:=U.aI
  go_wp2_with fail
  refine (aht aq c0 rs bg.out.h0 bg.out.dZ ar av qs bg.out.h1 bg.out.eI fz.out _ (bC.out.fx.ae (aj I az)) (bC.out.dL.ae (aj I az))).mono ?_
  rintro e aJ ⟨rfl,aL⟩
  have al:=be aG aL;replace I:=aj I al;clear aC;replace U:=U.to al;clear ak;have ak:=U.aI
  go_upto_region 2 with fail
  refine cF fun qa aP ec=>?_
  replace I:=aj I aP;clear ak;replace U:=U.to aP
  exact Yl
 | some pq=>
  obtain⟨ps,⟨qr,cb,dp⟩⟩:=pq
  obtain⟨j,bE,bj,Mq,aN,aT⟩:=Rh bJ
  subst Mq
  have eA:=J bE;have dH:=J bj;have ea:=J aN;have cB:=J aT
  cases ct:sy yes no bq
  case false=>
   have bO:=J ct;clear bJ ax bE bj aN aT ct
   go_in
   go_upto_region 1 with fail
   refine fv fun aG au ai db U=>?_
   have I:=au;have aC:=ai.aI;have fg:=db.cq;have ak:=U.aI
   go_wp2_with fail
   refine (MO aq c0 rs bg.out.h0 bg.out.dZ ar av qs bg.out.h1 bg.out.eI j eA.out qr cb dp dH.out ea.out cB.out _ (bC.out.fx.ae (aj I az)) (bC.out.dL.ae (aj I az))).mono ?_
   rintro e aJ ⟨g1,d1,rfl,cI,aL⟩
   have al:=be aG aL;replace I:=aj I al;clear aC;replace db:=db.to al;clear fg;have fg:=db.cq;replace U:=U.to al;clear ak;have ak:=U.aI;clear cI
   go_upto_region 2 with fail
   refine cF fun qa aP ec=>?_
   replace I:=aj I aP;clear fg;replace db:=db.to aP;have fg:=db.cq;clear ak;replace U:=U.to aP;have ak:=U.aI
   go_wp2_with fail
   refine (MR yes no bq _ bO.out _).mono ?_
   rintro e bU ⟨rfl,cY⟩
   have bN:=be qa cY;replace I:=aj I bN;clear fg;replace U:=U.to bN;clear ak
   exact Yl
  case true=>
   have cG:os.length= 12:=by
    by_cases h:os.length= 12
    ·exact h
    ·simp [nZ,bJ,ct,h] at ax
   have El:((os.length:Int) == 12)= true:=by rw [cG];rfl
   have bO:=J ct;clear bJ ax bE bj aN aT ct cG
   go_in
   go_upto_region 1 with fail
   refine fv fun aG au ai db U=>?_
   have I:=au;have aC:=ai.aI;have fg:=db.cq;have ak:=U.aI
   go_wp2_with fail
   refine (MO aq c0 rs bg.out.h0 bg.out.dZ ar av qs bg.out.h1 bg.out.eI j eA.out qr cb dp dH.out ea.out cB.out _ (bC.out.fx.ae (aj I az)) (bC.out.dL.ae (aj I az))).mono ?_
   rintro e aJ ⟨g1,d1,rfl,cI,aL⟩
   have al:=be aG aL;replace I:=aj I al;replace ai:=ai.to al;clear aC;have aC:=ai.aI;replace db:=db.to al;clear fg;have fg:=db.cq;replace U:=U.to al;clear ak;have ak:=U.aI;clear cI
   go_upto_region 2 with fail
   refine cF fun qa aP ec=>?_
   replace I:=aj I aP;clear aC;replace ai:=ai.to aP;have aC:=ai.aI;clear fg;replace db:=db.to aP;have fg:=db.cq;clear ak;replace U:=U.to aP;have ak:=U.aI
   go_wp2_with fail
   refine (MR yes no bq _ bO.out _).mono ?_
   rintro e bU ⟨rfl,cY⟩
   have bN:=be qa cY;replace I:=aj I bN;replace ai:=ai.to bN;clear aC;have aC:=ai.aI;clear fg;replace U:=U.to bN;clear ak;have ak:=U.aI;have dM:=U.ib
   go_wp2
   clear aC ak
   refine hR 0 fun cD aE=>?_
   replace I:=aE.aH I;replace U:=aE.ia U;have ak:=U.aI
   exact hD ⟨rfl,I⟩ (by simp [results,Tryz.results253,go_sem,ak])
theorem Ym {p:Prop} (h:p:=by
 have ak:=U.aI;have dM:=U.ib
 go_wp2
 clear ak
 refine hR 0 fun cD aE=>?_
 replace I:=aE.aH I;replace U:=aE.ia U;have ak:=U.aI
 exact hD ⟨rfl,I⟩ (by simp [results,Tryz.results232,go_sem,ak])):p:=h
theorem Yk {p:Prop} (h:p:=by
 have ak:=U.aI;have dM:=U.ib
 go_wp2
 clear aC ak
 refine hR 0 fun cD aE=>?_
 replace I:=aE.aH I;replace U:=aE.ia U;have ak:=U.aI
 exact hD ⟨rfl,I⟩ (by simp [results,Tryz.results232,go_sem,ak])):p:=h
theorem amX (aq ar an ao aA:Option Addr) (c0 av c2 c3 c4:Nat) (rs:List aK) (qs:List aQ) (ag af sp:Int) (ws:List Int) (ad:List aO) (os:List Out) (Z:ei aq ar an ao aA c0 av c2 c3 c4 rs qs ws ad os) (mem val yes no bq:Int) (ax:sp≠0∨nZ ⟨rs,qs,ag,af,sp,ws,ad,os⟩ ⟨7,mem,val,yes,no,bq⟩ =none) (w:World) (R:dI w aq ar an ao aA rs qs ws ad os):
 Calls Tryz.prog 232 #[.agg #[.slice aq rs c0,.slice ar qs av,ag,af,sp,.slice an ws c2,.slice ao ad c3,.slice aA os c4],.agg #[yes,no,bq]] w fun e ah=>e= .returned (.tuple #[.agg #[.slice none 0 0,.slice none 0 0,(0:Int),(0:Int),(0:Int),.slice none 0 0,.slice none 0 0,.slice none 0 0],false])∧Below w w ah:=by
 have bC:=J R;have bg:=J Z;clear R Z
 cases bJ:qg rs qs with
 | none=>
  have fz:=J bJ;clear bJ ax
  go_in
  go_upto_region 1 with fail
  refine fv fun aG au ai db U=>?_
  have I:=au;have aC:=ai.aI;have ak:=U.aI
  go_wp2_with fail
  refine (amb aq c0 rs bg.out.h0 bg.out.dZ ar av qs bg.out.h1 bg.out.eI fz.out _ (bC.out.fx.ae (aj I az)) (bC.out.dL.ae (aj I az))).mono ?_
  rintro e aJ ⟨A9,c9,rfl,aL⟩
  have al:=be aG aL;replace I:=aj I al;clear aC;replace U:=U.to al;clear ak;have ak:=U.aI
  go_upto_region 2 with fail
  refine cF fun qa aP ec=>?_
  replace I:=aj I aP;clear ak;replace U:=U.to aP
  exact Ym
 | some pq=>
  obtain⟨ps,⟨qr,cb,dp⟩⟩:=pq
  obtain⟨j,bE,bj,Mq,aN,aT⟩:=Rh bJ
  subst Mq
  have eA:=J bE;have dH:=J bj;have ea:=J aN;have cB:=J aT
  by_cases pR:sp= 0
  case neg=>
   have aV:(sp != 0)= true:=by simpa using pR
   clear bJ ax bE bj aN aT pR
   go_in
   go_upto_region 1 with fail
   refine fv fun aG au ai db U=>?_
   have I:=au;have aC:=ai.aI;have ak:=U.aI
   go_wp2_with fail
   refine (Is aq c0 rs bg.out.h0 bg.out.dZ ar av qs bg.out.h1 bg.out.eI j eA.out qr cb dp dH.out ea.out cB.out _ (bC.out.fx.ae (aj I az)) (bC.out.dL.ae (aj I az))).mono ?_
   rintro e aJ ⟨g1,d1,rfl,cI,aL⟩
   have al:=be aG aL;replace I:=aj I al;replace ai:=ai.to al;clear aC;have aC:=ai.aI;replace U:=U.to al;clear ak;have ak:=U.aI;clear cI
   go_upto_region 2 with fail
   refine cF fun qa aP ec=>?_
   replace I:=aj I aP;clear aC;replace ai:=ai.to aP;have aC:=ai.aI;clear ak;replace U:=U.to aP
   exact Yk
  case pos=>
  have aV:(sp != 0)= false:=by simpa using pR
  have ax:nZ ⟨rs,qs,ag,af,sp,ws,ad,os⟩ ⟨7,mem,val,yes,no,bq⟩ =none:=ax.resolve_left (fun h=>h pR);clear pR
  cases ct:sy yes no bq
  case false=>
   have bO:=J ct;clear bJ ax bE bj aN aT ct
   go_in
   go_upto_region 1 with fail
   refine fv fun aG au ai db U=>?_
   have I:=au;have aC:=ai.aI;have fg:=db.cq;have ak:=U.aI
   go_wp2_with fail
   refine (Is aq c0 rs bg.out.h0 bg.out.dZ ar av qs bg.out.h1 bg.out.eI j eA.out qr cb dp dH.out ea.out cB.out _ (bC.out.fx.ae (aj I az)) (bC.out.dL.ae (aj I az))).mono ?_
   rintro e aJ ⟨g1,d1,rfl,cI,aL⟩
   have al:=be aG aL;replace I:=aj I al;replace ai:=ai.to al;clear aC;have aC:=ai.aI;replace db:=db.to al;clear fg;have fg:=db.cq;replace U:=U.to al;clear ak;have ak:=U.aI;clear cI
   go_upto_region 2 with fail
   refine cF fun qa aP ec=>?_
   replace I:=aj I aP;clear aC;replace ai:=ai.to aP;have aC:=ai.aI;clear fg;replace db:=db.to aP;have fg:=db.cq;clear ak;replace U:=U.to aP;have ak:=U.aI
   go_wp2_with fail
   refine (MT yes no bq _ bO.out _).mono ?_
   rintro e bU ⟨rfl,cY⟩
   have bN:=be qa cY;replace I:=aj I bN;clear aC;clear fg;replace U:=U.to bN;clear ak
   exact Ym
  case true=>
   have cG:os.length= 12:=by
    by_cases h:os.length= 12
    ·exact h
    ·simp [nZ,bJ,ct,h] at ax
   have El:((os.length:Int) == 12)= true:=by rw [cG];rfl
   have bO:=J ct;clear bJ ax bE bj aN aT ct cG
   go_in
   go_upto_region 1 with fail
   refine fv fun aG au ai db U=>?_
   have I:=au;have aC:=ai.aI;have fg:=db.cq;have ak:=U.aI
   go_wp2_with fail
   refine (Is aq c0 rs bg.out.h0 bg.out.dZ ar av qs bg.out.h1 bg.out.eI j eA.out qr cb dp dH.out ea.out cB.out _ (bC.out.fx.ae (aj I az)) (bC.out.dL.ae (aj I az))).mono ?_
   rintro e aJ ⟨g1,d1,rfl,cI,aL⟩
   have al:=be aG aL;replace I:=aj I al;replace ai:=ai.to al;clear aC;have aC:=ai.aI;replace db:=db.to al;clear fg;have fg:=db.cq;replace U:=U.to al;clear ak;have ak:=U.aI;clear cI
   go_upto_region 2 with fail
   refine cF fun qa aP ec=>?_
   replace I:=aj I aP;clear aC;replace ai:=ai.to aP;have aC:=ai.aI;clear fg;replace db:=db.to aP;have fg:=db.cq;clear ak;replace U:=U.to aP;have ak:=U.aI
   go_wp2_with fail
   refine (MT yes no bq _ bO.out _).mono ?_
   rintro e bU ⟨rfl,cY⟩
   have bN:=be qa cY;replace I:=aj I bN;replace ai:=ai.to bN;clear aC;have aC:=ai.aI;clear fg;replace U:=U.to bN;clear ak
   exact Yk
open Go.RowKit Go.G9
def anT (hB:Bool) (o:Out):kq Nat where
 par:=fun _=>[]
 val:=fun n p=>match n with
  | 8=> .bool hB
  | 10=> .slice (some ⟨p,0,none⟩) 1 1
  | _=>undef
 post:=fun n _ p cN V=>match n with
  | 10=>cN.heap.size= p∧aB V p 163 #[.int .i64 o.fR,.int .i64 o.mover,.bool o.hB]
  | _=>True
theorem Yv {p:Prop} (h:p:=by
 have h0:i= 0:=by have:=(List.getElem?_eq_some_iff.1 hy).1;simp at this;omega
 subst h0;simp at hy;subst hy
 rw [Nat.zero_mul,Nat.zero_add]
 exact (qZ.cell _).trans (by simpa [Out.cells] using hu)):p:=h
theorem Yz {p:Prop} (h:p:=by
 exact⟨bQ,d0,some ⟨g1,0,none⟩,d1,none,0,none,0,Y,gV,rfl,ajU (cJ.base (by omega)) (by rw [sJ.out];exact cI.base (by omega)) (by rw [FN.out];exact cz.base (by omega)),I⟩):p:=h
theorem amY (aq ar an ao aA:Option Addr) (c0 av c2 c3 c4:Nat) (rs:List aK) (qs:List aQ) (ag af sp:Int) (ws:List Int) (ad:List aO) (os:List Out) (Z:ei aq ar an ao aA c0 av c2 c3 c4 rs qs ws ad os) (yes no bq:Int) (aV:(sp != 0)= false) (j:Nat) (bE:qs.length= j + 1) (qr cb:Int) (dp:Bool) (bj:qs[j]? =some ⟨qr,cb,dp⟩) (aN:dt rs qs= true) (aT:jx rs qs= false) (ct:sy yes no bq= true) (cG:os.length < 12) (w:World) (R:dI w aq ar an ao aA rs qs ws ad os):
 Calls Tryz.prog 232 #[.agg #[.slice aq rs c0,.slice ar qs av,ag,af,sp,.slice an ws c2,.slice ao ad c3,.slice aA os c4],.agg #[yes,no,bq]] w fun e ah=>∃bQ d0 cn d1 aZ d2 bk d3 bR d4,e= .returned (.tuple #[.agg #[.slice bQ rs d0,.slice cn (qs.take j).length d1,ag,af,(0:Int),.slice aZ ([]:List Int).length d2,.slice bk ([]:List aO).length d3,.slice bR (os ++ [(⟨qr,cb,om (sn rs ⟨qr,cb,dp⟩) yes no⟩ :Out)]).length d4],true])∧fP w ah bQ d0 cn d1 aZ d2 bk d3 bR d4 rs (qs.take j) [] [] (os ++ [(⟨qr,cb,om (sn rs ⟨qr,cb,dp⟩) yes no⟩ :Out)])∧Below w w ah:=by
 obtain⟨i0,hi,dn,dC,dz⟩:=info_parts HC
 have bC:=J R;have bg:=J Z;clear R Z
 obtain⟨⟨zO,zP,zR,df,rd,zM,rx,Wr⟩,bp⟩:=nd aN bj
 obtain⟨hB,vL⟩ :∃hB,om (sn rs ⟨qr,cb,dp⟩) yes no= hB:=⟨_,rfl⟩
 have eM:sn rs ⟨qr,cb,dp⟩ =rx:=by simp only [sn];rw [bp]
 have qk:=XF ct
 rw [vL]
 rw [eM] at vL
 have xq:(os ++ [(⟨qr,cb,hB⟩ :Out)]).length= os.length + 1:=by simp
 rw [xq]
 have FN:=J xq;have El:((os.length:Int) == 12)= false:=beq_eq_false_iff_ne.2 (by omega)
 have ic:(qs.take j).length= j:=by rw [List.length_take];omega
 rw [ic]
 have eA:=J bE;have dH:=J bj;have ea:=J aN;have cB:=J aT;have bO:=J ct;have pr:=J bp;have Jj:=J vL;have sJ:=J ic;clear bE bj aN aT ct bp vL eM xq ic
 go_in
 go_upto_region 1 with fail
 refine fv fun aG au ai db U=>?_
 have I:=au
 obtain⟨f0,f1,f2,f3,f4,f5,f6,f7⟩:=ai.aI
 have fg:=db.cq;have ak:=U.aI;have fQ:=U.lt
 go_wp2_with fail
 refine (Is aq c0 rs bg.out.h0 bg.out.dZ ar av qs bg.out.h1 bg.out.eI j eA.out qr cb dp dH.out ea.out cB.out _ (bC.out.fx.ae (aj I az)) (bC.out.dL.ae (aj I az))).mono ?_
 rintro e aJ ⟨g1,d1,rfl,cI,aL⟩
 have al:=be aG aL;replace I:=aj I al;replace ai:=ai.to al;clear f0 f1 f2 f3 f4 f5 f6 f7
 obtain⟨f0,f1,f2,f3,f4,f5,f6,f7⟩:=ai.aI
 replace db:=db.to al;clear fg;have fg:=db.cq;replace U:=U.to al;clear ak;have ak:=U.aI
 rw [sJ.out]
 rw [sJ.out] at cI
 go_upto_region 2 with fail
 have CM:=cI.bm (bT aJ (.cells #[qr,cb,dp] 115));clear cI;have aP:Below aJ aJ (World.alloc aJ (.cells #[qr,cb,dp] 115)):=bT aJ _
 have ec:=aB.new aJ 115 #[qr,cb,dp]
 generalize World.alloc aJ (.cells #[qr,cb,dp] 115)= qa at *
 replace I:=aj I aP
 obtain⟨iI,q1,gv⟩:=ec.cq
 clear f0 f1 f2 f3 f4 f5 f6 f7;replace ai:=ai.to aP
 obtain⟨f0,f1,f2,f3,f4,f5,f6,f7⟩:=ai.aI
 clear fg;replace db:=db.to aP;have fg:=db.cq;clear ak;replace U:=U.to aP;have ak:=U.aI;have cI:=CM;clear CM
 go_wp2_with fail
 refine (MT yes no bq _ bO.out _).mono ?_
 rintro e bU ⟨rfl,cY⟩
 have bN:=be qa cY;replace I:=aj I bN;replace cI:=cI.bm bN;replace ai:=ai.to bN;clear f0 f1 f2 f3 f4 f5 f6 f7
 obtain⟨f0,f1,f2,f3,f4,f5,f6,f7⟩:=ai.aI
 replace db:=db.to bN;clear fg;have fg:=db.cq;replace U:=U.to bN;clear ak;have ak:=U.aI;replace ec:=ec.to bN;clear iI q1 gv
 obtain⟨iI,q1,gv⟩:=ec.cq
 obtain⟨aiR,SS,My⟩:=qq pr.out
 have pc:=(List.getElem?_eq_some_iff.1 My).1
 obtain⟨eu,kz,fx,hA0,nu,pb,gA⟩:=bC.out.fx.at_ I pc
 obtain rfl:=Option.some.inj (pb.symm.trans My)
 have alw:=gA 6 _ rfl;have abX:=J SS;have Ad:=J hA0;clear gA pb SS My hA0
 go_upto_region 4 with fail
 clear f0 f1 f2 f3 f4 f5 f6 f7
 obtain⟨f0,f1,f2,f3,f4,f5,f6,f7⟩:=aB.oS (fun K:ay bU.heap.size bU=>(ai.ae K.ae ai.lt))
 clear fg;have fg:=aB.jv (fun K:ay bU.heap.size bU=>(db.ae K.ae db.lt));clear ak;have ak:=aB.oS (fun K:ay bU.heap.size bU=>(U.ae K.ae U.lt));clear iI q1 gv
 obtain⟨iI,q1,gv⟩:=aB.jv (fun K:ay bU.heap.size bU=>(ec.ae K.ae ec.lt))
 have Rs:=fun K=>(f0 K).trans (show some (Value.slice aq rs c0)= some (Value.slice (some ⟨eu,kz,none⟩) rs c0) by rw [Ad.out])
 clear f0;have f0:=Rs;clear Rs;have acu:Hid (∀K:ay bU.heap.size bU,aS 7 aK.cells K.world (some ⟨eu,kz,none⟩) rs):=J (fun K=>by have h:=bC.out.fx.ae (aj I K.ae);rw [Ad.out] at h;exact h)
 refine eK (by kernel_rfl) (by kernel_rfl) ?_
 repeat (go_big_quiet_step (fail))
 go_big_quiet_step ((go_at_call 72;exact ay.same _ (tG (some ⟨eu,kz,none⟩) c0 rs bg.out.h0 qr aiR abX.out _ (acu.out _))))
 repeat (go_big_quiet_step (fail))
 refine wpQuiet_nil ?_
 intro K
 clear alw;clear f0 f1 f2 f3 f4 f5 f6 f7;clear fg;clear ak;clear iI q1 gv;have cK:Below bU bU K.world:=aj az K.ae;replace I:=aj I cK;replace cI:=cI.bm cK;replace ai:=ai.to cK
 obtain⟨f0,f1,f2,f3,f4,f5,f6,f7⟩:=ai.aI
 replace db:=db.to cK;have fg:=db.cq;replace U:=U.to cK;have ak:=U.aI;replace ec:=ec.to cK
 obtain⟨iI,q1,gv⟩:=ec.cq
 have Fq:=I.size
 go_wp2_with fail
 refine (Us aq ar an ao aA c0 av c2 c3 c4 rs qs ag af sp ws ad os bg.out (some ⟨g1,0,none⟩) j d1 _ (bC.out.ae (aj I az))).mono ?_
 rintro e ju ⟨bQ,d0,bR,d4,rfl,cJ,cz,ou⟩
 have eQ:Below K.world.heap.size K.world ju:=aj az ou;replace I:=aj I eQ;replace cI:=cI.bm eQ;replace ai:=ai.to eQ;clear f0 f1 f2 f3 f4 f5 f6 f7;replace db:=db.to eQ;clear fg;have fg:=db.cq;replace U:=U.to eQ;clear ak;have ak:=U.aI;replace ec:=ec.to eQ;clear iI q1 gv
 obtain⟨iI,q1,gv⟩:=ec.cq
 have anL:=I.size;have ahe:=U.lt
 go_upto_region 6 with fail
 have CL:=cJ.bm (bT ju (.cells #[.slice bQ rs d0,.slice g1 j d1,ag,af,(0:Int),.slice none 0 0,.slice none 0 0,.slice bR os d4] 44));have qO:=cz.bm (bT ju (.cells #[.slice bQ rs d0,.slice g1 j d1,ag,af,(0:Int),.slice none 0 0,.slice none 0 0,.slice bR os d4] 44))
 clear cJ cz;have mY:Below ju ju (World.alloc ju (.cells #[.slice bQ rs d0,.slice g1 j d1,ag,af,(0:Int),.slice none 0 0,.slice none 0 0,.slice bR os d4] 44)):=bT ju _
 have aR:=aB.new ju 44 #[.slice bQ rs d0,.slice g1 j d1,ag,af,(0:Int),.slice none 0 0,.slice none 0 0,.slice bR os d4]
 replace cI:=cI.bm mY
 generalize World.alloc ju (.cells #[.slice bQ rs d0,.slice g1 j d1,ag,af,(0:Int),.slice none 0 0,.slice none 0 0,.slice bR os d4] 44)= sB at *
 replace I:=aj I mY;have bF:=aR.aI;replace ai:=ai.to mY;clear fg;replace db:=db.to mY;have fg:=db.cq;clear ak;replace U:=U.to mY;have ak:=U.aI;clear iI q1 gv;replace ec:=ec.to mY
 obtain⟨iI,q1,gv⟩:=ec.cq
 have cJ:=CL.base (B':=w.heap.size) Fq;have cz:=qO.base (B':=w.heap.size) Fq;clear CL qO
 obtain⟨Cc,RM⟩ :∃X:World→Prop,∀V,X V↔(Below w w V∧aB V (w.heap.size) 44 #[.slice aq rs c0,.slice ar qs av,ag,af,sp,.slice an ws c2,.slice ao ad c3,.slice aA os c4]∧aB V (w.heap.size + 1) 146 #[yes,no,bq]∧aB V (aJ.heap.size) 115 #[qr,cb,dp]∧aB V (ju.heap.size) 44 #[.slice bQ rs d0,.slice g1 j d1,ag,af,(0:Int),.slice none 0 0,.slice none 0 0,.slice bR os d4]):=⟨_,fun _=>Iff.rfl⟩
 have oP:=J RM;clear RM
 haveI:Nonempty (cH Cc):=⟨⟨sB,((oP.out _).2 ⟨I,ai,db,ec,aR⟩)⟩⟩
 clear fg;clear ak;clear iI q1 gv;clear bF;have fg:=aB.jv (fun K:cH Cc=>((oP.out _).1 K.holds).2.2.1)
 obtain⟨iI,q1,gv⟩:=aB.jv (fun K:cH Cc=>((oP.out _).1 K.holds).2.2.2.1)
 have bF:=aB.oS (fun K:cH Cc=>((oP.out _).1 K.holds).2.2.2.2)
 refine Fw (anT hB ⟨qr,cb,hB⟩) Cc [([0,1,2,3,4,5,6,7],8),([9],10)] [] [([],[],11,true),([],[12],13,true)] [] [] (by kernel_rfl) (by kernel_rfl) ((oP.out _).2 ⟨I.drew,ai,db,ec,aR⟩) (fun W eF h k=>((oP.out _).2 ⟨((oP.out _).1 h).1.trans (k.mono ((oP.out _).1 h).1.size),((oP.out _).1 h).2.1.ae k ((oP.out _).1 h).2.1.lt,((oP.out _).1 h).2.2.1.ae k ((oP.out _).1 h).2.2.1.lt,((oP.out _).1 h).2.2.2.1.ae k ((oP.out _).1 h).2.2.2.1.lt,((oP.out _).1 h).2.2.2.2.ae k ((oP.out _).1 h).2.2.2.2.lt⟩)) ?_
 intro bl
 refine hI (some 61) rfl (.bool hB) rfl fun hz eb=>?_
 change wpQuiet _ _ _ _ (_ ::_ ::_ ::_ ::_ ::_ ::_ ::_ ::[]) _
 repeat (go_big_quiet_step (fail))
 refine wpQuiet_nil ?_
 refine⟨fun k fq=>?_,eb _ ?_⟩
 ·change wpList _ _ _ (_ ::[]) _ _
  go_wp2_with fail
  refine (aiW rx yes no bq (by omega) hB Jj.out _).mono ?_
  rintro e mG ⟨rfl,fL⟩
  go_wp2
  exact hA ⟨0,rfl,fL,trivial⟩
 simp only [Act.put]
 go_simp
 refine hI (some 63) rfl (.slice (some ⟨bl 10,0,none⟩) 1 1) rfl fun hz eb=>?_
 change wpQuiet _ _ _ _ (_ ::[]) _
 repeat (go_big_quiet_step (fail))
 refine wpQuiet_nil ?_
 refine⟨fun k fq=>?_,eb _ ?_⟩
 ·exact OU
 simp only [Act.put]
 go_simp
 refine qJ ?_
 change wpQuiet _ _ _ _ ([]) _
 refine wpQuiet_nil ?_
 intro cN V W aU bL
 obtain⟨yQ,qh⟩ :(cN 10).heap.size= bl 10∧aB (V 10) (bl 10) 163 #[qr,cb,.bool hB]:=aU.post 10 (by simp)
 have qZ:=qh.ae (aU.bm 10 (by simp)) qh.lt;clear fg;clear iI q1 gv;clear bF;have xt:Below sB sB W:=aj az (aU.whole 10 (by simp)).oM;replace I:=aj I xt;replace cI:=cI.bm xt;replace cJ:=cJ.bm xt;replace cz:=cz.bm xt;replace ai:=ai.to xt;replace U:=U.to xt;have ak:=U.aI;replace ec:=ec.to xt
 obtain⟨iI,q1,gv⟩:=ec.cq
 replace aR:=aR.to xt;have bF:=aR.aI;clear aU yQ qh bL
 generalize bl 10= zU at *
 have JF:Hid (aS 3 Out.cells W (some ⟨zU,0,none⟩) [(⟨qr,cb,hB⟩ :Out)]):=J (fun _=>⟨zU,0,rfl,qZ.lt,fun i y hy j u hu=>by
  exact Yv⟩)
 have pN:=cz.cu aR;have rh:=cz.cu U;have DM:=cz.apart cJ (by decide);have DN:=cz.apart cI (by decide);have nv:=cz.lt;have kp:=J cz;have kG:=J cI;have kV:=J cJ;have cc:=J aR;have ja:=J U;have et:=J I;have yh:=J pN;have yi:=J rh;have Ad:=J DM;have Ji:=J DN;have yg:=J nv;have Ol:=I.size;clear cz cI cJ qZ pN rh DM DN nv
 refine oa fun fT dv=>?_
 refine wpQuiet_nil ?_
 refine wpQuiet_nil ?_
 change wpList _ _ _ (_ ::[]) _ _
 go_wp2_with ((at_builtin;refine kC rfl _ _ 42 rfl _ 163 i0 _ 3 24 Tryz.underlying42 hi dn dC dz rfl (by decide) Out.cells zD Nv _ os rfl kp.out ⟨zU,0,none⟩ 1 ⟨qr,cb,hB⟩ rfl JF.out (by unfold maxLen;omega) (by omega) (by omega) ?_;intro v9 mG je ku yL;clear yL;obtain⟨Y,gV,rfl,q1,gv,mm⟩:=je.form zD;clear q1 gv mm;rw [FN.out] at je))
 have dR:=cc.out.kb ku (fun e=>yh.out _ e.symm rfl);have bK:=ja.out.kb ku (fun e=>yi.out _ e.symm rfl);have cJ:=kV.out.kept ku (fun k aD e=>Ad.out k e.symm aD.symm);have cI:=kG.out.kept ku (fun k aD e=>Ji.out k e.symm aD.symm);have cz:=je;have Cg:Below w w mG:=et.out.grown ku (by omega) (fun q bj=>by have:=(yg.out q bj).1;omega);clear aR U ai db ec I iI q1 gv bF ak ku je
 refine wU (dv _ _ ?_)
 refine oa fun CF tb=>?_
 refine wpQuiet_nil ?_
 change wpQuiet _ _ _ _ (_ ::[]) _
 haveI:Nonempty (cH (fun _=>True)):=⟨⟨w,trivial⟩⟩
 try simp only [Act.put]
 try go_simp
 repeat (go_big_quiet_step (fail))
 refine wpQuiet_nil ?_
 change wpList _ _ _ (_ ::[]) _ _
 have I:=Cg;clear Cg;have ak:=bK.aI;have bF:=dR.aI;have fM:=cJ.cu dR;have iY:=cI.cu dR;have fN:=cz.cu dR;have KE:=dR.frozen 7
 go_wp2
 clear ak bF
 refine mF 7 fun Gj jK=>?_
 replace I:=jK.aH I;replace bK:=jK.dV bK;replace dR:=jK.VQ dR;replace cJ:=cJ.bY jK fM;replace cI:=cI.bY jK iY;replace cz:=cz.bY jK fN;have ak:=bK.aI;have bF:=dR.aI
 clear fM iY fN KE
 refine wU (tb _ _ ?_)
 refine xR ?_
 refine wpQuiet_nil ?_
 refine wpQuiet_nil ?_
 have fM:=cJ.cu bK;have iY:=cI.cu bK;have fN:=cz.cu bK;have AK:=bK.frozen 0;have AL:=bK.frozen 1;have AM:=bK.frozen 2;have AN:=bK.frozen 3;have AO:=bK.frozen 4;have aeA:=bK.frozen 5;have aeB:=bK.frozen 6;have aeC:=bK.frozen 7
 go_wp2
 clear ak bF
 refine hR 0 fun Gk kg=>?_
 replace I:=kg.aH I;replace bK:=kg.ia bK;replace cJ:=cJ.bY kg fM;replace cI:=cI.bY kg iY;replace cz:=cz.bY kg fN;have ak:=bK.aI
 refine bodyPost_ret (v:= .tuple #[.agg #[.slice bQ rs d0,.slice g1 j d1,ag,af,(0:Int),.slice none 0 0,.slice none 0 0,.slice Y (os.length + 1) gV],true]) (by simp [results,Tryz.results232,go_sem,ak]) rfl ?_
 exact Yz
open Go.RowKit Go.G9
def anS (zO:Int) (zP:ByteArray) (zR:Int) (rs rd zM:Bool) (rx:Int) (hB:Bool) (o:Out):kq Nat where
 par:=fun _=>[]
 val:=fun n p=>match n with
  | 9=> .agg #[.int .i64 zO,.string zP,.int .i64 zR,.bool rs,.bool rd,.bool zM,.int .i64 rx]
  | 15=> .bool hB
  | 17=> .slice (some ⟨p,0,none⟩) 1 1
  | _=>undef
 post:=fun n _ p cN V=>match n with
  | 17=>cN.heap.size= p∧aB V p 163 #[.int .i64 o.fR,.int .i64 o.mover,.bool o.hB]
  | _=>True
theorem aiv (aq ar an ao aA:Option Addr) (c0 av c2 c3 c4:Nat) (rs:List aK) (qs:List aQ) (ag af sp:Int) (ws:List Int) (ad:List aO) (os:List Out) (Z:ei aq ar an ao aA c0 av c2 c3 c4 rs qs ws ad os) (yes no bq:Int) (j:Nat) (bE:qs.length= j + 1) (qr cb:Int) (dp:Bool) (bj:qs[j]? =some ⟨qr,cb,dp⟩) (aN:dt rs qs= true) (aT:jx rs qs= false) (ct:sy yes no bq= true) (cG:os.length < 12) (w:World) (R:dI w aq ar an ao aA rs qs ws ad os):
 Calls Tryz.prog 253 #[.agg #[.slice aq rs c0,.slice ar qs av,ag,af,sp,.slice an ws c2,.slice ao ad c3,.slice aA os c4],.agg #[yes,no,bq]] w fun e ah=>∃bQ d0 cn d1 aZ d2 bk d3 bR d4,e= .returned (.tuple #[.agg #[.slice bQ rs d0,.slice cn (qs.take j).length d1,ag,af,(0:Int),.slice aZ ([]:List Int).length d2,.slice bk ([]:List aO).length d3,.slice bR (os ++ [(⟨qr,cb,om (sn rs ⟨qr,cb,dp⟩) yes no⟩ :Out)]).length d4],true])∧fP w ah bQ d0 cn d1 aZ d2 bk d3 bR d4 rs (qs.take j) [] [] (os ++ [(⟨qr,cb,om (sn rs ⟨qr,cb,dp⟩) yes no⟩ :Out)])∧Below w w ah:=by
 obtain⟨i0,hi,dn,dC,dz⟩:=info_parts HC
 have bC:=J R;have bg:=J Z;clear R Z
 obtain⟨⟨zO,zP,zR,df,rd,zM,rx,Wr⟩,bp⟩:=nd aN bj
 obtain⟨hB,vL⟩ :∃hB,om (sn rs ⟨qr,cb,dp⟩) yes no= hB:=⟨_,rfl⟩
 have eM:sn rs ⟨qr,cb,dp⟩ =rx:=by simp only [sn];rw [bp]
 have qk:=XF ct
 rw [vL]
 rw [eM] at vL
 have xq:(os ++ [(⟨qr,cb,hB⟩ :Out)]).length= os.length + 1:=by simp
 rw [xq]
 have FN:=J xq;have El:((os.length:Int) == 12)= false:=beq_eq_false_iff_ne.2 (by omega)
 have ic:(qs.take j).length= j:=by rw [List.length_take];omega
 rw [ic]
 have eA:=J bE;have dH:=J bj;have ea:=J aN;have cB:=J aT;have bO:=J ct;have pr:=J bp;have Jj:=J vL;have sJ:=J ic;clear bE bj aN aT ct bp vL eM xq ic
 go_in
 go_upto_region 1 with fail
 refine fv fun aG au ai db U=>?_
 have I:=au;have aC:=ai.aI;have fg:=db.cq;have ak:=U.aI;have fQ:=U.lt
 go_wp2_with fail
 refine (MO aq c0 rs bg.out.h0 bg.out.dZ ar av qs bg.out.h1 bg.out.eI j eA.out qr cb dp dH.out ea.out cB.out _ (bC.out.fx.ae (aj I az)) (bC.out.dL.ae (aj I az))).mono ?_
 rintro e aJ ⟨g1,d1,rfl,cI,aL⟩
 have al:=be aG aL;replace I:=aj I al;replace ai:=ai.to al;clear aC;have aC:=ai.aI;replace db:=db.to al;clear fg;have fg:=db.cq;replace U:=U.to al;clear ak;have ak:=U.aI
 rw [sJ.out]
 rw [sJ.out] at cI
 go_upto_region 2 with fail
 have CM:=cI.bm (bT aJ (.cells #[qr,cb,dp] 115));clear cI;have aP:Below aJ aJ (World.alloc aJ (.cells #[qr,cb,dp] 115)):=bT aJ _
 have ec:=aB.new aJ 115 #[qr,cb,dp]
 generalize World.alloc aJ (.cells #[qr,cb,dp] 115)= qa at *
 replace I:=aj I aP
 obtain⟨iI,q1,gv⟩:=ec.cq
 clear aC;replace ai:=ai.to aP;have aC:=ai.aI;clear fg;replace db:=db.to aP;have fg:=db.cq;clear ak;replace U:=U.to aP;have ak:=U.aI;have cI:=CM;clear CM
 go_wp2_with fail
 refine (MR yes no bq _ bO.out _).mono ?_
 rintro e bU ⟨rfl,cY⟩
 have bN:=be qa cY;replace I:=aj I bN;replace cI:=cI.bm bN;replace ai:=ai.to bN;clear aC;have aC:=ai.aI;replace db:=db.to bN;clear fg;have fg:=db.cq;replace U:=U.to bN;clear ak;have ak:=U.aI;replace ec:=ec.to bN;clear iI q1 gv
 obtain⟨iI,q1,gv⟩:=ec.cq
 have Fq:=I.size
 go_wp2_with fail
 refine (XY aq ar an ao aA c0 av c2 c3 c4 rs qs ag af sp ws ad os bg.out (some ⟨g1,0,none⟩) j d1 _ (bC.out.ae (aj I az))).mono ?_
 rintro e dB ⟨bQ,d0,bR,d4,rfl,cJ,cz,eD⟩
 have cK:=be bU eD;replace I:=aj I cK;replace cI:=cI.bm cK;replace ai:=ai.to cK;clear aC;have aC:=ai.aI;replace db:=db.to cK;clear fg;have fg:=db.cq;replace U:=U.to cK;clear ak;have ak:=U.aI;replace ec:=ec.to cK;clear iI q1 gv
 obtain⟨iI,q1,gv⟩:=ec.cq
 have anL:=I.size;have ahe:=U.lt
 go_upto_region 5 with fail
 have CL:=cJ.bm (bT dB (.cells #[.slice bQ rs d0,.slice g1 j d1,ag,af,(0:Int),.slice none 0 0,.slice none 0 0,.slice bR os d4] 44));have qO:=cz.bm (bT dB (.cells #[.slice bQ rs d0,.slice g1 j d1,ag,af,(0:Int),.slice none 0 0,.slice none 0 0,.slice bR os d4] 44))
 clear cJ cz;have eQ:Below dB dB (World.alloc dB (.cells #[.slice bQ rs d0,.slice g1 j d1,ag,af,(0:Int),.slice none 0 0,.slice none 0 0,.slice bR os d4] 44)):=bT dB _
 have aR:=aB.new dB 44 #[.slice bQ rs d0,.slice g1 j d1,ag,af,(0:Int),.slice none 0 0,.slice none 0 0,.slice bR os d4]
 replace cI:=cI.bm eQ
 generalize World.alloc dB (.cells #[.slice bQ rs d0,.slice g1 j d1,ag,af,(0:Int),.slice none 0 0,.slice none 0 0,.slice bR os d4] 44)= sB at *
 replace I:=aj I eQ;have bF:=aR.aI;clear aC;replace ai:=ai.to eQ;have aC:=ai.aI;clear fg;replace db:=db.to eQ;have fg:=db.cq;clear ak;replace U:=U.to eQ;have ak:=U.aI;clear iI q1 gv;replace ec:=ec.to eQ
 obtain⟨iI,q1,gv⟩:=ec.cq
 have cJ:=CL.base (B':=w.heap.size) Fq;have cz:=qO.base (B':=w.heap.size) Fq;clear CL qO
 obtain⟨rH,Dv⟩ :∃X:World→Prop,∀V,X V↔(Below w w V∧aB V (w.heap.size) 44 #[.slice aq rs c0,.slice ar qs av,ag,af,sp,.slice an ws c2,.slice ao ad c3,.slice aA os c4]∧aB V (w.heap.size + 1) 146 #[yes,no,bq]∧aB V (aJ.heap.size) 115 #[qr,cb,dp]∧aB V (dB.heap.size) 44 #[.slice bQ rs d0,.slice g1 j d1,ag,af,(0:Int),.slice none 0 0,.slice none 0 0,.slice bR os d4]):=⟨_,fun _=>Iff.rfl⟩
 have kU:=J Dv;clear Dv
 haveI:Nonempty (cH rH):=⟨⟨sB,((kU.out _).2 ⟨I,ai,db,ec,aR⟩)⟩⟩
 clear aC;clear fg;clear ak;clear iI q1 gv;clear bF;have aC:=aB.oS (fun K:cH rH=>((kU.out _).1 K.holds).2.1);have fg:=aB.jv (fun K:cH rH=>((kU.out _).1 K.holds).2.2.1)
 obtain⟨iI,q1,gv⟩:=aB.jv (fun K:cH rH=>((kU.out _).1 K.holds).2.2.2.1)
 have bF:=aB.oS (fun K:cH rH=>((kU.out _).1 K.holds).2.2.2.2)
 have hf:=fun W=>(show (Instr.field 89 (.agg #[zO,zP,zR,df,rd,zM,rx]) 6).run Tryz.prog W= .ok (.int .i64 rx) W by kernel_rfl)
 refine Fw (anS zO zP zR df rd zM rx hB ⟨qr,cb,hB⟩) rH [([0,1,2,3,4,5,6,7,8],9),([10,11,12,13,14],15),([16],17)] [] [([],[],18,true),([],[19],20,true)] [] [] (by kernel_rfl) (by kernel_rfl) ((kU.out _).2 ⟨I.drew,ai,db,ec,aR⟩) (fun W eF h k=>((kU.out _).2 ⟨((kU.out _).1 h).1.trans (k.mono ((kU.out _).1 h).1.size),((kU.out _).1 h).2.1.ae k ((kU.out _).1 h).2.1.lt,((kU.out _).1 h).2.2.1.ae k ((kU.out _).1 h).2.2.1.lt,((kU.out _).1 h).2.2.2.1.ae k ((kU.out _).1 h).2.2.2.1.lt,((kU.out _).1 h).2.2.2.2.ae k ((kU.out _).1 h).2.2.2.2.lt⟩)) ?_
 intro bl
 refine hI (some 45) rfl (.agg #[zO,zP,zR,df,rd,zM,rx]) rfl fun hz eb=>?_
 change wpQuiet _ _ _ _ (_ ::_ ::_ ::_ ::_ ::_ ::_ ::_ ::_ ::[]) _
 repeat (go_big_quiet_step (fail))
 refine wpQuiet_nil ?_
 refine⟨fun k fq=>?_,eb _ ?_⟩
 ·change wpList _ _ _ (_ ::[]) _ _
  go_wp2_with fail
  refine (pZ aq c0 rs bg.out.h0 ⟨qr,cb,dp⟩ ⟨zO,zP,zR,df,rd,zM,rx,Wr⟩ pr.out _ (bC.out.fx.ae ((kU.out _).1 k.holds).1)).mono ?_
  rintro e mG ⟨rfl,fL⟩
  go_wp2
  exact hA ⟨0,rfl,fL,trivial⟩
 simp only [Act.put]
 go_simp
 refine hI (some 51) rfl (.bool hB) rfl fun hz eb=>?_
 change wpQuiet _ _ _ _ (_ ::_ ::_ ::_ ::_ ::[]) _
 repeat (go_big_quiet_step (fail))
 refine wpQuiet_nil ?_
 refine⟨fun k fq=>?_,eb _ ?_⟩
 ·change wpList _ _ _ (_ ::[]) _ _
  go_wp2_with fail
  refine (aiO rx yes no (by omega) (by omega) (by omega) (by omega) hB Jj.out _).mono ?_
  rintro e mG ⟨rfl,fL⟩
  go_wp2
  first | exact hA ⟨0,rfl,fL,trivial⟩ | (subst fL;exact hA ⟨0,rfl,Below.refl _ _,trivial⟩)
 simp only [Act.put]
 go_simp
 refine hI (some 53) rfl (.slice (some ⟨bl 17,0,none⟩) 1 1) rfl fun hz eb=>?_
 change wpQuiet _ _ _ _ (_ ::[]) _
 repeat (go_big_quiet_step (fail))
 refine wpQuiet_nil ?_
 refine⟨fun k fq=>?_,eb _ ?_⟩
 ·exact OU
 simp only [Act.put]
 go_simp
 refine qJ ?_
 change wpQuiet _ _ _ _ ([]) _
 refine wpQuiet_nil ?_
 intro cN V W aU bL
 obtain⟨yQ,qh⟩ :(cN 17).heap.size= bl 17∧aB (V 17) (bl 17) 163 #[qr,cb,.bool hB]:=aU.post 17 (by simp)
 have qZ:=qh.ae (aU.bm 17 (by simp)) qh.lt;clear aC;clear fg;clear iI q1 gv;clear bF;have rm:Below sB sB W:=aj az (aU.whole 17 (by simp)).oM;replace I:=aj I rm;replace cI:=cI.bm rm;replace cJ:=cJ.bm rm;replace cz:=cz.bm rm;replace U:=U.to rm;have ak:=U.aI;replace ec:=ec.to rm
 obtain⟨iI,q1,gv⟩:=ec.cq
 replace aR:=aR.to rm;have bF:=aR.aI;clear aU yQ qh bL hf
 generalize bl 17= zU at *
 have JF:Hid (aS 3 Out.cells W (some ⟨zU,0,none⟩) [(⟨qr,cb,hB⟩ :Out)]):=J (fun _=>⟨zU,0,rfl,qZ.lt,fun i y hy j u hu=>by
  exact Yv⟩)
 have pN:=cz.cu aR;have rh:=cz.cu U;have DM:=cz.apart cJ (by decide);have DN:=cz.apart cI (by decide);have nv:=cz.lt;have kp:=J cz;have kG:=J cI;have kV:=J cJ;have cc:=J aR;have ja:=J U;have et:=J I;have yh:=J pN;have yi:=J rh;have Ad:=J DM;have Ji:=J DN;have yg:=J nv;have Ol:=I.size;clear cz cI cJ qZ pN rh DM DN nv
 refine oa fun fT dv=>?_
 refine wpQuiet_nil ?_
 refine wpQuiet_nil ?_
 change wpList _ _ _ (_ ::[]) _ _
 go_wp2_with ((at_builtin;refine kC rfl _ _ 42 rfl _ 163 i0 _ 3 24 Tryz.underlying42 hi dn dC dz rfl (by decide) Out.cells zD Nv _ os rfl kp.out ⟨zU,0,none⟩ 1 ⟨qr,cb,hB⟩ rfl JF.out (by unfold maxLen;omega) (by omega) (by omega) ?_;intro v9 mG je ku yL;clear yL;obtain⟨Y,gV,rfl,q1,gv,mm⟩:=je.form zD;clear q1 gv mm;rw [FN.out] at je))
 have dR:=cc.out.kb ku (fun e=>yh.out _ e.symm rfl);have bK:=ja.out.kb ku (fun e=>yi.out _ e.symm rfl);have cJ:=kV.out.kept ku (fun k aD e=>Ad.out k e.symm aD.symm);have cI:=kG.out.kept ku (fun k aD e=>Ji.out k e.symm aD.symm);have cz:=je;have Cg:Below w w mG:=et.out.grown ku (by omega) (fun q bj=>by have:=(yg.out q bj).1;omega);clear aR U ai db ec I iI q1 gv bF ak ku je
 refine wU (dv _ _ ?_)
 refine oa fun CF tb=>?_
 refine wpQuiet_nil ?_
 change wpQuiet _ _ _ _ (_ ::[]) _
 haveI:Nonempty (cH (fun _=>True)):=⟨⟨w,trivial⟩⟩
 try simp only [Act.put]
 try go_simp
 repeat (go_big_quiet_step (fail))
 refine wpQuiet_nil ?_
 change wpList _ _ _ (_ ::[]) _ _
 have I:=Cg;clear Cg;have ak:=bK.aI;have bF:=dR.aI;have fM:=cJ.cu dR;have iY:=cI.cu dR;have fN:=cz.cu dR;have KE:=dR.frozen 7
 go_wp2
 clear ak bF
 refine mF 7 fun Gj jK=>?_
 replace I:=jK.aH I;replace bK:=jK.dV bK;replace dR:=jK.VQ dR;replace cJ:=cJ.bY jK fM;replace cI:=cI.bY jK iY;replace cz:=cz.bY jK fN;have ak:=bK.aI;have bF:=dR.aI
 clear fM iY fN KE
 refine wU (tb _ _ ?_)
 refine xR ?_
 refine wpQuiet_nil ?_
 refine wpQuiet_nil ?_
 have fM:=cJ.cu bK;have iY:=cI.cu bK;have fN:=cz.cu bK;have AK:=bK.frozen 0;have AL:=bK.frozen 1;have AM:=bK.frozen 2;have AN:=bK.frozen 3;have AO:=bK.frozen 4;have aeA:=bK.frozen 5;have aeB:=bK.frozen 6;have aeC:=bK.frozen 7
 go_wp2
 clear ak bF
 refine hR 0 fun Gk kg=>?_
 replace I:=kg.aH I;replace bK:=kg.ia bK;replace cJ:=cJ.bY kg fM;replace cI:=cI.bY kg iY;replace cz:=cz.bY kg fN;have ak:=bK.aI
 refine bodyPost_ret (v:= .tuple #[.agg #[.slice bQ rs d0,.slice g1 j d1,ag,af,(0:Int),.slice none 0 0,.slice none 0 0,.slice Y (os.length + 1) gV],true]) (by simp [results,Tryz.results253,go_sem,ak]) rfl ?_
 exact Yz
open Go.RowKit Go.G9
def hq (o:Option cw) (w:World) (e:Ending) (ah:World):Prop:=match o with
 | some n=>∃bQ d0 cn d1 aZ d2 bk d3 bR d4,e= .returned (.tuple #[.agg #[.slice bQ n.cx.length d0,.slice cn n.cP.length d1,.int .i64 n.ek,.int .i64 n.dS,.int .i64 n.fk,.slice aZ n.ds.length d2,.slice bk n.du.length d3,.slice bR n.cl.length d4],.bool true])∧fP w.heap.size ah bQ d0 cn d1 aZ d2 bk d3 bR d4 n.cx n.cP n.ds n.du n.cl∧Below w.heap.size w ah
 | none=>e= .returned (.tuple #[.agg #[.slice none 0 0,.slice none 0 0,.int .i64 0,.int .i64 0,.int .i64 0,.slice none 0 0,.slice none 0 0,.slice none 0 0],.bool false])∧Below w.heap.size w ah
theorem aif (aq:Option Addr) (c0:Nat) (rs:List aK) (h0:rs.length≤1048576) (fo:rs.length≤c0) (ar:Option Addr) (av:Nat) (qs:List aQ) (h1:qs.length≤1048576) (aX:ar= none→qs= []∧av= 0) (id mem:Int) (ps:List aQ) (ax:jy rs qs id mem= some ps) (w:World) (bf:aS 7 aK.cells w aq rs) (aW:aS 3 aQ.cells w ar qs):Calls Tryz.prog 254 #[.slice aq rs c0,.slice ar qs av,id,mem] w fun e ah=>∃A c,e= .returned (.tuple #[.slice A ps c,true])∧bd w 115 3 aQ.cells ah (.slice A ps c) ps∧Below w w ah:=by
 have h:=TS aq c0 rs h0 fo ar av qs h1 aX id mem w bf aW
 rw [ax] at h
 exact h
theorem aie (aq:Option Addr) (c0:Nat) (rs:List aK) (h0:rs.length≤1048576) (fo:rs.length≤c0) (ar:Option Addr) (av:Nat) (qs:List aQ) (h1:qs.length≤1048576) (aX:ar= none→qs= []∧av= 0) (id mem:Int) (ax:jy rs qs id mem= none) (w:World) (bf:aS 7 aK.cells w aq rs) (aW:aS 3 aQ.cells w ar qs):Calls Tryz.prog 254 #[.slice aq rs c0,.slice ar qs av,id,mem] w fun e ah=>∃A c,e= .returned (.tuple #[.slice A 0 c,false])∧Below w w ah:=by
 have h:=TS aq c0 rs h0 fo ar av qs h1 aX id mem w bf aW
 rw [ax] at h
 exact h.mono fun e ah ⟨A,c,he,_,aF⟩=>⟨A,c,he,aF⟩
theorem WM (aq:Option Addr) (c0:Nat) (rs:List aK) (h0:rs.length≤1048576) (ar:Option Addr) (av:Nat) (qs:List aQ) (h1:qs.length≤1048576) (aX:ar= none→qs= []∧av= 0) (id mem:Int) (ps:List aQ) (ax:jy rs qs id mem= some ps) (w:World) (bf:aS 7 aK.cells w aq rs) (aW:aS 3 aQ.cells w ar qs):Calls Tryz.prog 230 #[.slice aq rs c0,.slice ar qs av,id,mem] w fun e ah=>∃A c,e= .returned (.tuple #[.slice A ps c,true])∧bd w 115 3 aQ.cells ah (.slice A ps c) ps∧Below w w ah:=by
 have h:=WN aq c0 rs h0 ar av qs h1 aX id mem w bf aW
 rw [ax] at h
 exact h
theorem amI (aq:Option Addr) (c0:Nat) (rs:List aK) (h0:rs.length≤1048576) (ar:Option Addr) (av:Nat) (qs:List aQ) (h1:qs.length≤1048576) (aX:ar= none→qs= []∧av= 0) (id mem:Int) (ax:jy rs qs id mem= none) (w:World) (bf:aS 7 aK.cells w aq rs) (aW:aS 3 aQ.cells w ar qs):Calls Tryz.prog 230 #[.slice aq rs c0,.slice ar qs av,id,mem] w fun e ah=>∃A c,e= .returned (.tuple #[.slice A 0 c,false])∧Below w w ah:=by
 have h:=WN aq c0 rs h0 ar av qs h1 aX id mem w bf aW
 rw [ax] at h
 exact h.mono fun e ah ⟨A,c,he,_,aF⟩=>⟨A,c,he,aF⟩
theorem aiy (aq:Option Addr) (c0:Nat) (rs:List aK) (h0:rs.length≤1048576) (fo:rs.length≤c0) (ar:Option Addr) (av:Nat) (qs:List aQ) (h1:qs.length≤1048576) (hZ:qs.length≤av) (mem:Int) (ps:List aQ) (ax:jX rs qs mem= some ps) (w:World) (bf:aS 7 aK.cells w aq rs) (aW:aS 3 aQ.cells w ar qs):Calls Tryz.prog 255 #[.slice aq rs c0,.slice ar qs av,mem] w fun e ah=>∃A c,e= .returned (.tuple #[.slice A ps c,true])∧bd w 115 3 aQ.cells ah (.slice A ps c) ps∧Below w w ah:=by
 have h:=TX aq c0 rs h0 fo ar av qs h1 hZ mem w bf aW
 rw [ax] at h
 exact h
theorem aix (aq:Option Addr) (c0:Nat) (rs:List aK) (h0:rs.length≤1048576) (fo:rs.length≤c0) (ar:Option Addr) (av:Nat) (qs:List aQ) (h1:qs.length≤1048576) (hZ:qs.length≤av) (mem:Int) (ax:jX rs qs mem= none) (w:World) (bf:aS 7 aK.cells w aq rs) (aW:aS 3 aQ.cells w ar qs):Calls Tryz.prog 255 #[.slice aq rs c0,.slice ar qs av,mem] w fun e ah=>∃A c,e= .returned (.tuple #[.slice A 0 c,false])∧Below w w ah:=by
 have h:=TX aq c0 rs h0 fo ar av qs h1 hZ mem w bf aW
 rw [ax] at h
 exact h.mono fun e ah ⟨A,c,he,_,aF⟩=>⟨A,c,he,aF⟩
theorem WS (aq:Option Addr) (c0:Nat) (rs:List aK) (h0:rs.length≤1048576) (ar:Option Addr) (av:Nat) (qs:List aQ) (h1:qs.length≤1048576) (hZ:qs.length≤av) (mem:Int) (ps:List aQ) (ax:jX rs qs mem= some ps) (w:World) (bf:aS 7 aK.cells w aq rs) (aW:aS 3 aQ.cells w ar qs):Calls Tryz.prog 233 #[.slice aq rs c0,.slice ar qs av,mem] w fun e ah=>∃A c,e= .returned (.tuple #[.slice A ps c,true])∧bd w 115 3 aQ.cells ah (.slice A ps c) ps∧Below w w ah:=by
 have h:=WT aq c0 rs h0 ar av qs h1 hZ mem w bf aW
 rw [ax] at h
 exact h
theorem ana (aq:Option Addr) (c0:Nat) (rs:List aK) (h0:rs.length≤1048576) (ar:Option Addr) (av:Nat) (qs:List aQ) (h1:qs.length≤1048576) (hZ:qs.length≤av) (mem:Int) (ax:jX rs qs mem= none) (w:World) (bf:aS 7 aK.cells w aq rs) (aW:aS 3 aQ.cells w ar qs):Calls Tryz.prog 233 #[.slice aq rs c0,.slice ar qs av,mem] w fun e ah=>∃A c,e= .returned (.tuple #[.slice A 0 c,false])∧Below w w ah:=by
 have h:=WT aq c0 rs h0 ar av qs h1 hZ mem w bf aW
 rw [ax] at h
 exact h.mono fun e ah ⟨A,c,he,_,aF⟩=>⟨A,c,he,aF⟩
theorem aiq (aq:Option Addr) (c0:Nat) (rs:List aK) (h0:rs.length≤1048576) (fo:rs.length≤c0) (ar:Option Addr) (av:Nat) (qs:List aQ) (h1:qs.length≤1048576) (aX:ar= none→qs= []∧av= 0) (mem:Int) (ps:List aQ) (ax:jJ rs qs mem= some ps) (w:World) (bf:aS 7 aK.cells w aq rs) (aW:aS 3 aQ.cells w ar qs):Calls Tryz.prog 180 #[.slice aq rs c0,.slice ar qs av,mem] w fun e ah=>∃A c,e= .returned (.tuple #[.slice A ps c,true])∧bd w 115 3 aQ.cells ah (.slice A ps c) ps∧Below w w ah:=by
 have h:=TW aq c0 rs h0 fo ar av qs h1 aX mem w bf aW
 rw [ax] at h
 exact h
theorem aip (aq:Option Addr) (c0:Nat) (rs:List aK) (h0:rs.length≤1048576) (fo:rs.length≤c0) (ar:Option Addr) (av:Nat) (qs:List aQ) (h1:qs.length≤1048576) (aX:ar= none→qs= []∧av= 0) (mem:Int) (ax:jJ rs qs mem= none) (w:World) (bf:aS 7 aK.cells w aq rs) (aW:aS 3 aQ.cells w ar qs):Calls Tryz.prog 180 #[.slice aq rs c0,.slice ar qs av,mem] w fun e ah=>∃A c,e= .returned (.tuple #[.slice A 0 c,false])∧Below w w ah:=by
 have h:=TW aq c0 rs h0 fo ar av qs h1 aX mem w bf aW
 rw [ax] at h
 exact h.mono fun e ah ⟨A,c,he,_,aF⟩=>⟨A,c,he,aF⟩
theorem amS (aq:Option Addr) (c0:Nat) (rs:List aK) (h0:rs.length≤1048576) (ar:Option Addr) (av:Nat) (qs:List aQ) (h1:qs.length≤1048576) (aX:ar= none→qs= []∧av= 0) (mem:Int) (ps:List aQ) (ax:jJ rs qs mem= some ps) (w:World) (bf:aS 7 aK.cells w aq rs) (aW:aS 3 aQ.cells w ar qs):Calls Tryz.prog 231 #[.slice aq rs c0,.slice ar qs av,mem] w fun e ah=>∃A c,e= .returned (.tuple #[.slice A ps c,true])∧bd w 115 3 aQ.cells ah (.slice A ps c) ps∧Below w w ah:=by
 have h:=WR aq c0 rs h0 ar av qs h1 aX mem w bf aW
 rw [ax] at h
 exact h
theorem amR (aq:Option Addr) (c0:Nat) (rs:List aK) (h0:rs.length≤1048576) (ar:Option Addr) (av:Nat) (qs:List aQ) (h1:qs.length≤1048576) (aX:ar= none→qs= []∧av= 0) (mem:Int) (ax:jJ rs qs mem= none) (w:World) (bf:aS 7 aK.cells w aq rs) (aW:aS 3 aQ.cells w ar qs):Calls Tryz.prog 231 #[.slice aq rs c0,.slice ar qs av,mem] w fun e ah=>∃A c,e= .returned (.tuple #[.slice A 0 c,false])∧Below w w ah:=by
 have h:=WR aq c0 rs h0 ar av qs h1 aX mem w bf aW
 rw [ax] at h
 exact h.mono fun e ah ⟨A,c,he,_,aF⟩=>⟨A,c,he,aF⟩
theorem TR (aq:Option Addr) (c0:Nat) (rs:List aK) (h0:rs.length≤1048576) (fo:rs.length≤c0) (ar:Option Addr) (av:Nat) (qs:List aQ) (h1:qs.length≤1048576) (aX:ar= none→qs= []∧av= 0) (ps:List aQ) (ax:kL rs qs= some ps) (w:World) (bf:aS 7 aK.cells w aq rs) (aW:aS 3 aQ.cells w ar qs):Calls Tryz.prog 256 #[.slice aq rs c0,.slice ar qs av] w fun e ah=>∃A c,e= .returned (.tuple #[.slice A ps c,true])∧bd w 115 3 aQ.cells ah (.slice A ps c) ps∧Below w w ah:=by
 have h:=ahu aq c0 rs h0 fo ar av qs h1 aX w bf aW
 rw [ax] at h
 exact h
theorem WE (aq:Option Addr) (c0:Nat) (rs:List aK) (h0:rs.length≤1048576) (ar:Option Addr) (av:Nat) (qs:List aQ) (h1:qs.length≤1048576) (aX:ar= none→qs= []∧av= 0) (hZ:qs.length≤av) (ps:List aQ) (ax:kL rs qs= some ps) (w:World) (bf:aS 7 aK.cells w aq rs) (aW:aS 3 aQ.cells w ar qs):Calls Tryz.prog 234 #[.slice aq rs c0,.slice ar qs av] w fun e ah=>∃A c,e= .returned (.tuple #[.slice A ps c,true])∧bd w 115 3 aQ.cells ah (.slice A ps c) ps∧Below w w ah:=by
 have h:=amc aq c0 rs h0 ar av qs h1 aX hZ w bf aW
 rw [ax] at h
 exact h
theorem aiw (aq ar an ao aA:Option Addr) (c0 av c2 c3 c4:Nat) (rs:List aK) (qs:List aQ) (ag af sp:Int) (ws:List Int) (ad:List aO) (os:List Out) (Z:ei aq ar an ao aA c0 av c2 c3 c4 rs qs ws ad os) (mem val:Int) (yes no bq:Int) (n:cw) (ax:nZ ⟨rs,qs,ag,af,sp,ws,ad,os⟩ ⟨7,mem,val,yes,no,bq⟩ =some n) (aN:dt rs qs= true) (cG:os.length≤12) (w:World) (R:dI w aq ar an ao aA rs qs ws ad os):
 Calls Tryz.prog 253 #[.agg #[.slice aq rs c0,.slice ar qs av,ag,af,sp,.slice an ws c2,.slice ao ad c3,.slice aA os c4],.agg #[yes,no,bq]] w fun e ah=>∃bQ d0 cn d1 aZ d2 bk d3 bR d4,e= .returned (.tuple #[.agg #[.slice bQ n.cx d0,.slice cn n.cP d1,n.ek,n.dS,n.fk,.slice aZ n.ds d2,.slice bk n.du d3,.slice bR n.cl d4],true])∧fP w ah bQ d0 cn d1 aZ d2 bk d3 bR d4 n.cx n.cP n.ds n.du n.cl∧Below w w ah:=by
 obtain⟨ps,⟨qr,cb,dp⟩,bJ,ct,h12,rfl⟩:=IG ax
 dsimp only at bJ ct h12
 unfold qg at bJ
 split at bJ
 ·rename_i q bj
  split at bJ
  ·rename_i aH
   cases bJ
   simp only [Bool.and_eq_true,Bool.not_eq_true'] at aH
   have aT:=(List.getElem?_eq_some_iff.1 bj).1
   exact aiv aq ar an ao aA c0 av c2 c3 c4 rs qs ag af sp ws ad os Z yes no bq (qs.length - 1) (by omega) qr cb dp bj aH.1 aH.2 ct (by omega) w R
  ·cases bJ
 ·cases bJ
theorem amZ (aq ar an ao aA:Option Addr) (c0 av c2 c3 c4:Nat) (rs:List aK) (qs:List aQ) (ag af sp:Int) (ws:List Int) (ad:List aO) (os:List Out) (Z:ei aq ar an ao aA c0 av c2 c3 c4 rs qs ws ad os) (mem val:Int) (yes no bq:Int) (aV:(sp != 0)= false) (n:cw) (ax:nZ ⟨rs,qs,ag,af,sp,ws,ad,os⟩ ⟨7,mem,val,yes,no,bq⟩ =some n) (aN:dt rs qs= true) (cG:os.length≤12) (w:World) (R:dI w aq ar an ao aA rs qs ws ad os):
 Calls Tryz.prog 232 #[.agg #[.slice aq rs c0,.slice ar qs av,ag,af,sp,.slice an ws c2,.slice ao ad c3,.slice aA os c4],.agg #[yes,no,bq]] w fun e ah=>∃bQ d0 cn d1 aZ d2 bk d3 bR d4,e= .returned (.tuple #[.agg #[.slice bQ n.cx d0,.slice cn n.cP d1,n.ek,n.dS,n.fk,.slice aZ n.ds d2,.slice bk n.du d3,.slice bR n.cl d4],true])∧fP w ah bQ d0 cn d1 aZ d2 bk d3 bR d4 n.cx n.cP n.ds n.du n.cl∧Below w w ah:=by
 obtain⟨ps,⟨qr,cb,dp⟩,bJ,ct,h12,rfl⟩:=IG ax
 dsimp only at bJ ct h12
 unfold qg at bJ
 split at bJ
 ·rename_i q bj
  split at bJ
  ·rename_i aH
   cases bJ
   simp only [Bool.and_eq_true,Bool.not_eq_true'] at aH
   have aT:=(List.getElem?_eq_some_iff.1 bj).1
   exact amY aq ar an ao aA c0 av c2 c3 c4 rs qs ag af sp ws ad os Z yes no bq aV (qs.length - 1) (by omega) qr cb dp bj aH.1 aH.2 ct (by omega) w R
  ·cases bJ
 ·cases bJ
open Go.RowKit Go.G9
theorem aaL {p:Prop} (h:p:=by
 have dM:=U.ib
 go_wp2
 clear aC ak
 refine hR 0 fun cD aE=>?_
 replace I:=aE.aH I;replace U:=aE.ia U;have ak:=U.aI
 refine bodyPost_ret (v:= .tuple #[.agg #[.slice none 0 0,.slice none 0 0,(0:Int),(0:Int),(0:Int),.slice none 0 0,.slice none 0 0,.slice none 0 0],false]) (by simp [results,Tryz.results178,go_sem,ak]) rfl ?_
 exact⟨rfl,I⟩):p:=h
theorem Hx (aq ar an ao aA:Option Addr) (c0 av c2 c3 c4:Nat) (rs:List aK) (qs:List aQ) (ag af sp:Int) (ws:List Int) (ad:List aO) (os:List Out) (Z:ei aq ar an ao aA c0 av c2 c3 c4 rs qs ws ad os) (kind mem val yes no bq:Int) (aV:(sp != 0)= true) (w:World) (R:dI w aq ar an ao aA rs qs ws ad os):
 Calls Tryz.prog 178 #[.agg #[.slice aq rs c0,.slice ar qs av,ag,af,sp,.slice an ws c2,.slice ao ad c3,.slice aA os c4],.agg #[kind,mem,val,yes,no,bq]] w (hq none w):=by
 clear R Z
 go_in
 go_upto_region 1 with fail
 refine fv fun aG au ai aX U=>?_
 have I:=au;have aC:=ai.aI;have ak:=U.aI
 exact aaL
theorem OO {p:Prop} (h:p:=by
 rintro e aJ ⟨nJ,nU,rfl,fu,aL⟩
 have al:=be aG aL;replace I:=aj I al;replace ai:=ai.to al;clear aC;have aC:=ai.aI;clear a';replace U:=U.to al;clear ak;have ak:=U.aI;have tR:=I.size
 go_wp2_with fail
 refine (XY aq ar an ao aA c0 av c2 c3 c4 rs qs ag af sp ws ad os bg.out nJ ps.length nU _ (bC.out.ae (aj I az))).mono ?_
 rintro e bB ⟨bQ,d0,bR,d4,rfl,cJ,cz,bx⟩
 have aP:=be aJ bx;replace I:=aj I aP;replace fu:=fu.bm aP;clear aC;replace U:=U.to aP;clear ak;have ak:=U.aI;have fM:=cJ.cu U;have ry:=fu.cu U;have fN:=cz.cu U;have dM:=U.ib
 go_wp2
 clear ak
 refine hR 0 fun cD aE=>?_
 replace I:=aE.aH I;replace U:=aE.ia U;replace fu:=fu.bY aE ry;replace cJ:=cJ.bY aE fM;replace cz:=cz.bY aE fN;have ak:=U.aI
 refine bodyPost_ret (v:= .tuple #[.agg #[.slice bQ rs d0,.slice nJ ps nU,ag,af,(0:Int),.slice none 0 0,.slice none 0 0,.slice bR os d4],true]) (by simp [results,Tryz.results178,go_sem,ak]) rfl ?_
 exact⟨bQ,d0,nJ,nU,none,0,none,0,bR,d4,rfl,⟨cJ.base (by omega),fu.base (by omega),bd.nil,bd.nil,cz.base (by omega)⟩,I⟩):p:=h
theorem ahm (aq ar an ao aA:Option Addr) (c0 av c2 c3 c4:Nat) (rs:List aK) (qs:List aQ) (ag af sp:Int) (ws:List Int) (ad:List aO) (os:List Out) (Z:ei aq ar an ao aA c0 av c2 c3 c4 rs qs ws ad os) (mem val yes no bq:Int) (ps:List aQ) (ax:jy rs qs val mem= some ps) (aV:(sp != 0)= false) (w:World) (R:dI w aq ar an ao aA rs qs ws ad os):
 Calls Tryz.prog 178 #[.agg #[.slice aq rs c0,.slice ar qs av,ag,af,sp,.slice an ws c2,.slice ao ad c3,.slice aA os c4],.agg #[(1:Int),mem,val,yes,no,bq]] w (hq (some ⟨rs,ps,ag,af,0,[],[],os⟩) w):=by
 have bC:=J R;have bg:=J Z;clear R Z;have bo:=J ax;clear ax
 go_in
 go_upto_region 1 with fail
 refine fv fun aG au ai aX U=>?_
 have I:=au;have aC:=ai.aI;have a':=aX.da;have ak:=U.aI;have fQ:=U.lt
 go_wp2_with fail
 refine (aif aq c0 rs bg.out.h0 bg.out.dZ ar av qs bg.out.h1 bg.out.n1 val mem ps bo.out _ (bC.out.fx.ae (aj I az)) (bC.out.dL.ae (aj I az))).mono ?_
 exact OO
theorem aax {p:Prop} (h:p:=by
 rintro e aJ ⟨nJ,nU,rfl,aL⟩
 have al:=be aG aL;replace I:=aj I al;clear aC;clear a';replace U:=U.to al;clear ak;have ak:=U.aI;have dM:=U.ib
 go_wp2
 clear ak
 refine hR 0 fun cD aE=>?_
 replace I:=aE.aH I;replace U:=aE.ia U;have ak:=U.aI
 refine bodyPost_ret (v:= .tuple #[.agg #[.slice none 0 0,.slice none 0 0,(0:Int),(0:Int),(0:Int),.slice none 0 0,.slice none 0 0,.slice none 0 0],false]) (by simp [results,Tryz.results178,go_sem,ak]) rfl ?_
 exact⟨rfl,I⟩):p:=h
theorem ahl (aq ar an ao aA:Option Addr) (c0 av c2 c3 c4:Nat) (rs:List aK) (qs:List aQ) (ag af sp:Int) (ws:List Int) (ad:List aO) (os:List Out) (Z:ei aq ar an ao aA c0 av c2 c3 c4 rs qs ws ad os) (mem val yes no bq:Int) (ax:jy rs qs val mem= none) (aV:(sp != 0)= false) (w:World) (R:dI w aq ar an ao aA rs qs ws ad os):
 Calls Tryz.prog 178 #[.agg #[.slice aq rs c0,.slice ar qs av,ag,af,sp,.slice an ws c2,.slice ao ad c3,.slice aA os c4],.agg #[(1:Int),mem,val,yes,no,bq]] w (hq none w):=by
 have bC:=J R;have bg:=J Z;clear R Z;have bo:=J ax;clear ax
 go_in
 go_upto_region 1 with fail
 refine fv fun aG au ai aX U=>?_
 have I:=au;have aC:=ai.aI;have a':=aX.da;have ak:=U.aI
 go_wp2_with fail
 refine (aie aq c0 rs bg.out.h0 bg.out.dZ ar av qs bg.out.h1 bg.out.n1 val mem bo.out _ (bC.out.fx.ae (aj I az)) (bC.out.dL.ae (aj I az))).mono ?_
 exact aax
theorem ahq (aq ar an ao aA:Option Addr) (c0 av c2 c3 c4:Nat) (rs:List aK) (qs:List aQ) (ag af sp:Int) (ws:List Int) (ad:List aO) (os:List Out) (Z:ei aq ar an ao aA c0 av c2 c3 c4 rs qs ws ad os) (mem val yes no bq:Int) (ps:List aQ) (ax:jX rs qs mem= some ps) (aV:(sp != 0)= false) (w:World) (R:dI w aq ar an ao aA rs qs ws ad os):
 Calls Tryz.prog 178 #[.agg #[.slice aq rs c0,.slice ar qs av,ag,af,sp,.slice an ws c2,.slice ao ad c3,.slice aA os c4],.agg #[(8:Int),mem,val,yes,no,bq]] w (hq (some ⟨rs,ps,ag,af,0,[],[],os⟩) w):=by
 have bC:=J R;have bg:=J Z;clear R Z;have bo:=J ax;clear ax
 go_in
 go_upto_region 1 with fail
 refine fv fun aG au ai aX U=>?_
 have I:=au;have aC:=ai.aI;have a':=aX.da;have ak:=U.aI;have fQ:=U.lt
 go_wp2_with fail
 refine (aiy aq c0 rs bg.out.h0 bg.out.dZ ar av qs bg.out.h1 bg.out.eI mem ps bo.out _ (bC.out.fx.ae (aj I az)) (bC.out.dL.ae (aj I az))).mono ?_
 exact OO
theorem ahp (aq ar an ao aA:Option Addr) (c0 av c2 c3 c4:Nat) (rs:List aK) (qs:List aQ) (ag af sp:Int) (ws:List Int) (ad:List aO) (os:List Out) (Z:ei aq ar an ao aA c0 av c2 c3 c4 rs qs ws ad os) (mem val yes no bq:Int) (ax:jX rs qs mem= none) (aV:(sp != 0)= false) (w:World) (R:dI w aq ar an ao aA rs qs ws ad os):
 Calls Tryz.prog 178 #[.agg #[.slice aq rs c0,.slice ar qs av,ag,af,sp,.slice an ws c2,.slice ao ad c3,.slice aA os c4],.agg #[(8:Int),mem,val,yes,no,bq]] w (hq none w):=by
 have bC:=J R;have bg:=J Z;clear R Z;have bo:=J ax;clear ax
 go_in
 go_upto_region 1 with fail
 refine fv fun aG au ai aX U=>?_
 have I:=au;have aC:=ai.aI;have a':=aX.da;have ak:=U.aI
 go_wp2_with fail
 refine (aix aq c0 rs bg.out.h0 bg.out.dZ ar av qs bg.out.h1 bg.out.eI mem bo.out _ (bC.out.fx.ae (aj I az)) (bC.out.dL.ae (aj I az))).mono ?_
 exact aax
theorem ahs (aq ar an ao aA:Option Addr) (c0 av c2 c3 c4:Nat) (rs:List aK) (qs:List aQ) (ag af sp:Int) (ws:List Int) (ad:List aO) (os:List Out) (Z:ei aq ar an ao aA c0 av c2 c3 c4 rs qs ws ad os) (mem val yes no bq:Int) (ps:List aQ) (ax:kL rs qs= some ps) (aV:(sp != 0)= false) (aT:ps.length < qs.length) (w:World) (R:dI w aq ar an ao aA rs qs ws ad os):
 Calls Tryz.prog 178 #[.agg #[.slice aq rs c0,.slice ar qs av,ag,af,sp,.slice an ws c2,.slice ao ad c3,.slice aA os c4],.agg #[(9:Int),mem,val,yes,no,bq]] w (hq (some ⟨rs,ps,ag,af,0,[],[],os⟩) w):=by
 have bC:=J R;have bg:=J Z;clear R Z;have bo:=J ax;clear ax
 go_in
 go_upto_region 1 with fail
 refine fv fun aG au ai aX U=>?_
 have I:=au;have aC:=ai.aI;have a':=aX.da;have ak:=U.aI;have fQ:=U.lt
 go_wp2_with fail
 refine (TR aq c0 rs bg.out.h0 bg.out.dZ ar av qs bg.out.h1 bg.out.n1 ps bo.out _ (bC.out.fx.ae (aj I az)) (bC.out.dL.ae (aj I az))).mono ?_
 exact OO
theorem ahr (aq ar an ao aA:Option Addr) (c0 av c2 c3 c4:Nat) (rs:List aK) (qs:List aQ) (ag af sp:Int) (ws:List Int) (ad:List aO) (os:List Out) (Z:ei aq ar an ao aA c0 av c2 c3 c4 rs qs ws ad os) (mem val yes no bq:Int) (ps:List aQ) (ax:kL rs qs= some ps) (aV:(sp != 0)= false) (aT:¬ps.length < qs.length) (w:World) (R:dI w aq ar an ao aA rs qs ws ad os):
 Calls Tryz.prog 178 #[.agg #[.slice aq rs c0,.slice ar qs av,ag,af,sp,.slice an ws c2,.slice ao ad c3,.slice aA os c4],.agg #[(9:Int),mem,val,yes,no,bq]] w (hq none w):=by
 have bC:=J R;have bg:=J Z;clear R Z;have bo:=J ax;clear ax
 go_in
 go_upto_region 1 with fail
 refine fv fun aG au ai aX U=>?_
 have I:=au;have aC:=ai.aI;have a':=aX.da;have ak:=U.aI
 go_wp2_with fail
 refine (TR aq c0 rs bg.out.h0 bg.out.dZ ar av qs bg.out.h1 bg.out.n1 ps bo.out _ (bC.out.fx.ae (aj I az)) (bC.out.dL.ae (aj I az))).mono ?_
 rintro e aJ ⟨nJ,nU,rfl,fu,aL⟩
 have al:=be aG aL;replace I:=aj I al;replace ai:=ai.to al;clear aC;have aC:=ai.aI;clear a';replace U:=U.to al;clear ak;have ak:=U.aI;clear fu
 exact aaL
theorem aho (aq ar an ao aA:Option Addr) (c0 av c2 c3 c4:Nat) (rs:List aK) (qs:List aQ) (ag af sp:Int) (ws:List Int) (ad:List aO) (os:List Out) (Z:ei aq ar an ao aA c0 av c2 c3 c4 rs qs ws ad os) (mem val yes no bq:Int) (aV:(sp != 0)= false) (n:cw) (ax:nZ ⟨rs,qs,ag,af,sp,ws,ad,os⟩ ⟨7,mem,val,yes,no,bq⟩ =some n) (aN:dt rs qs= true) (cG:os.length≤12) (w:World) (R:dI w aq ar an ao aA rs qs ws ad os):
 Calls Tryz.prog 178 #[.agg #[.slice aq rs c0,.slice ar qs av,ag,af,sp,.slice an ws c2,.slice ao ad c3,.slice aA os c4],.agg #[(7:Int),mem,val,yes,no,bq]] w (hq (some n) w):=by
 have bC:=J R;have bg:=J Z;clear R Z;have bo:=J ax;clear ax
 go_in
 go_upto_region 1 with fail
 refine fv fun aG au ai aX U=>?_
 have I:=au;have aC:=ai.aI;have a':=aX.da;have ak:=U.aI;have fQ:=U.lt
 go_wp2_with fail
 refine (aiw aq ar an ao aA c0 av c2 c3 c4 rs qs ag af sp ws ad os bg.out mem val yes no bq n bo.out aN cG _ (bC.out.ae (aj I az))).mono ?_
 rintro e aJ ⟨bQ,d0,cn,d1,aZ,d2,bk,d3,bR,d4,rfl,di,aL⟩
 have al:=be aG aL;replace I:=aj I al;clear aC;clear a';replace U:=U.to al;clear ak;have ak:=U.aI;have cJ:=di.kz;have cI:=di.iz;have bI:=di.fi;have bD:=di.fO;have cz:=di.lR;clear di;have fM:=cJ.cu U;have iY:=cI.cu U;have ez:=bI.cu U;have dG:=bD.cu U;have fN:=cz.cu U;have dM:=U.ib
 go_wp2
 clear ak
 refine hR 0 fun cD aE=>?_
 replace I:=aE.aH I;replace U:=aE.ia U;replace cJ:=cJ.bY aE fM;replace cI:=cI.bY aE iY;replace bI:=bI.bY aE ez;replace bD:=bD.bY aE dG;replace cz:=cz.bY aE fN;have ak:=U.aI
 refine bodyPost_ret (v:= .tuple #[.agg #[.slice bQ n.cx d0,.slice cn n.cP d1,n.ek,n.dS,n.fk,.slice aZ n.ds d2,.slice bk n.du d3,.slice bR n.cl d4],true]) (by simp [results,Tryz.results178,go_sem,ak]) rfl ?_
 exact⟨bQ,d0,cn,d1,aZ,d2,bk,d3,bR,d4,rfl,⟨cJ.base (by omega),cI.base (by omega),bI.base (by omega),bD.base (by omega),cz.base (by omega)⟩,I⟩
theorem ahn (aq ar an ao aA:Option Addr) (c0 av c2 c3 c4:Nat) (rs:List aK) (qs:List aQ) (ag af sp:Int) (ws:List Int) (ad:List aO) (os:List Out) (Z:ei aq ar an ao aA c0 av c2 c3 c4 rs qs ws ad os) (mem val yes no bq:Int) (aV:(sp != 0)= false) (ax:nZ ⟨rs,qs,ag,af,sp,ws,ad,os⟩ ⟨7,mem,val,yes,no,bq⟩ =none) (w:World) (R:dI w aq ar an ao aA rs qs ws ad os):
 Calls Tryz.prog 178 #[.agg #[.slice aq rs c0,.slice ar qs av,ag,af,sp,.slice an ws c2,.slice ao ad c3,.slice aA os c4],.agg #[(7:Int),mem,val,yes,no,bq]] w (hq none w):=by
 have bC:=J R;have bg:=J Z;clear R Z;have bo:=J ax;clear ax
 go_in
 go_upto_region 1 with fail
 refine fv fun aG au ai aX U=>?_
 have I:=au;have aC:=ai.aI;have a':=aX.da;have ak:=U.aI
 go_wp2_with fail
 refine (aiu aq ar an ao aA c0 av c2 c3 c4 rs qs ag af sp ws ad os bg.out mem val yes no bq bo.out _ (bC.out.ae (aj I az))).mono ?_
 rintro e aJ ⟨rfl,aL⟩
 have al:=be aG aL;replace I:=aj I al;clear aC;clear a';replace U:=U.to al;clear ak;have ak:=U.aI;have dM:=U.ib
 go_wp2
 clear ak
 refine hR 0 fun cD aE=>?_
 replace I:=aE.aH I;replace U:=aE.ia U;have ak:=U.aI
 refine bodyPost_ret (v:= .tuple #[.agg #[.slice none 0 0,.slice none 0 0,(0:Int),(0:Int),(0:Int),.slice none 0 0,.slice none 0 0,.slice none 0 0],false]) (by simp [results,Tryz.results178,go_sem,ak]) rfl ?_
 exact⟨rfl,I⟩
open Go.RowKit Go.G9
theorem xU {p:Prop} (h:p:=by
 clear H R Z
 cases o with
 | none=>
  go_in
  go_upto_region 1 with fail
  refine fv fun aG au ai aX U=>?_
  have I:=au;have aC:=ai.aI;have a':=aX.da;have ak:=U.aI
  go_wp2_with fail
  refine (lI.out _ (aj I az)).mono ?_
  rintro e aJ ⟨rfl,aL⟩
  have al:=be aG aL;replace I:=aj I al;clear aC;clear a';replace U:=U.to al;clear ak;have ak:=U.aI;have dM:=U.ib
  go_wp2
  clear ak
  refine hR 0 fun cD aE=>?_
  replace I:=aE.aH I;replace U:=aE.ia U;have ak:=U.aI
  refine bodyPost_ret (v:= .tuple #[.agg #[.slice none 0 0,.slice none 0 0,(0:Int),(0:Int),(0:Int),.slice none 0 0,.slice none 0 0,.slice none 0 0],false]) (by simp [results,Tryz.results103,go_sem,ak]) rfl ?_
  exact⟨rfl,I⟩
 | some n=>
  go_in
  go_upto_region 1 with fail
  refine fv fun aG au ai aX U=>?_
  have I:=au;have aC:=ai.aI;have a':=aX.da;have ak:=U.aI;have fQ:=U.lt
  go_wp2_with fail
  refine (lI.out _ (aj I az)).mono ?_
  rintro e aJ ⟨bQ,d0,cn,d1,aZ,d2,bk,d3,bR,d4,rfl,di,aL⟩
  have al:=be aG aL;replace I:=aj I al;clear aC;clear a';replace U:=U.to al;clear ak;have ak:=U.aI;have cJ:=di.kz;have cI:=di.iz;have bI:=di.fi;have bD:=di.fO;have cz:=di.lR;clear di;have fM:=cJ.cu U;have iY:=cI.cu U;have ez:=bI.cu U;have dG:=bD.cu U;have fN:=cz.cu U;have dM:=U.ib
  go_wp2
  clear ak
  refine hR 0 fun cD aE=>?_
  replace I:=aE.aH I;replace U:=aE.ia U;replace cJ:=cJ.bY aE fM;replace cI:=cI.bY aE iY;replace bI:=bI.bY aE ez;replace bD:=bD.bY aE dG;replace cz:=cz.bY aE fN;have ak:=U.aI
  refine bodyPost_ret (v:= .tuple #[.agg #[.slice bQ n.cx d0,.slice cn n.cP d1,n.ek,n.dS,n.fk,.slice aZ n.ds d2,.slice bk n.du d3,.slice bR n.cl d4],true]) (by simp [results,Tryz.results103,go_sem,ak]) rfl ?_
  exact⟨bQ,d0,cn,d1,aZ,d2,bk,d3,bR,d4,rfl,⟨cJ.base (by omega),cI.base (by omega),bI.base (by omega),bD.base (by omega),cz.base (by omega)⟩,I⟩):p:=h
theorem ahS (aq ar an ao aA:Option Addr) (c0 av c2 c3 c4:Nat) (rs:List aK) (qs:List aQ) (ag af sp:Int) (ws:List Int) (ad:List aO) (os:List Out) (Z:ei aq ar an ao aA c0 av c2 c3 c4 rs qs ws ad os) (mem val yes no bq:Int) (o:Option cw) (w:World) (R:dI w aq ar an ao aA rs qs ws ad os) (H:∀W,Below w w W→Calls Tryz.prog 178 #[.agg #[.slice aq rs c0,.slice ar qs av,ag,af,sp,.slice an ws c2,.slice ao ad c3,.slice aA os c4],.agg #[(1:Int),mem,val,yes,no,bq]] W (hq o W)):
 Calls Tryz.prog 103 #[.agg #[.slice aq rs c0,.slice ar qs av,ag,af,sp,.slice an ws c2,.slice ao ad c3,.slice aA os c4],.agg #[(1:Int),mem,val,yes,no,bq]] w (hq o w):=by
 have lI:=J H
 exact xU
theorem ahZ (aq ar an ao aA:Option Addr) (c0 av c2 c3 c4:Nat) (rs:List aK) (qs:List aQ) (ag af sp:Int) (ws:List Int) (ad:List aO) (os:List Out) (Z:ei aq ar an ao aA c0 av c2 c3 c4 rs qs ws ad os) (mem val yes no bq:Int) (o:Option cw) (w:World) (R:dI w aq ar an ao aA rs qs ws ad os) (H:∀W,Below w w W→Calls Tryz.prog 178 #[.agg #[.slice aq rs c0,.slice ar qs av,ag,af,sp,.slice an ws c2,.slice ao ad c3,.slice aA os c4],.agg #[(7:Int),mem,val,yes,no,bq]] W (hq o W)):
 Calls Tryz.prog 103 #[.agg #[.slice aq rs c0,.slice ar qs av,ag,af,sp,.slice an ws c2,.slice ao ad c3,.slice aA os c4],.agg #[(7:Int),mem,val,yes,no,bq]] w (hq o w):=by
 have lI:=J H
 exact xU
theorem aia (aq ar an ao aA:Option Addr) (c0 av c2 c3 c4:Nat) (rs:List aK) (qs:List aQ) (ag af sp:Int) (ws:List Int) (ad:List aO) (os:List Out) (Z:ei aq ar an ao aA c0 av c2 c3 c4 rs qs ws ad os) (mem val yes no bq:Int) (o:Option cw) (w:World) (R:dI w aq ar an ao aA rs qs ws ad os) (H:∀W,Below w w W→Calls Tryz.prog 178 #[.agg #[.slice aq rs c0,.slice ar qs av,ag,af,sp,.slice an ws c2,.slice ao ad c3,.slice aA os c4],.agg #[(8:Int),mem,val,yes,no,bq]] W (hq o W)):
 Calls Tryz.prog 103 #[.agg #[.slice aq rs c0,.slice ar qs av,ag,af,sp,.slice an ws c2,.slice ao ad c3,.slice aA os c4],.agg #[(8:Int),mem,val,yes,no,bq]] w (hq o w):=by
 have lI:=J H
 exact xU
theorem aib (aq ar an ao aA:Option Addr) (c0 av c2 c3 c4:Nat) (rs:List aK) (qs:List aQ) (ag af sp:Int) (ws:List Int) (ad:List aO) (os:List Out) (Z:ei aq ar an ao aA c0 av c2 c3 c4 rs qs ws ad os) (mem val yes no bq:Int) (o:Option cw) (w:World) (R:dI w aq ar an ao aA rs qs ws ad os) (H:∀W,Below w w W→Calls Tryz.prog 178 #[.agg #[.slice aq rs c0,.slice ar qs av,ag,af,sp,.slice an ws c2,.slice ao ad c3,.slice aA os c4],.agg #[(9:Int),mem,val,yes,no,bq]] W (hq o W)):
 Calls Tryz.prog 103 #[.agg #[.slice aq rs c0,.slice ar qs av,ag,af,sp,.slice an ws c2,.slice ao ad c3,.slice aA os c4],.agg #[(9:Int),mem,val,yes,no,bq]] w (hq o w):=by
 have lI:=J H
 exact xU
theorem ahV (aq ar an ao aA:Option Addr) (c0 av c2 c3 c4:Nat) (rs:List aK) (qs:List aQ) (ag af sp:Int) (ws:List Int) (ad:List aO) (os:List Out) (Z:ei aq ar an ao aA c0 av c2 c3 c4 rs qs ws ad os) (mem val yes no bq:Int) (o:Option cw) (w:World) (R:dI w aq ar an ao aA rs qs ws ad os) (H:∀W,Below w w W→Calls Tryz.prog 179 #[.agg #[.slice aq rs c0,.slice ar qs av,ag,af,sp,.slice an ws c2,.slice ao ad c3,.slice aA os c4],.agg #[(3:Int),mem,val,yes,no,bq]] W (hq o W)):
 Calls Tryz.prog 103 #[.agg #[.slice aq rs c0,.slice ar qs av,ag,af,sp,.slice an ws c2,.slice ao ad c3,.slice aA os c4],.agg #[(3:Int),mem,val,yes,no,bq]] w (hq o w):=by
 have lI:=J H
 exact xU
theorem ahW (aq ar an ao aA:Option Addr) (c0 av c2 c3 c4:Nat) (rs:List aK) (qs:List aQ) (ag af sp:Int) (ws:List Int) (ad:List aO) (os:List Out) (Z:ei aq ar an ao aA c0 av c2 c3 c4 rs qs ws ad os) (mem val yes no bq:Int) (o:Option cw) (w:World) (R:dI w aq ar an ao aA rs qs ws ad os) (H:∀W,Below w w W→Calls Tryz.prog 179 #[.agg #[.slice aq rs c0,.slice ar qs av,ag,af,sp,.slice an ws c2,.slice ao ad c3,.slice aA os c4],.agg #[(4:Int),mem,val,yes,no,bq]] W (hq o W)):
 Calls Tryz.prog 103 #[.agg #[.slice aq rs c0,.slice ar qs av,ag,af,sp,.slice an ws c2,.slice ao ad c3,.slice aA os c4],.agg #[(4:Int),mem,val,yes,no,bq]] w (hq o w):=by
 have lI:=J H
 exact xU
theorem ahX (aq ar an ao aA:Option Addr) (c0 av c2 c3 c4:Nat) (rs:List aK) (qs:List aQ) (ag af sp:Int) (ws:List Int) (ad:List aO) (os:List Out) (Z:ei aq ar an ao aA c0 av c2 c3 c4 rs qs ws ad os) (mem val yes no bq:Int) (o:Option cw) (w:World) (R:dI w aq ar an ao aA rs qs ws ad os) (H:∀W,Below w w W→Calls Tryz.prog 179 #[.agg #[.slice aq rs c0,.slice ar qs av,ag,af,sp,.slice an ws c2,.slice ao ad c3,.slice aA os c4],.agg #[(5:Int),mem,val,yes,no,bq]] W (hq o W)):
 Calls Tryz.prog 103 #[.agg #[.slice aq rs c0,.slice ar qs av,ag,af,sp,.slice an ws c2,.slice ao ad c3,.slice aA os c4],.agg #[(5:Int),mem,val,yes,no,bq]] w (hq o w):=by
 have lI:=J H
 exact xU
theorem ahY (aq ar an ao aA:Option Addr) (c0 av c2 c3 c4:Nat) (rs:List aK) (qs:List aQ) (ag af sp:Int) (ws:List Int) (ad:List aO) (os:List Out) (Z:ei aq ar an ao aA c0 av c2 c3 c4 rs qs ws ad os) (mem val yes no bq:Int) (o:Option cw) (w:World) (R:dI w aq ar an ao aA rs qs ws ad os) (H:∀W,Below w w W→Calls Tryz.prog 179 #[.agg #[.slice aq rs c0,.slice ar qs av,ag,af,sp,.slice an ws c2,.slice ao ad c3,.slice aA os c4],.agg #[(6:Int),mem,val,yes,no,bq]] W (hq o W)):
 Calls Tryz.prog 103 #[.agg #[.slice aq rs c0,.slice ar qs av,ag,af,sp,.slice an ws c2,.slice ao ad c3,.slice aA os c4],.agg #[(6:Int),mem,val,yes,no,bq]] w (hq o w):=by
 have lI:=J H
 exact xU
theorem YN {p:Prop} (h:p:=by
 exact⟨cy,e0,nJ,nU,cU,e2,cV,e3,cA,e4,rfl,⟨cJ.base (by omega),fu.base (by omega),bI.base (by omega),bD.base (by omega),cz.base (by omega)⟩,I⟩):p:=h
theorem ahU (aq ar an ao aA:Option Addr) (c0 av c2 c3 c4:Nat) (rs:List aK) (qs:List aQ) (ag af sp:Int) (ws:List Int) (ad:List aO) (os:List Out) (Z:ei aq ar an ao aA c0 av c2 c3 c4 rs qs ws ad os) (mem val yes no bq:Int) (ps:List aQ) (ax:jJ rs qs mem= some ps) (w:World) (R:dI w aq ar an ao aA rs qs ws ad os):
 Calls Tryz.prog 103 #[.agg #[.slice aq rs c0,.slice ar qs av,ag,af,sp,.slice an ws c2,.slice ao ad c3,.slice aA os c4],.agg #[(2:Int),mem,val,yes,no,bq]] w (hq (some ⟨rs,ps,ag,af,sp,ws,ad,os⟩) w):=by
 have bC:=J R;have bg:=J Z;clear R Z;have bo:=J ax;clear ax
 go_in
 go_upto_region 1 with fail
 refine fv fun aG au ai aX U=>?_
 have I:=au;have aC:=ai.aI;have a':=aX.da;have ak:=U.aI;have fQ:=U.lt
 go_wp2_with fail
 refine (aiq aq c0 rs bg.out.h0 bg.out.dZ ar av qs bg.out.h1 bg.out.n1 mem ps bo.out _ (bC.out.fx.ae (aj I az)) (bC.out.dL.ae (aj I az))).mono ?_
 rintro e aJ ⟨nJ,nU,rfl,fu,aL⟩
 have al:=be aG aL;replace I:=aj I al;replace ai:=ai.to al;clear aC;have aC:=ai.aI;clear a';replace U:=U.to al;clear ak;have ak:=U.aI;have anB:=al.size;have tR:=I.size
 go_wp2_with fail
 refine (HY aq ar an ao aA c0 av c2 c3 c4 rs qs ag af sp ws ad os bg.out _ (bC.out.ae (aj I az))).mono ?_
 rintro e bB ⟨cy,e0,cv,e1,cU,e2,cV,e3,cA,e4,rfl,di,bx⟩
 have aP:=be aJ bx;replace I:=aj I aP;replace fu:=fu.bm aP;clear aC;replace U:=U.to aP;clear ak;have ak:=U.aI;have XB:=aP.size;have IC:=I.size
 go_upto_region 17 with fail
 have kH:=di.bm (bT bB (.cells #[.slice cy rs e0,.slice cv qs e1,ag,af,sp,.slice cU ws e2,.slice cV ad e3,.slice cA os e4] 44));clear di;have bN:Below bB bB (World.alloc bB (.cells #[.slice cy rs e0,.slice cv qs e1,ag,af,sp,.slice cU ws e2,.slice cV ad e3,.slice cA os e4] 44)):=bT bB _
 have aR:=aB.new bB 44 #[.slice cy rs e0,.slice cv qs e1,ag,af,sp,.slice cU ws e2,.slice cV ad e3,.slice cA os e4]
 replace fu:=fu.bm bN
 generalize World.alloc bB (.cells #[.slice cy rs e0,.slice cv qs e1,ag,af,sp,.slice cU ws e2,.slice cV ad e3,.slice cA os e4] 44)= sB at *
 replace I:=aj I bN;have bF:=aR.aI;clear ak;replace U:=U.to bN;have ak:=U.aI;have cJ:=kH.kz;have bI:=kH.fi;have bD:=kH.fO;have cz:=kH.lR;clear kH;have yE:=aR.frozen 1;have fM:=cJ.cu aR;have ry:=fu.cu aR;have ez:=bI.cu aR;have dG:=bD.cu aR;have fN:=cz.cu aR
 go_upto_region 18 with fail
 clear ak bF
 refine mF 1 fun lx eJ=>?_
 replace I:=eJ.aH I;replace U:=eJ.dV U;replace aR:=eJ.Ik aR;replace fu:=fu.bY eJ ry;replace cJ:=cJ.bY eJ fM;replace bI:=bI.bY eJ ez;replace bD:=bD.bY eJ dG;replace cz:=cz.bY eJ fN
 have ak:=U.aI;have bF:=aR.aI;clear fM ry ez dG fN yE;have fM:=cJ.cu U;have ry:=fu.cu U;have ez:=bI.cu U;have dG:=bD.cu U;have fN:=cz.cu U;have dM:=U.ib
 go_wp2
 clear ak bF
 refine hR 0 fun cD aE=>?_
 replace I:=aE.aH I;replace U:=aE.ia U;replace fu:=fu.bY aE ry;replace cJ:=cJ.bY aE fM;replace bI:=bI.bY aE ez;replace bD:=bD.bY aE dG;replace cz:=cz.bY aE fN;have ak:=U.aI
 refine bodyPost_ret (v:= .tuple #[.agg #[.slice cy rs e0,.slice nJ ps nU,ag,af,sp,.slice cU ws e2,.slice cV ad e3,.slice cA os e4],true]) (by simp [results,Tryz.results103,go_sem,ak]) rfl ?_
 exact YN
theorem aaV {p:Prop} (h:p:=by
 refine hR 0 fun cD aE=>?_
 replace I:=aE.aH I;replace U:=aE.ia U;have ak:=U.aI
 refine bodyPost_ret (v:= .tuple #[.agg #[.slice none 0 0,.slice none 0 0,(0:Int),(0:Int),(0:Int),.slice none 0 0,.slice none 0 0,.slice none 0 0],false]) (by simp [results,Tryz.results103,go_sem,ak]) rfl ?_
 exact⟨rfl,I⟩):p:=h
theorem ahT (aq ar an ao aA:Option Addr) (c0 av c2 c3 c4:Nat) (rs:List aK) (qs:List aQ) (ag af sp:Int) (ws:List Int) (ad:List aO) (os:List Out) (Z:ei aq ar an ao aA c0 av c2 c3 c4 rs qs ws ad os) (mem val yes no bq:Int) (ax:jJ rs qs mem= none) (w:World) (R:dI w aq ar an ao aA rs qs ws ad os):
 Calls Tryz.prog 103 #[.agg #[.slice aq rs c0,.slice ar qs av,ag,af,sp,.slice an ws c2,.slice ao ad c3,.slice aA os c4],.agg #[(2:Int),mem,val,yes,no,bq]] w (hq none w):=by
 have bC:=J R;have bg:=J Z;clear R Z;have bo:=J ax;clear ax
 go_in
 go_upto_region 1 with fail
 refine fv fun aG au ai aX U=>?_
 have I:=au;have aC:=ai.aI;have a':=aX.da;have ak:=U.aI
 go_wp2_with fail
 refine (aip aq c0 rs bg.out.h0 bg.out.dZ ar av qs bg.out.h1 bg.out.n1 mem bo.out _ (bC.out.fx.ae (aj I az)) (bC.out.dL.ae (aj I az))).mono ?_
 rintro e aJ ⟨nJ,nU,rfl,aL⟩
 have al:=be aG aL;replace I:=aj I al;clear aC;clear a';replace U:=U.to al;clear ak;have ak:=U.aI;have dM:=U.ib
 go_wp2
 clear ak
 exact aaV
theorem aid (aq ar an ao aA:Option Addr) (c0 av c2 c3 c4:Nat) (rs:List aK) (qs:List aQ) (ag af sp:Int) (ws:List Int) (ad:List aO) (os:List Out) (Z:ei aq ar an ao aA c0 av c2 c3 c4 rs qs ws ad os) (kind mem val yes no bq:Int) (g1:(kind == 1)= false) (g2:(kind == 2)= false) (g3:(kind == 3)= false) (g4:(kind == 4)= false) (g5:(kind == 5)= false) (g6:(kind == 6)= false) (g7:(kind == 7)= false) (g8:(kind == 8)= false) (g9:(kind == 9)= false) (w:World) (R:dI w aq ar an ao aA rs qs ws ad os):
 Calls Tryz.prog 103 #[.agg #[.slice aq rs c0,.slice ar qs av,ag,af,sp,.slice an ws c2,.slice ao ad c3,.slice aA os c4],.agg #[kind,mem,val,yes,no,bq]] w (hq none w):=by
 clear R Z
 go_in
 go_upto_region 1 with fail
 refine fv fun aG au ai aX U=>?_
 have I:=au;have a':=aX.da;have ak:=U.aI;have dM:=U.ib
 go_wp2
 clear a' ak
 exact aaV
end Go.Proofs.YtlaaemmmbodaaaaGreatDoor
