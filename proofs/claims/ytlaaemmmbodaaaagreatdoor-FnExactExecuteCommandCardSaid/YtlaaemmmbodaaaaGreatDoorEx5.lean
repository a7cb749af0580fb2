/- Parts. -/
import Derived.Test.YtlaaemmmbodaaaaGreatDoorEx4
set_option maxHeartbeats 16000000
set_option maxRecDepth 100000
set_option linter.unnecessarySimpa false
set_option linter.unusedSimpArgs false
set_option linter.unusedVariables false
namespace Go.Proofs.YtlaaemmmbodaaaaGreatDoor
open Go.RowKit Go.G9
theorem QL {p:Prop} (h:p:=by
 clear al;have al:=ad.aP;have ep:=ad.jn
 go_wp2
 clear al
 refine gR 0 fun cS aC=>?_
 replace I:=aC.aE I;replace ad:=aC.iP ad;have al:=ad.aP
 exact hg ⟨rfl,I⟩ (by simp [results,Tryz.results258,go_sem,al])):p:=h
theorem aaF {p:Prop} (h:p:=by
 have ep:=ad.jn
 go_wp2
 clear aD al
 refine gR 0 fun cS aC=>?_
 replace I:=aC.aE I;replace ad:=aC.iP ad;have al:=ad.aP
 exact hg ⟨rfl,I⟩ (by simp [results,Tryz.results258,go_sem,al])):p:=h
theorem akv (af ae sp:Int) (aj:Option Addr) (c2:Nat) (ws:List Int) (ak:Option Addr) (c3:Nat) (U:List aI) (h2:ws.length≤1048576) (h3:U.length≤1048576) (n2:aj= none→ws= []∧c2= 0) (n3:ak= none→U= []∧c3= 0) (cp:ws.length≤c2) (m:Int) (aw:ob ⟨af,ae,sp,ws,U⟩ m= false) (w:World) (bj:aH 1 bR w aj ws) (bh:aH 3 aI.cells w ak U):
 Calls Tryz.prog 258 #[.agg #[af,ae,sp,.slice aj ws c2,.slice ak U c3],m] w fun e ag=>e= .returned (.tuple #[.agg #[(0:Int),(0:Int),(0:Int),.slice none 0 0,.slice none 0 0],false])∧Below w w ag:=by
 have dX:=J bj;have cO:=J bh;clear bj bh n2 n3
 cases gE:gp af ae sp ws U
 case false=>
  have bC:=J gE;clear gE;clear aw
  go_in
  go_upto_region 1 with fail
  refine fm fun aF au ai ad=>?_
  have I:=au;have aD:=ai.aP;have al:=ad.aP
  go_wp2_with fail
  refine (mP af ae sp aj ws c2 ak c3 U h2 h3 cp _ bC.out _ (dX.out.below (ah I av)) (cO.out.below (ah I av))).mono ?_
  rintro e aM ⟨rfl,aN⟩
  have ao:=be aF aN;replace I:=ah I ao;clear aD;replace ad:=ad.to ao
  exact QL
 case true=>
  cases gK:eG m
  case false=>
   have bC:=J gE;clear gE;have dR:=J gK;clear gK;clear aw
   go_in
   go_upto_region 1 with fail
   refine fm fun aF au ai ad=>?_
   have I:=au;have aD:=ai.aP;have al:=ad.aP
   go_wp2_with fail
   refine (mP af ae sp aj ws c2 ak c3 U h2 h3 cp _ bC.out _ (dX.out.below (ah I av)) (cO.out.below (ah I av))).mono ?_
   rintro e aM ⟨rfl,aN⟩
   have ao:=be aF aN;replace I:=ah I ao;clear aD;replace ad:=ad.to ao;clear al;have al:=ad.aP
   go_wp2_with fail
   refine (iT m _ dR.out _).mono ?_
   rintro e w0 ⟨rfl,h0⟩
   rw [h0]
   clear h0 w0;have ep:=ad.jn
   go_wp2
   clear al
   refine gR 0 fun cS aC=>?_
   replace I:=aC.aE I;replace ad:=aC.iP ad;have al:=ad.aP
   exact hg ⟨rfl,I⟩ (by simp [results,Tryz.results258,go_sem,al])
  case true=>
   cases jD:(m == sp)
   case true=>
    have bC:=J gE;clear gE;have dR:=J gK;clear gK;clear aw
    go_in
    go_upto_region 1 with fail
    refine fm fun aF au ai ad=>?_
    have I:=au;have aD:=ai.aP;have al:=ad.aP
    go_wp2_with fail
    refine (mP af ae sp aj ws c2 ak c3 U h2 h3 cp _ bC.out _ (dX.out.below (ah I av)) (cO.out.below (ah I av))).mono ?_
    rintro e aM ⟨rfl,aN⟩
    have ao:=be aF aN;replace I:=ah I ao;replace ai:=ai.to ao;clear aD;have aD:=ai.aP;replace ad:=ad.to ao;clear al;have al:=ad.aP
    go_wp2_with fail
    refine (iT m _ dR.out _).mono ?_
    rintro e w0 ⟨rfl,h0⟩
    rw [h0]
    clear h0 w0
    exact aaF
   case false=>
    cases qU:hasB ws m
    case true=>
     have bC:=J gE;clear gE;have dR:=J gK;clear gK;have jH:=J qU;clear qU;clear aw
     go_in
     go_upto_region 1 with fail
     refine fm fun aF au ai ad=>?_
     have I:=au;have aD:=ai.aP;have al:=ad.aP
     go_wp2_with fail
     refine (mP af ae sp aj ws c2 ak c3 U h2 h3 cp _ bC.out _ (dX.out.below (ah I av)) (cO.out.below (ah I av))).mono ?_
     rintro e aM ⟨rfl,aN⟩
     have ao:=be aF aN;replace I:=ah I ao;replace ai:=ai.to ao;clear aD;have aD:=ai.aP;replace ad:=ad.to ao;clear al;have al:=ad.aP
     go_wp2_with fail
     refine (iT m _ dR.out _).mono ?_
     rintro e w0 ⟨rfl,h0⟩
     rw [h0]
     clear h0 w0
     go_wp2_with fail
     refine (Am aj c2 ws m h2 _ jH.out _ (dX.out.below (ah I av))).mono ?_
     rintro e bB ⟨rfl,bG⟩
     have aK:=be aM bG;replace I:=ah I aK;clear aD;replace ad:=ad.to aK
     exact QL
    case false=>
     cases ni:oN af ae (ev U m)
     case false=>
      have bC:=J gE;clear gE;have dR:=J gK;clear gK;have jH:=J qU;clear qU;have cX:=J ni;clear ni;clear aw
      go_in
      go_upto_region 1 with fail
      refine fm fun aF au ai ad=>?_
      have I:=au;have aD:=ai.aP;have al:=ad.aP
      go_wp2_with fail
      refine (mP af ae sp aj ws c2 ak c3 U h2 h3 cp _ bC.out _ (dX.out.below (ah I av)) (cO.out.below (ah I av))).mono ?_
      rintro e aM ⟨rfl,aN⟩
      have ao:=be aF aN;replace I:=ah I ao;replace ai:=ai.to ao;clear aD;have aD:=ai.aP;replace ad:=ad.to ao;clear al;have al:=ad.aP
      go_wp2_with fail
      refine (iT m _ dR.out _).mono ?_
      rintro e w0 ⟨rfl,h0⟩
      rw [h0]
      clear h0 w0
      go_wp2_with fail
      refine (Am aj c2 ws m h2 _ jH.out _ (dX.out.below (ah I av))).mono ?_
      rintro e bB ⟨rfl,bG⟩
      have aK:=be aM bG;replace I:=ah I aK;replace ai:=ai.to aK;clear aD;have aD:=ai.aP;replace ad:=ad.to aK;clear al;have al:=ad.aP
      go_wp2_with fail
      refine (AS af ae sp aj ws.length c2 ak c3 U h3 m _ cX.out _ (cO.out.below (ah I av))).mono ?_
      rintro e ca ⟨rfl,cU⟩
      have bS:=be bB cU;replace I:=ah I bS;clear aD;replace ad:=ad.to bS
      exact QL
     case true=>
      have sA:decide (ws.length= 10)= true:=by simpa [ob,ey.ok,gE,gK,jD,qU,ni] using aw
      have bC:=J gE;clear gE;have dR:=J gK;clear gK;have jH:=J qU;clear qU;have cX:=J ni;clear ni
      have cE:((ws.length:Int) == 10)= true:=by have:=of_decide_eq_true sA;rw [this];rfl
      clear sA;clear aw
      go_in
      go_upto_region 1 with fail
      refine fm fun aF au ai ad=>?_
      have I:=au;have aD:=ai.aP;have al:=ad.aP
      go_wp2_with fail
      refine (mP af ae sp aj ws c2 ak c3 U h2 h3 cp _ bC.out _ (dX.out.below (ah I av)) (cO.out.below (ah I av))).mono ?_
      rintro e aM ⟨rfl,aN⟩
      have ao:=be aF aN;replace I:=ah I ao;replace ai:=ai.to ao;clear aD;have aD:=ai.aP;replace ad:=ad.to ao;clear al;have al:=ad.aP
      go_wp2_with fail
      refine (iT m _ dR.out _).mono ?_
      rintro e w0 ⟨rfl,h0⟩
      rw [h0]
      clear h0 w0
      go_wp2_with fail
      refine (Am aj c2 ws m h2 _ jH.out _ (dX.out.below (ah I av))).mono ?_
      rintro e bB ⟨rfl,bG⟩
      have aK:=be aM bG;replace I:=ah I aK;replace ai:=ai.to aK;clear aD;have aD:=ai.aP;replace ad:=ad.to aK;clear al;have al:=ad.aP
      go_wp2_with fail
      refine (AS af ae sp aj ws.length c2 ak c3 U h3 m _ cX.out _ (cO.out.below (ah I av))).mono ?_
      rintro e ca ⟨rfl,cU⟩
      have bS:=be bB cU;replace I:=ah I bS;replace ai:=ai.to bS;clear aD;have aD:=ai.aP;replace ad:=ad.to bS;clear al;have al:=ad.aP
      exact aaF
theorem akw (af ae sp:Int) (aj:Option Addr) (c2:Nat) (ws:List Int) (ak:Option Addr) (c3:Nat) (U:List aI) (h2:ws.length≤1048576) (h3:U.length≤1048576) (n2:aj= none→ws= []∧c2= 0) (n3:ak= none→U= []∧c3= 0) (cp:ws.length≤c2) (m:Int) (aw:ob ⟨af,ae,sp,ws,U⟩ m= true) (w:World) (bj:aH 1 bR w aj ws) (bh:aH 3 aI.cells w ak U):
 Calls Tryz.prog 258 #[.agg #[af,ae,sp,.slice aj ws c2,.slice ak U c3],m] w fun e ag=>∃bg d2 bn d3,e= .returned (.tuple #[.agg #[af,ae,sp,.slice bg (ws ++ [m]).length d2,.slice bn U d3],true])∧jR w.heap.size ag bg d2 bn d3 (ws ++ [m]) U∧Below w w ag:=by
 obtain⟨i0,hi,dy,dC,dN⟩:=info_parts rN
 have dX:=J bj;have cO:=J bh;have je:=J n2;have iV:=J n3;clear bj bh n2 n3
 obtain⟨gE,gK,aX,qU,ni,sA⟩ :gp af ae sp ws U= true∧eG m= true∧(m == sp)= false∧hasB ws m= false∧oN af ae (ev U m)= true∧ws.length≠10:=by
  simpa [ob,ey.ok] using aw
 have cE:((ws.length:Int) == 10)= false:=beq_eq_false_iff_ne.2 (by omega);have ph:ws.length≤10:=(ln.1 (show (⟨af,ae,sp,ws,U⟩ :ey).ok= true from gE)).l;have bC:=J gE;have dR:=J gK;have jH:=J qU;have cX:=J ni;clear gE gK qU ni sA aw
 go_in
 go_upto_region 1 with fail
 refine fm fun aF au ai ad=>?_
 have I:=au;have aD:=ai.aP;have al:=ad.aP;have gy:=ad.lt
 go_wp2_with fail
 refine (mP af ae sp aj ws c2 ak c3 U h2 h3 cp _ bC.out _ (dX.out.below (ah I av)) (cO.out.below (ah I av))).mono ?_
 rintro e aM ⟨rfl,aN⟩
 have ao:=be aF aN;replace I:=ah I ao;replace ai:=ai.to ao;clear aD;have aD:=ai.aP;replace ad:=ad.to ao;clear al;have al:=ad.aP
 go_wp2_with fail
 refine (iT m _ dR.out _).mono ?_
 rintro e w0 ⟨rfl,h0⟩
 rw [h0]
 clear h0 w0
 go_wp2_with fail
 refine (Am aj c2 ws m h2 _ jH.out _ (dX.out.below (ah I av))).mono ?_
 rintro e bB ⟨rfl,bG⟩
 have aK:=be aM bG;replace I:=ah I aK;replace ai:=ai.to aK;clear aD;have aD:=ai.aP;replace ad:=ad.to aK;clear al;have al:=ad.aP
 go_wp2_with fail
 refine (AS af ae sp aj ws.length c2 ak c3 U h3 m _ cX.out _ (cO.out.below (ah I av))).mono ?_
 rintro e ca ⟨rfl,cU⟩
 have bS:=be bB cU;replace I:=ah I bS;replace ai:=ai.to bS;clear aD;have aD:=ai.aP;replace ad:=ad.to bS;clear al;have al:=ad.aP
 go_wp2_with fail
 refine (Hk af ae sp aj c2 ws ak c3 U h2 h3 je.out iV.out _ (dX.out.below (ah I av)) (cO.out.below (ah I av))).mono ?_
 rintro e dc ⟨bg,d2,g3,d3,rfl,ds,ei⟩
 have cx:=be ca ei;replace I:=ah I cx;clear aD;replace ad:=ad.to cx;clear al;have al:=ad.aP;have vt:=I.size;have KG:=ao.size;have Qq:=aK.size;have Qr:=bS.size;have ZR:=cx.size
 go_upto_region 4 with fail
 have fj:=ds.later (bZ dc (.cells #[af,ae,sp,.slice bg ws d2,.slice g3 U d3] 41));have eD:Below dc dc (World.alloc dc (.cells #[af,ae,sp,.slice bg ws d2,.slice g3 U d3] 41)):=bZ dc _
 have aQ:aq (World.alloc dc (.cells #[af,ae,sp,.slice bg ws d2,.slice g3 U d3] 41)) (dc.heap.size) 41 #[af,ae,sp,.slice bg ws d2,.slice g3 U d3]:=by repeat (first | exact aq.new _ _ _ | exact aq.fu _ _ _ _ | exact aq.fx _ _ _ _ _ | exact aq.gb _ _ _ _ _ _ | refine aq.alloc ?_ _)
 generalize World.alloc dc (.cells #[af,ae,sp,.slice bg ws d2,.slice g3 U d3] 41)= oC at *
 replace I:=ah I eD
 obtain⟨dd,dV,dT,en,et⟩:=aQ.aP
 clear al;replace ad:=ad.to eD;have al:=ad.aP;have lK:=aQ.lt;have bA:=fj.fk;have bq:=fj.fJ;have jC:=bA.apart bq (by decide);have oP:=bA.lt;have qV:=bA.cA aQ
 have sC:∀k,(Value.slice bg ws d2).ownBlock= some k→k≠w.heap.size + 1:=fun k az e=>by have:=(oP k az).1;have:=KG;omega
 have hx:=J bA;have ka:=J bq;have cb:=J aQ;have bf:=J ad;have oI:=J jC;have zY:=J qV;have zZ:=J sC;have zX:=J oP;have rA:=J I
 have Gf:ca.heap.size≤oC.heap.size:=by omega
 clear ds fj bA bq jC qV sC oP;have QD:=en;clear dd dV dT en et al
 go_upto_region 5 with ((at_builtin;refine lA rfl _ _ 38 rfl ca.heap.size 3 i0 _ 1 8 Tryz.underlying38 hi dy dC dN rfl (by decide) bR fZ pj _ ws rfl (hx.out.alloc _) ⟨oC.heap.size,0,none⟩ 1 m rfl (aH.one (f:=bR) m _) (by unfold maxLen;omega) (by omega) (by simp;omega) ?_;intro v9 mY kX lq Av;have er:=((cb.out.alloc (.cells #[m] 3)).kG lq (fun e=>zY.out _ e.symm rfl));clear Av;obtain⟨Y,gT,rfl,q1,gr,ns⟩:=kX.form fZ;clear q1 gr ns;replace kX:aV ca 3 1 bR mY (.slice Y (ws.length + 1) gT) (ws ++ [m]):=(by rw [List.length_append] at kX;exact kX);have Je:=er.frozen 3;have ML:=(er.cell 3).trans (show _= some (Value.slice bg ws d2) from rfl)))
 have ez:Below w w mY:=(rA.out.alloc (by omega) (.cells #[m] 3)).grown lq (by simp;omega) (fun q aZ=>by have:=(zX.out q aZ).1;omega);have bQ:=(bf.out.alloc (.cells #[m] 3)).kG lq (fun e=>zZ.out _ e.symm rfl);have bq:=(ka.out.alloc (.cells #[m] 3)).kept lq (fun k az e=>oI.out k e.symm az.symm);have bA:=kX;have qV:=bA.cA er
 have Nc:=bq.xW er (by decide);clear aQ ad ai lq kX Je ML QD;replace I:=ez;clear ez;have al:=bQ.aP
 obtain⟨dd,dV,dT,en,et⟩:=er.aP
 have ej:∀k,(Value.slice Y (ws.length + 1) gT).ownBlock= some k→¬k= dc.heap.size:=qV
 have dK:∀k,(Value.slice g3 U d3).ownBlock= some k→¬k= dc.heap.size:=fun k az e=>Nc (by have h:g3= k:=Option.some.inj az;omega)
 clear al dd dV dT en et
 refine kN 3 fun IF jY=>?_
 replace I:=jY.aE I;replace bQ:=jY.dM bQ;replace er:=jY.DD er;replace bA:=bA.bW jY ej;replace bq:=bq.bW jY dK;have al:=bQ.aP
 obtain⟨dd,dV,dT,en,et⟩:=er.aP
 clear ej dK
 have ej:∀k,(Value.slice Y (ws.length + 1) gT).ownBlock= some k→¬k= w.heap.size + 1:=fun k az e=>by have:=(bA.lt k az).1;omega
 have dK:∀k,(Value.slice g3 U d3).ownBlock= some k→¬k= w.heap.size + 1:=fun k az e=>by have h:=(bq.lt k az).1;omega
 have CB:=bQ.frozen 0;have CC:=bQ.frozen 1;have CD:=bQ.frozen 2;have CE:=bQ.frozen 3;have CF:=bQ.frozen 4
 go_wp2
 clear al dd dV dT en et
 refine gR 0 fun IG kO=>?_
 replace I:=kO.aE I;replace bQ:=kO.iP bQ;replace er:=kO.dM er;replace bA:=bA.bW kO ej;replace bq:=bq.bW kO dK;have al:=bQ.aP
 refine bodyPost_ret (v:= .tuple #[.agg #[af,ae,sp,.slice Y (ws.length + 1) gT,.slice g3 U d3],true]) (by simp [results,Tryz.results258,go_sem,al]) rfl ?_
 have AD:(ws ++ [m]).length= ws.length + 1:=by simp
 rw [AD]
 exact⟨Y,gT,some ⟨g3,0,none⟩,d3,rfl,⟨by rw [AD];exact bA.base (by omega),bq.base (by omega),by rw [AD];exact bA.apart bq (by decide)⟩,I⟩
theorem ada {p:Prop} (h:p:=by
 rintro e aM ⟨rfl,aN⟩
 have ao:=be aF aN;replace I:=ah I ao;replace ai:=ai.to ao;clear aD;have aD:=ai.aP;replace ad:=ad.to ao;clear al;have al:=ad.aP;have ep:=ad.jn
 go_wp2
 clear aD al
 refine gR 0 fun cS aC=>?_
 replace I:=aC.aE I;replace ad:=aC.iP ad;have al:=ad.aP
 exact hg ⟨rfl,I⟩ (by simp [results,Tryz.results259,go_sem,al])):p:=h
theorem abV {p:Prop} (h:p:=by
 have:=aw
 simp only [mT,ey.ok,hf,aX,Bool.true_and,decide_eq_false_iff_not] at this
 omega):p:=h
theorem alr (af ae sp:Int) (aj:Option Addr) (c2:Nat) (ws:List Int) (ak:Option Addr) (c3:Nat) (U:List aI) (h2:ws.length≤1048576) (h3:U.length≤1048576) (n2:aj= none→ws= []∧c2= 0) (n3:ak= none→U= []∧c3= 0) (cp:ws.length≤c2) (aw:mT ⟨af,ae,sp,ws,U⟩ =false) (w:World) (bj:aH 1 bR w aj ws) (bh:aH 3 aI.cells w ak U):
 Calls Tryz.prog 259 #[.agg #[af,ae,sp,.slice aj ws c2,.slice ak U c3]] w fun e ag=>e= .returned (.tuple #[.agg #[(0:Int),(0:Int),(0:Int),.slice none 0 0,.slice none 0 0],(0:Int),false])∧Below w w ag:=by
 have dX:=J bj;have cO:=J bh;have je:=J n2;clear bj bh n2 n3
 cases hf:gp af ae sp ws U
 ·have bC:=J hf
  clear hf aw
  go_in
  go_upto_region 1 with fail
  refine fm fun aF au ai ad=>?_
  have I:=au;have aD:=ai.aP;have al:=ad.aP
  go_wp2_with fail
  refine (mP af ae sp aj ws c2 ak c3 U h2 h3 cp _ bC.out _ (dX.out.below (ah I av)) (cO.out.below (ah I av))).mono ?_
  rintro e aM ⟨rfl,aN⟩
  have ao:=be aF aN;replace I:=ah I ao;clear aD;replace ad:=ad.to ao;clear al;have al:=ad.aP;have ep:=ad.jn
  go_wp2
  clear al
  refine gR 0 fun cS aC=>?_
  replace I:=aC.aE I;replace ad:=aC.iP ad;have al:=ad.aP
  exact hg ⟨rfl,I⟩ (by simp [results,Tryz.results259,go_sem,al])
 ·cases aX:(sp == 0)
  case false=>
   have GI:(sp != 0)= true:=by rw [bne,aX];rfl
   have bC:=J hf;clear hf aw aX
   go_in
   go_upto_region 1 with fail
   refine fm fun aF au ai ad=>?_
   have I:=au;have aD:=ai.aP;have al:=ad.aP
   go_wp2_with fail
   refine (mP af ae sp aj ws c2 ak c3 U h2 h3 cp _ bC.out _ (dX.out.below (ah I av)) (cO.out.below (ah I av))).mono ?_
   exact ada
  case true=>
   have rK:ws.length= 0:=by
    exact abV
   have GI:(sp != 0)= false:=by rw [bne,aX];rfl
   obtain rfl:=List.length_eq_zero_iff.1 rK
   have bC:=J hf;clear hf aw aX rK
   go_in
   go_upto_region 1 with fail
   refine fm fun aF au ai ad=>?_
   have I:=au;have aD:=ai.aP;have al:=ad.aP
   go_wp2_with fail
   refine (mP af ae sp aj [] c2 ak c3 U h2 h3 cp _ bC.out _ (dX.out.below (ah I av)) (cO.out.below (ah I av))).mono ?_
   exact ada
theorem als (af ae sp:Int) (aj:Option Addr) (c2:Nat) (ws:List Int) (ak:Option Addr) (c3:Nat) (U:List aI) (h2:ws.length≤1048576) (h3:U.length≤1048576) (n2:aj= none→ws= []∧c2= 0) (n3:ak= none→U= []∧c3= 0) (cp:ws.length≤c2) (aw:mT ⟨af,ae,sp,ws,U⟩ =true) (m:Int) (hm:sM ⟨af,ae,sp,ws,U⟩ =some m) (w:World) (bj:aH 1 bR w aj ws) (bh:aH 3 aI.cells w ak U):
 Calls Tryz.prog 259 #[.agg #[af,ae,sp,.slice aj ws c2,.slice ak U c3]] w fun e ag=>∃bg d2 bn d3,e= .returned (.tuple #[.agg #[af,ae,m,.slice bg (ws.filter fun x=>!(x == m)).length d2,.slice bn U d3],m,true])∧jR w.heap.size ag bg d2 bn d3 (ws.filter fun x=>!(x == m)) U∧Below w w ag:=by
 have dX:=J bj;have cO:=J bh;have je:=J n2;have iV:=J n3;clear bj bh n2 n3
 obtain⟨gE,aX,rK⟩ :gp af ae sp ws U= true∧(sp == 0)= true∧0 < ws.length:=by
  simpa [mT,ey.ok] using aw
 have GI:(sp != 0)= false:=by rw [bne,aX];rfl
 have cE:((ws.length:Int) == 0)= false:=beq_eq_false_iff_ne.2 (by omega);have ph:ws.length≤10:=(ln.1 (show (⟨af,ae,sp,ws,U⟩ :ey).ok= true from gE)).l;have VA:(kM ⟨af,ae,sp,ws,U⟩)[0]? =some m:=(aqu rK).trans hm;have zn:(kM ⟨af,ae,sp,ws,U⟩).length= ws.length:=DO _;have bC:=J gE;have aej:=J VA;have yD:=J zn;clear gE VA zn aw hm aX
 go_in
 go_upto_region 1 with fail
 refine fm fun aF au ai ad=>?_
 have I:=au;have aD:=ai.aP;have al:=ad.aP;have gy:=ad.lt
 go_wp2_with fail
 refine (mP af ae sp aj ws c2 ak c3 U h2 h3 cp _ bC.out _ (dX.out.below (ah I av)) (cO.out.below (ah I av))).mono ?_
 rintro e aM ⟨rfl,aN⟩
 have ao:=be aF aN;replace I:=ah I ao;replace ai:=ai.to ao;clear aD;have aD:=ai.aP;replace ad:=ad.to ao;clear al;have al:=ad.aP
 go_wp2_with fail
 refine (Hk af ae sp aj c2 ws ak c3 U h2 h3 je.out iV.out _ (dX.out.below (ah I av)) (cO.out.below (ah I av))).mono ?_
 rintro e bB ⟨bg,d2,g3,d3,rfl,ds,bG⟩
 have aK:=be aM bG;replace I:=ah I aK;replace ai:=ai.to aK;clear aD;have aD:=ai.aP;replace ad:=ad.to aK;clear al;have al:=ad.aP;have KG:=ao.size;have KH:=aK.size;have atB:=(ds.fJ.lt g3 rfl)
 go_upto_region 4 with fail
 have bq:=ds.fJ.later (bZ bB (.cells #[af,ae,sp,.slice bg ws d2,.slice g3 U d3] 41));clear ds;have bS:Below bB bB (World.alloc bB (.cells #[af,ae,sp,.slice bg ws d2,.slice g3 U d3] 41)):=bZ bB _
 have aQ:aq (World.alloc bB (.cells #[af,ae,sp,.slice bg ws d2,.slice g3 U d3] 41)) (bB.heap.size) 41 #[af,ae,sp,.slice bg ws d2,.slice g3 U d3]:=by repeat (first | exact aq.new _ _ _ | exact aq.fu _ _ _ _ | exact aq.fx _ _ _ _ _ | exact aq.gb _ _ _ _ _ _ | refine aq.alloc ?_ _)
 generalize World.alloc bB (.cells #[af,ae,sp,.slice bg ws d2,.slice g3 U d3] 41)= oC at *
 replace I:=ah I bS;have bF:=aQ.aP;clear aD;replace ai:=ai.to bS;have aD:=ai.aP;clear al;replace ad:=ad.to bS;have al:=ad.aP
 go_wp2_with fail
 refine (ZE af ae sp aj c2 ws ak c3 U h2 h3 je.out iV.out cp (by omega) _ (dX.out.below (ah I av)) (cO.out.below (ah I av))).mono ?_
 rintro e dc ⟨g5,c5,rfl,iw,ei⟩
 have cx:=be oC ei;replace I:=ah I cx;replace bq:=bq.later cx;replace ai:=ai.to cx;clear aD;have aD:=ai.aP;replace ad:=ad.to cx;clear al;have al:=ad.aP;replace aQ:=aQ.to cx;clear bF;have bF:=aQ.aP;have asB:=(Hq (show aV _ _ _ _ _ (.slice g5 _ c5) (kM ⟨af,ae,sp,ws,U⟩) from iw) aej.out).1
 rw [yD.out]
 clear iw;have qO:=aQ.frozen 2
 go_upto_region 5 with fail
 have dK:∀k,(Value.slice g3 U d3).ownBlock= some k→¬k= bB.heap.size:=fun k az e=>by have h:=(bq.lt k az);have h9:g3= k:=Option.some.inj az;omega
 clear aD al bF
 refine kN 2 fun nx eS=>?_
 replace I:=eS.aE I;replace ai:=eS.dM ai;replace ad:=eS.dM ad;replace aQ:=eS.Kp aQ;replace bq:=bq.bW eS dK;have aD:=ai.aP;have al:=ad.aP;have bF:=aQ.aP;clear dK qO;have ara:=aQ.lt
 go_wp2_with fail
 refine (arI aj c2 ws h2 je.out m _ (dX.out.below (ah I av))).mono ?_
 rintro e gZ ⟨g7,vW,rfl,ng,pe⟩
 have eD:=be nx pe;replace I:=ah I eD;replace bq:=bq.later eD;clear aD;replace ad:=ad.to eD;clear al;have al:=ad.aP;replace aQ:=aQ.to eD;clear bF;have bF:=aQ.aP;have sv:=aQ.frozen 3;have atl:=(ng.lt g7 rfl).1
 go_upto_region 6 with fail
 have dK:∀k,(Value.slice g3 U d3).ownBlock= some k→¬k= bB.heap.size:=fun k az e=>by have h:=(bq.lt k az);have h9:g3= k:=Option.some.inj az;omega
 have xV:∀k,(Value.slice g7 (ws.filter fun x=>!(x == m)).length vW).ownBlock= some k→¬k= bB.heap.size:=fun k az e=>by have h9:g7= k:=Option.some.inj az;omega
 clear al bF
 refine kN 3 fun mo eN=>?_
 replace I:=eN.aE I;replace ad:=eN.dM ad;replace aQ:=eN.DD aQ;replace bq:=bq.bW eN dK;replace ng:=ng.bW eN xV;have al:=ad.aP;have bF:=aQ.aP;clear dK xV sv
 haveI:Nonempty (cN (fun V=>aq V bB.heap.size 41 #[af,ae,m,.slice g7 (ws.filter fun x=>!(x == m)).length vW,.slice g3 U d3])):=⟨⟨mo,aQ⟩⟩
 haveI:Nonempty (cN (fun _=>True)):=⟨⟨mo,trivial⟩⟩
 clear bF;have bF:=aq.kE (fun K:cN (fun V=>aq V bB.heap.size 41 #[af,ae,m,.slice g7 (ws.filter fun x=>!(x == m)).length vW,.slice g3 U d3])=>K.holds)
 refine KR (fun V=>aq V bB.heap.size 41 #[af,ae,m,.slice g7 (ws.filter fun x=>!(x == m)).length vW,.slice g3 U d3]) [([0,1,2],[],3,false)] [] [4,5] (by kernel_rfl) (by kernel_rfl) aQ ?_
 refine qx fun K gj=>?_
 change wpQuiet _ _ _ _ (_ ::_ ::_ ::[]) _
 repeat (go_big_quiet_step (fail))
 refine wpQuiet_nil ?_
 refine wpQuiet_nil ?_
 change wpList _ _ _ (_ ::[]) _ _
 have fS:=(Below.refl mo.heap.size mo).drew;replace I:Below w w mo.drew:=I.drew;have bQ:=ad.to fS;have er:=aQ.to fS;replace bq:=bq.later fS;replace ng:=ng.later fS;clear ad aQ ai bF al fS
 generalize mo.drew= Mk at *
 have al:=bQ.aP;have CB:=bQ.frozen 0;have CC:=bQ.frozen 1;have CD:=bQ.frozen 2;have CE:=bQ.frozen 3;have CF:=bQ.frozen 4
 have dK:∀k,(Value.slice g3 U d3).ownBlock= some k→¬k= w.heap.size + 1:=fun k az e=>by have h9:g3= k:=Option.some.inj az;omega
 have xV:∀k,(Value.slice g7 (ws.filter fun x=>!(x == m)).length vW).ownBlock= some k→¬k= w.heap.size + 1:=fun k az e=>by have h9:g7= k:=Option.some.inj az;omega
 go_wp2
 clear al
 refine gR 0 fun SE pv=>?_
 replace I:=pv.aE I;replace bQ:=pv.iP bQ;replace er:=pv.dM er;replace bq:=bq.bW pv dK;replace ng:=ng.bW pv xV;have al:=bQ.aP
 refine Ai er (gj _ _ ?_)
 refine BB ?_
 refine wpQuiet_nil ?_
 change wpQuiet _ _ _ _ (_ ::_ ::[]) _
 repeat (go_big_quiet_step (fail))
 refine wpQuiet_nil ?_
 go_wp2
 refine bodyPost_ret (v:= .tuple #[.agg #[af,ae,m,.slice g7 (ws.filter fun x=>!(x == m)).length vW,.slice g3 U d3],m,true]) (by simp [results,Tryz.results259,go_sem,al]) rfl ?_
 exact⟨some ⟨g7,0,none⟩,vW,some ⟨g3,0,none⟩,d3,rfl,⟨ng.base (by omega),bq.base (by omega),ng.apart bq (by decide)⟩,I⟩
open Go.RowKit Go.G9
theorem Xo {rs:List aJ} {qs:List aL} (h:mb rs qs= true):dD rs qs= true∧jN rs qs= true:=by simpa [mb] using h
theorem He {rs:List aJ} {qs:List aL} (h:jN rs qs= true):∃j q,qs.length= j + 1∧qs[j]? =some q:=by
 unfold jN at h
 cases aZ:qs[qs.length - 1]? with
 | none=>rw [aZ] at h;cases h
 | some q=>
  have:=(List.getElem?_eq_some_iff.1 aZ).1
  exact⟨qs.length - 1,q,by omega,aZ⟩
theorem Zq {qs:List aL} {j:Nat} {q:aL} (bH:qs.length= j + 1) (aZ:qs[j]? =some q):DK qs= qs.set j ⟨q.fW,q.mover,true⟩:=by
 have e:qs.length - 1= j:=by omega
 unfold DK
 rw [e,aZ]
 dsimp only
 conv=>rhs;rw [amB bH aZ]
 rw [List.set_append_right _ _ (by simp;omega)]
 congr 1
 simp
 rw [show j - min j qs.length= 0 by omega];rfl
theorem JV {qs:List aL} {j:Nat} {q:aL} {mem:Int} (bH:qs.length= j + 1) (aZ:qs[j]? =some q):Hf qs mem= (q.mover == mem):=by
 unfold Hf;rw [show qs.length - 1= j by omega,aZ]
theorem Kw {rs:List aJ} {qs:List aL} {mem:Int} (h:mb rs qs= false):jX rs qs mem= none:=by
 unfold jX;rw [← Bool.and_assoc,show (dD rs qs && jN rs qs)= false from h];rfl
theorem Zn {rs:List aJ} {qs:List aL} {mem:Int} (h:eG mem= false):jX rs qs mem= none:=by simp [jX,h]
theorem Zo {rs:List aJ} {qs:List aL} {mem:Int} (h:Hf qs mem= true):jX rs qs mem= none:=by simp [jX,h]
theorem Zp {rs:List aJ} {qs:List aL} {mem:Int} (h:mb rs qs= true) (h2:eG mem= true) (h3:Hf qs mem= false):jX rs qs mem= some (DK qs):=by
 obtain⟨h4,h5⟩:=Xo h
 simp [jX,h4,h5,h2,h3]
theorem WC (an:Option Addr) (c0:Nat) (rs:List aJ) (h0:rs.length≤1048576) (ga:rs.length≤c0) (ar:Option Addr) (c1:Nat) (qs:List aL) (h1:qs.length≤1048576) (aR:ar= none→qs= []∧c1= 0) (mem:Int) (w:World) (aU:aH 7 aJ.cells w an rs) (aT:aH 3 aL.cells w ar qs):Calls Tryz.prog 180 #[.slice an rs c0,.slice ar qs c1,mem] w fun e ag=>∃A c,e= .returned (.tuple #[.slice A (jb (jX rs qs mem)).length c,.bool (jX rs qs mem).isSome])∧aV w 115 3 aL.cells ag (.slice A (jb (jX rs qs mem)).length c) (jb (jX rs qs mem))∧Below w w ag:=by
 obtain⟨i0,hi,dy,dC,dN⟩:=info_parts sH
 have uf:=J aR;clear aR
 cases az:mb rs qs
 ·have fV:=J az
  rw [Kw az]
  clear az
  go_in
  go_wp2_with fail
  refine (AZ an c0 rs h0 ga ar c1 qs h1 _ fV.out _ (aU.below av) (aT.below av)).mono ?_
  rintro e bd ⟨rfl,bz⟩
  have au:=be w bz;have I:Below w w bd:=au
  go_wp2
  go_ret2
  exact⟨none,0,rfl,aV.nil,(ah I av)⟩
 cases hm:eG mem
 ·have fV:=J az;have dR:=J hm
  rw [Zn hm]
  clear az hm
  go_in
  go_wp2_with fail
  refine (AZ an c0 rs h0 ga ar c1 qs h1 _ fV.out _ (aU.below av) (aT.below av)).mono ?_
  exact adC
 obtain⟨j,⟨qr,cg,dw⟩,bH,aZ⟩:=He (Xo az).2
 obtain⟨gJ,gL,_,rfl,_,_,_⟩:=aT.at_ (Below.refl _ _) (k:=j) (by omega)
 have eH:=J bH;have cV:=J aZ
 have ie:j≤1048576:=by omega
 have cX:=J (fun W (h:aH 7 aJ.cells W an rs) (du:aH 3 aL.cells W (some ⟨gJ,gL,none⟩) qs)=>AZ an c0 rs h0 ga (some ⟨gJ,gL,none⟩) c1 qs h1 _ az W h du)
 cases aX:cg == mem
 case true=>
  have dR:=J hm
  rw [Zo ((JV bH aZ).trans aX)]
  rw [bH] at cX ⊢
  clear az hm bH aZ h1
  go_in
  go_wp2_with fail
  refine (cX.out _ (aU.below av) (aT.below av)).mono ?_
  rintro e bd ⟨rfl,bz⟩
  have au:=be w bz;have I:Below w w bd:=au;replace aT:=aT.below au
  go_wp2_with fail
  refine (iT mem _ dR.out _).mono ?_
  rintro e w0 ⟨rfl,h0⟩
  rw [h0]
  clear h0 w0
  obtain⟨_,_,y,e9,fS,hy,db⟩:=aT.at_ (Below.refl _ _) (k:=j) (by have:=eH.out;omega)
  cases e9
  obtain rfl:(⟨qr,cg,dw⟩ :aL)= y:=Option.some.inj (cV.out.symm.trans hy)
  clear hy;have cu:=db 0 _ rfl;have dI:=db 1 _ rfl;have dj:=db 2 _ rfl
  simp only [Nat.add_zero] at cu
  have g0:=cu (ax.self _);have g1:=dI (ax.self _);have g2:=dj (ax.self _)
  simp only [ax.self] at g0
  simp only [ax.self] at g1
  simp only [ax.self] at g2
  clear db cu dI dj
  go_wp2
  go_ret2
  exact⟨none,0,rfl,aV.nil,(ah I av)⟩
 case false=>
  have dR:=J hm
  rw [Zp az hm ((JV bH aZ).trans aX),Zq bH aZ]
  have xE:(qs.set j ⟨qr,cg,true⟩).length= j + 1:=by rw [List.length_set,bH]
  have En:=J xE
  rw [bH] at cX ⊢
  clear az hm bH aZ h1 xE
  go_in
  go_wp2_with fail
  refine (cX.out _ (aU.below av) (aT.below av)).mono ?_
  rintro e bd ⟨rfl,bz⟩
  have au:=be w bz;have I:Below w w bd:=au;replace aT:=aT.below au
  go_wp2_with fail
  refine (iT mem _ dR.out _).mono ?_
  rintro e w0 ⟨rfl,h0⟩
  rw [h0]
  clear h0 w0
  obtain⟨_,_,y,e9,fS,hy,db⟩:=aT.at_ (Below.refl _ _) (k:=j) (by have:=eH.out;omega)
  cases e9
  obtain rfl:(⟨qr,cg,dw⟩ :aL)= y:=Option.some.inj (cV.out.symm.trans hy)
  clear hy;have cu:=db 0 _ rfl;have dI:=db 1 _ rfl;have dj:=db 2 _ rfl
  simp only [Nat.add_zero] at cu
  have g0:=cu (ax.self _);have g1:=dI (ax.self _);have g2:=dj (ax.self _)
  simp only [ax.self] at g0
  simp only [ax.self] at g1
  simp only [ax.self] at g2
  clear db cu dI dj;have gm:=J (fun e u=>(aT.below (bZ bd (.cells #[] e))):∀(e:TypeId) (u:Unit),aH 3 aL.cells (bd.alloc (.cells #[] e)) (some ⟨gJ,gL,none⟩) qs);have tP:=I.size
  go_wp2_with ((at_builtin;refine vx rfl _ _ 37 rfl bd.heap.size 115 i0 _ 3 24 Tryz.underlying37 hi dy dC dN rfl (by decide) aL.cells jP tL bd.heap.size rfl (aq.new _ _ _) (Nat.le_refl _) (some ⟨gJ,gL,none⟩) c1 qs (j + 1) eH.out.symm rfl (gm.out _ ()) (fun h=>by cases h) (by have:=eH.out;unfold maxLen;omega) (by have:=eH.out;omega) ?_;intro bo cM nt fB eW;have oo:Below bd bd nt:=ah (bZ _ _) eW;have Qo:=oo.size;have atA:=(fB.lt bo rfl).2;have ajg:=Bg fB jP (j:=j) (i:=2) (by have:=eH.out;omega) (by decide);have atx:=rV fB jP cV.out (i:=2) (u:= .bool dw) rfl))
  have ail:=Bh fB jP (y:=⟨qr,cg,true⟩) (u:= .bool true) (i:=2) cV.out (by decide) rfl;have rE:Below bd bd (nt.setCell ⟨bo,j * 3 + 2,none⟩ (.bool true)):=oo.setCell (by have:=(fB.lt bo rfl).1;exact this) _
  go_wp2
  go_ret2
  refine⟨some ⟨bo,0,none⟩,cM,by simp only [jb,Option.getD_some,En.out];rfl,?_,ah I rE⟩
  have xw:=ail.base (by omega:w.heap.size≤_);have e9:=En.out
  simp only [jb,Option.getD_some]
  rw [e9]
  first | exact xw | (have e8:=eH.out;rw [e8] at xw;exact xw)
theorem TJ {rs:List aJ} {qs:List aL} (h:dD rs qs= false):lI rs qs= none:=by simp [lI,h]
theorem ME {rs:List aJ} {qs:List aL} (h:dD rs qs= true) (h2:jN rs qs= false):lI rs qs= some qs:=by simp [lI,vX,h,h2]
theorem TI {rs:List aJ} {qs:List aL} (h:dD rs qs= true) (h2:jN rs qs= true):lI rs qs= some (qs.take (qs.length - 1)):=by simp [lI,vX,h,h2]
theorem aci {p:Prop} (h:p:=by
 obtain⟨hc,cM,gC,aE,_,_⟩:=h.form hf
 injection gC with _ _ e3
 subst e3;exact aE):p:=h
theorem anG {T:Type} {sz:Nat} {f:T→List Value} {B:Nat} {e:TypeId} {w:World} {A:Option Addr} {n c:Nat} {xs:List T} (h:aV B e sz f w (.slice A n c) xs) (hf:∀y,(f y).length= sz):xs.length≤c:=by
 exact aci
theorem Ud {T V:Type} {sz:Nat} {f:T→List V} (hf:∀y,(f y).length= sz):∀(xs:List T) (k:Nat),(xs.take k).flatMap f= (xs.flatMap f).take (k * sz)
 | [],k=>by simp
 | x ::xs,0=>by simp
 | x ::xs,k + 1=>by
  have eM:=Ud hf xs k
  have az:(k + 1) * sz= sz + k * sz:=by rw [Nat.succ_mul];omega
  simp only [List.take_succ_cons,List.flatMap_cons]
  rw [eM,az,List.take_append,hf,List.take_of_length_le (l:=f x) (by rw [hf];omega)]
  congr 2
  omega
theorem anJ {T:Type} {B:Nat} {e:TypeId} {sz:Nat} {f:T→List Value} {w:World} {g n c:Nat} {xs:List T} (h:aV B e sz f w (.slice g n c) xs) (hf:∀y,(f y).length= sz) {k:Nat} (az:k≤xs.length):aV B e sz f w (.slice g k c) (xs.take k):=by
 obtain⟨aS,h⟩:=h
 have hlen:(xs.take k).length= k:=by rw [List.length_take];omega
 have CW:(xs.take k).flatMap f= (xs.flatMap f).take (k * sz):=Ud hf xs k
 unfold aV
 rw [hlen,CW]
 refine⟨by rw [List.length_take,aS];have:=Nat.mul_le_mul_right sz az;omega,?_⟩
 rcases h with ⟨e0,_⟩ | ⟨bo,cap,cur,e0,bm,dQ,nj,kq,iy,xI⟩
 ·cases e0
 ·injection e0 with e1 e2 e3
  cases e1;subst e3
  refine .inr ⟨_,c,cur,rfl,bm,dQ,by omega,kq,iy,?_⟩
  rw [← xI,List.take_take]
  congr 1
  have:=Nat.mul_le_mul_right sz az
  omega
theorem akG (an:Option Addr) (c0:Nat) (rs:List aJ) (h0:rs.length≤1048576) (ga:rs.length≤c0) (ar:Option Addr) (c1:Nat) (qs:List aL) (h1:qs.length≤1048576) (aR:ar= none→qs= []∧c1= 0) (w:World) (aU:aH 7 aJ.cells w an rs) (aT:aH 3 aL.cells w ar qs):Calls Tryz.prog 256 #[.slice an rs c0,.slice ar qs c1] w fun e ag=>∃A c,e= .returned (.tuple #[.slice A (jb (lI rs qs)).length c,.bool (lI rs qs).isSome])∧aV w 115 3 aL.cells ag (.slice A (jb (lI rs qs)).length c) (jb (lI rs qs))∧Below w w ag:=by
 obtain⟨i0,hi,dy,dC,dN⟩:=info_parts sH
 have uf:=J aR;clear aR
 cases aO:dD rs qs
 ·have eg:=J aO
  rw [TJ aO]
  exact adv
 cases aS:jN rs qs
 ·have eg:=J aO
  have fV:Hid (mb rs qs= false):=J (by simp [mb,aS])
  rw [ME aO aS]
  clear aO aS
  go_in
  go_wp2_with fail
  refine (nA an c0 rs h0 ga ar c1 qs h1 _ eg.out _ (aU.below av) (aT.below av)).mono ?_
  rintro e bd ⟨rfl,bz⟩
  have au:=be w bz;have I:Below w w bd:=au;replace aU:=aU.below au;replace aT:=aT.below au;have aR:=uf.out;have gm:=J (fun e u=>(aT.below (bZ bd (.cells #[] e))):∀(e:TypeId) (u:Unit),aH 3 aL.cells (bd.alloc (.cells #[] e)) ar qs);have tP:=I.size;have Ev:=J (fun W bI=>⟨aU.below bI,aT.below bI⟩ :∀W,Below bd bd W→aH 7 aJ.cells W an rs∧aH 3 aL.cells W ar qs)
  go_wp2_with ((first
   | (at_builtin;refine zH rfl _ _ 37 rfl bd.heap.size 115 i0 _ 3 24 Tryz.underlying37 hi dy dC dN rfl (by decide) aL.cells jP tL bd.heap.size rfl (aq.new _ _ _) (Nat.le_refl _) ar c1 qs rfl (gm.out _ ()) aR (by unfold maxLen;omega) (by omega) ?_;intro bo cM nt fB eW;have oo:Below bd bd nt:=ah (bZ _ _) eW;have Qo:=oo.size;clear aR)))
  refine (AZ an c0 rs h0 ga ar c1 qs h1 _ fV.out _ (Ev.out _ oo).1 (Ev.out _ oo).2).mono ?_
  rintro e aad ⟨rfl,Ge⟩
  go_wp2
  go_ret2
  exact⟨some ⟨bo,0,none⟩,cM,rfl,(fB.later Ge).base (by omega),ah I (ah oo Ge)⟩
 ·have fV:Hid (mb rs qs= true):=J (by simp [mb,aO,aS])
  obtain⟨j,q,bH,aZ⟩:=He aS
  rw [TI aO aS]
  have eH:=J bH
  have ie:j≤1048576:=by omega
  have cX:=J (fun W h du=>nA an c0 rs h0 ga ar c1 qs h1 _ aO W h du);have cB:=J (fun W h du=>AZ an c0 rs h0 ga ar c1 qs h1 _ fV.out W h du)
  have bl:(qs.take (qs.length - 1)).length= j:=by rw [List.length_take];omega
  have nb:=J bl
  have e1:qs.length - 1= j:=by omega
  rw [e1] at nb ⊢
  rw [bH] at cX cB ⊢
  clear aO aS bH aZ bl e1 h1
  go_in
  go_wp2_with fail
  refine (cX.out _ (aU.below av) (aT.below av)).mono ?_
  rintro e bd ⟨rfl,bz⟩
  have au:=be w bz;have I:Below w w bd:=au;replace aU:=aU.below au;replace aT:=aT.below au;have aR:=uf.out;have gm:=J (fun e u=>(aT.below (bZ bd (.cells #[] e))):∀(e:TypeId) (u:Unit),aH 3 aL.cells (bd.alloc (.cells #[] e)) ar qs);have tP:=I.size;have Ev:=J (fun W bI=>⟨aU.below bI,aT.below bI⟩ :∀W,Below bd bd W→aH 7 aJ.cells W an rs∧aH 3 aL.cells W ar qs)
  go_wp2_with ((first
   | (at_builtin;refine vx rfl _ _ 37 rfl bd.heap.size 115 i0 _ 3 24 Tryz.underlying37 hi dy dC dN rfl (by decide) aL.cells jP tL bd.heap.size rfl (aq.new _ _ _) (Nat.le_refl _) ar c1 qs (j + 1) eH.out.symm rfl (gm.out _ ()) aR (by have:=eH.out;unfold maxLen;omega) (by have:=eH.out;omega) ?_;intro bo cM nt fB eW;have oo:Below bd bd nt:=ah (bZ _ _) eW;have Qo:=oo.size;clear aR)))
  have Vg:=anG fB jP
  have oq:j + 1≤cM:=by have:=eH.out;omega
  clear Vg
  refine (cB.out _ (Ev.out _ oo).1 (Ev.out _ oo).2).mono ?_
  rintro e aad ⟨rfl,Ge⟩
  have dq:=J fB;clear fB
  go_wp2
  go_ret2
  refine⟨some ⟨bo,0,none⟩,cM,by simp only [jb,Option.getD_some,nb.out];rfl,?_,ah I (ah oo Ge)⟩
  have xw:=anJ ((dq.out.later Ge).base (by omega:w.heap.size≤_)) jP (k:=j) (by have:=eH.out;omega)
  simp only [jb,Option.getD_some]
  rw [nb.out]
  exact xw
open Go.RowKit Go.G9
theorem DH {T:Type} {sz:Nat} {f:T→List Value} {w:World} {A:Option Addr} {xs:List T} (h:aH sz f w A xs) (k:Nat):aH sz f w A (xs.take k):=by
 intro aY
 have VR:0 < xs.length:=by rw [List.length_take] at aY;omega
 obtain⟨b,off,aR,bl,aE⟩:=h VR
 exact⟨b,off,aR,bl,fun i x ay=>aE i x (by rw [List.getElem?_take] at ay;split at ay;exact ay;cases ay)⟩
theorem aaj {rs:List aJ} {qs:List aL} {mem:Int} (h:dD rs qs= false):kz rs qs mem= none:=by simp [kz,h]
theorem arF {rs:List aJ} {qs:List aL} {mem:Int} (aO:dD rs qs= true) (h:eG mem= false):kz rs qs mem= none:=by
 unfold kz
 rw [if_pos aO]
 cases hw:oD qs mem qs.length with
 | none=>rfl
 | some j=>
  obtain⟨q,aZ,hm⟩:=Qw hw
  have:=Yk aO aZ
  rw [hm,h] at this;cases this
theorem aak {rs:List aJ} {qs:List aL} {mem:Int} (aO:dD rs qs= true):kz rs qs mem= (oD qs mem qs.length).map (fun k=>qs.take k):=by unfold kz;rw [if_pos aO]
theorem arE {qs:List aL} {mem:Int} {j:Nat} {q:aL} (aZ:qs[j]? =some q) (h:(q.mover == mem)= true):oD qs mem (j + 1)= some j:=by simp [oD,aZ,h]
theorem arD {qs:List aL} {mem:Int} {j:Nat} {q:aL} (aZ:qs[j]? =some q) (h:(q.mover == mem)= false):oD qs mem (j + 1)= oD qs mem j:=by simp [oD,aZ,h]
theorem acV {p:Prop} (h:p:=by
 obtain⟨j,xD⟩ :∃j,k= j + 1:=⟨k - 1,by omega⟩
 have e1:(k:Int) - 1= (j:Int):=by omega
 rw [e1]
 subst xD
 have ajq:j < qs.length:=by omega
 clear e1 h0
 obtain⟨gJ,gL,⟨qr,cg,dw⟩,rfl,dU,aZ,oq⟩:=gm.out.at_ aB (k:=j) ajq
 have cu:=oq 0 _ rfl;have dI:=oq 1 _ rfl;have dj:=oq 2 _ rfl
 simp only [Nat.add_zero] at cu
 have g0:=cu (ax.self _);have g1:=dI (ax.self _);have g2:=dj (ax.self _)
 simp only [ax.self] at g0
 simp only [ax.self] at g1
 simp only [ax.self] at g2
 have cV:=J aZ;clear aZ oq cu dI dj
 cases aX:cg == mem
 ·have gu:=J (nN.out.trans (arD cV.out aX))
  go_wp2
  go_roundw
  case rel=>exact⟨j,by omega,by go_num,gu.out,aB⟩
  case measure=>(simp [intOf] <;> omega)
 ·have gu:=J (nN.out.trans (arE cV.out aX))
  have NY:j≤c1:=by omega
  have bl:(qs.take j).length= j:=by rw [List.length_take];omega
  have nb:=J bl;clear bl;have qA:=J (fun e u=>((DH (gm.out.below aB) j).below (bZ wr (.cells #[] e))):∀(e:TypeId) (u:Unit),aH 3 aL.cells (wr.alloc (.cells #[] e)) _ (qs.take j))
  go_wp2_with ((at_builtin;refine vx rfl _ _ 37 rfl wr.heap.size 115 i0 _ 3 24 Tryz.underlying37 hi dy dC dN rfl (by decide) aL.cells jP tL wr.heap.size rfl (aq.new _ _ _) (Nat.le_refl _) (some ⟨gJ,gL,none⟩) c1 (qs.take j) j nb.out.symm rfl (qA.out _ ()) (fun h=>by cases h) (by have:=nb.out;unfold maxLen;omega) (by have:=nb.out;omega) ?_;intro bo cM nt fB eW))
  have oo:Below wr wr nt:=ah (bZ _ _) eW
  go_wp2
  go_ret2
  rw [gu.out]
  refine⟨some ⟨bo,0,none⟩,cM,by simp only [jb,Option.map_some,Option.getD_some,nb.out];rfl,?_,ah I (ah aB oo)⟩
  have xw:=fB.base (by omega:w.heap.size≤_)
  simp only [jb,Option.map_some,Option.getD_some]
  exact xw):p:=h
theorem WD (an:Option Addr) (c0:Nat) (rs:List aJ) (h0:rs.length≤1048576) (ga:rs.length≤c0) (ar:Option Addr) (c1:Nat) (qs:List aL) (h1:qs.length≤1048576) (hT:qs.length≤c1) (mem:Int) (w:World) (aU:aH 7 aJ.cells w an rs) (aT:aH 3 aL.cells w ar qs):Calls Tryz.prog 255 #[.slice an rs c0,.slice ar qs c1,mem] w fun e ag=>∃A c,e= .returned (.tuple #[.slice A (jb (kz rs qs mem)).length c,.bool (kz rs qs mem).isSome])∧aV w 115 3 aL.cells ag (.slice A (jb (kz rs qs mem)).length c) (jb (kz rs qs mem))∧Below w w ag:=by
 obtain⟨i0,hi,dy,dC,dN⟩:=info_parts sH
 cases aO:dD rs qs
 ·have eg:=J aO
  rw [aaj aO]
  clear aO
  go_in
  go_wp2_with fail
  refine (nA an c0 rs h0 ga ar c1 qs h1 _ eg.out _ (aU.below av) (aT.below av)).mono ?_
  rintro e bd ⟨rfl,bz⟩
  have au:=be w bz;have I:Below w w bd:=au;replace aU:=aU.below au;replace aT:=aT.below au
  go_wp2
  go_ret2
  exact⟨none,0,rfl,aV.nil,(ah I av)⟩
 cases hm:eG mem
 ·have eg:=J aO;have dR:=J hm
  rw [arF aO hm]
  clear aO hm
  go_in
  go_wp2_with fail
  refine (nA an c0 rs h0 ga ar c1 qs h1 _ eg.out _ (aU.below av) (aT.below av)).mono ?_
  rintro e bd ⟨rfl,bz⟩
  have au:=be w bz;have I:Below w w bd:=au;replace aU:=aU.below au;replace aT:=aT.below au
  go_wp2_with fail
  refine (iT mem _ dR.out _).mono ?_
  rintro e w0 ⟨rfl,h0⟩
  rw [h0]
  clear h0 w0
  go_wp2
  go_ret2
  exact⟨none,0,rfl,aV.nil,(ah I av)⟩
 have eg:=J aO;have dR:=J hm
 rw [aak aO]
 clear aO hm
 go_in
 go_wp2_with fail
 refine (nA an c0 rs h0 ga ar c1 qs h1 _ eg.out _ (aU.below av) (aT.below av)).mono ?_
 rintro e bd ⟨rfl,bz⟩
 have au:=be w bz;have I:Below w w bd:=au;replace aU:=aU.below au;replace aT:=aT.below au
 go_wp2_with fail
 refine (iT mem _ dR.out _).mono ?_
 rintro e w0 ⟨rfl,h0⟩
 rw [h0]
 clear h0 w0;have tP:=I.size;have gm:=J aT;clear aU aT
 go_wp2
 go_loopw [8] (fun i wr=>∃k:Nat,k≤qs.length∧i= .int .i64 ((k:Int) - 1)∧oD qs mem qs.length= oD qs mem k∧Below bd bd wr) (fun i _=>(intOf i + 1).toNat)
 case atStart=>exact⟨qs.length,Nat.le_refl _,rfl,rfl,Below.refl _ _⟩
 case round=>
  obtain⟨k,az,rfl,hw,aB⟩:=hrel
  have nN:=J hw;clear hw;have ZQ:=aB.size
  by_cases h0:0 < k
  ·exact acV
  ·obtain rfl:k= 0:=by omega
   have gu:Hid (oD qs mem qs.length= none):=J nN.out
   go_wp2
   go_ret2
   rw [gu.out]
   exact⟨none,0,rfl,aV.nil,ah I aB⟩
open Go.RowKit Go.G9
theorem HA {T:Type} {sz:Nat} {f:T→List Value} {w:World} {b off:Nat} {xs:List T} (h:aH sz f w (some ⟨b,off,none⟩) xs) (k:Nat):aH sz f w (some ⟨b,off + k * sz,none⟩) (xs.drop k):=by
 intro h0
 obtain⟨cL,rT,h1,h2,h3⟩:=h (by rw [List.length_drop] at h0;omega)
 injection h1 with h1;injection h1 with h4 h5;subst h4;subst h5
 refine⟨b,off + k * sz,rfl,h2,fun i x ay j u hu=>?_⟩
 rw [List.getElem?_drop] at ay
 have h6:=h3 (k + i) x ay j u hu
 rw [Nat.add_mul] at h6
 rw [← h6];congr 2;omega
theorem ye {T:Type} {sz:Nat} {f:T→List Value} {w:World} {b off:Nat} {xs:List T} (h:aH sz f w (some ⟨b,off,none⟩) xs) {k:Nat} {x:T} (ay:xs[k]? =some x) {i:Nat} {u:Value} (hu:(f x)[i]? =some u):w.cell? ⟨b,off + k * sz + i,none⟩ =some u:=by
 obtain⟨cL,rT,h1,h2,h3⟩:=h (by have:=(List.getElem?_eq_some_iff.1 ay).1;omega)
 injection h1 with h1;injection h1 with h4 h5;subst h4;subst h5
 exact h3 k x ay i u hu
def tV {T:Type} (e:TypeId) (sz:Nat) (f:T→List Value) (m1 m2:Nat) (xs:List T) (k:Nat) (cs:Array Value):lC (Option Addr×Nat) where
 par:=fun n=>if n= m1 then [0] else []
 val:=fun n p=>if n= 0 then .slice p.1 0 0 else if n= m1 then .slice p.1 k p.2 else if n= m2 then .slice p.1 1 1 else undef
 post:=fun n bp p cW V=>(n= 0→p.1= some ⟨cW.heap.size,0,none⟩∧aq V cW.heap.size e #[])∧
  (n= m1→∃g bo,(bp 0).1= some ⟨g,0,none⟩∧p.1= some ⟨bo,0,none⟩∧aV g e sz f V (.slice p.1 (xs.take k).length p.2) (xs.take k))∧
  (n= m2→∃g,p.1= some ⟨g,0,none⟩∧cW.heap.size= g∧aq V g e cs)
theorem agv {A:Option Addr} {c k:Nat} {U:List aI} {f:Addr→Addr} (aY:A= none→U= []∧c= 0) (az:k= U.length) (h:(if c= k then A else A.map f)= none):U.drop k= []∧c - k= 0:=by
 refine⟨List.drop_of_length_le (by omega),?_⟩
 cases A with
 | none=>have:=(aY rfl).2;omega
 | some jf=>split at h <;> cases h
theorem Xg (af ae sp:Int) (aj:Option Addr) (c2:Nat) (ws:List Int) (ak:Option Addr) (c3:Nat) (U:List aI) (h2:ws.length≤1048576) (h3:U.length≤1048576) (n2:aj= none→ws= []∧c2= 0) (n3:ak= none→U= []∧c3= 0) (ed:U.length≤c3) (sm st cn:Int) (w:World) (bj:aH 1 bR w aj ws) (bh:aH 3 aI.cells w ak U):
 Calls Tryz.prog 290 #[.agg #[af,ae,sp,.slice aj ws c2,.slice ak U c3],.agg #[sm,st,cn]] w fun e ag=>∃bg d2 bn d3,e= .returned (.agg #[af,ae,sp,.slice bg ws d2,.slice bn (fa U ⟨sm,st,cn⟩).length d3])∧jR w.heap.size ag bg d2 bn d3 ws (fa U ⟨sm,st,cn⟩)∧Below w w ag:=by
 obtain⟨i0,hi,dy,dC,dN⟩:=info_parts AQ
 have dX:=J bj;have cO:=J bh;have je:=J n2;have iV:=J n3;clear bj bh n2 n3
 go_in
 go_upto_region 1 with fail
 refine fr fun aF au ai bN ad=>?_
 have I:=au
 obtain⟨f0,f1,f2,f3,f4⟩:=ai.aP
 obtain⟨iU,s1,s2⟩:=bN.cC
 have al:=ad.aP;have gy:=ad.lt
 go_wp2_with fail
 refine (Hc af ae sp aj c2 ws ak c3 U h2 h3 je.out iV.out _ (dX.out.below (ah I av)) (cO.out.below (ah I av))).mono ?_
 rintro e aM ⟨bg,d2,bn,d3,rfl,ds,aN⟩
 have ao:=be aF aN;replace I:=ah I ao;replace ai:=ai.to ao;clear f0 f1 f2 f3 f4
 obtain⟨f0,f1,f2,f3,f4⟩:=ai.aP
 replace bN:=bN.to ao;clear iU s1 s2
 obtain⟨iU,s1,s2⟩:=bN.cC
 replace ad:=ad.to ao;clear al;have al:=ad.aP;have wL:=ao.size;have vt:=I.size
 go_upto_region 2 with fail
 have Sw:=(ds.fk.later (bZ aM (.cells #[af,ae,sp,.slice bg ws d2,.slice bn U d3] 41))).base (B':=w.heap.size) (by omega);clear ds;have aK:Below aM aM (World.alloc aM (.cells #[af,ae,sp,.slice bg ws d2,.slice bn U d3] 41)):=bZ aM _
 have aQ:aq (World.alloc aM (.cells #[af,ae,sp,.slice bg ws d2,.slice bn U d3] 41)) (aM.heap.size) 41 #[af,ae,sp,.slice bg ws d2,.slice bn U d3]:=by repeat (first | exact aq.new _ _ _ | exact aq.fu _ _ _ _ | exact aq.fx _ _ _ _ _ | exact aq.gb _ _ _ _ _ _ | refine aq.alloc ?_ _)
 generalize World.alloc aM (.cells #[af,ae,sp,.slice bg ws d2,.slice bn U d3] 41)= aae at *
 replace I:=ah I aK
 obtain⟨dd,dV,dT,en,et⟩:=aQ.aP
 clear f0 f1 f2 f3 f4;replace ai:=ai.to aK
 obtain⟨f0,f1,f2,f3,f4⟩:=ai.aP
 clear iU s1 s2;replace bN:=bN.to aK
 obtain⟨iU,s1,s2⟩:=bN.cC
 clear al;replace ad:=ad.to aK;have al:=ad.aP;have lK:=aQ.lt;have bA:=Sw;clear Sw;have cB:=J ai;have eA:=J bN;have bf:=J ad;have cb:=J aQ;have hx:=J bA;have pA:=J I;clear ai bN ad aQ bA f0 f1 f2 f3 f4 iU s1 s2 al dd dV dT en et
 go_wp2
 go_loopw [6] (fun i wr=>∃k:Nat,k≤U.length∧i= .int .i64 k∧(∀j x,j < k→U[j]? =some x→x.mem < sm)∧Below aae aae wr) (fun i _=>U.length - (intOf i).toNat)
 case atStart=>exact⟨0,Nat.zero_le _,rfl,fun j x h=>absurd h (by omega),Below.refl _ _⟩
 case round=>
  obtain⟨k,az,rfl,aS,aB⟩:=hrel
  have cH:=J aS;clear aS;have fR:=cB.out.below aB cB.out.lt;have gX:=eA.out.below aB eA.out.lt
  have c4:=fun K:ax wr.heap.size wr=>((fR.below K.below fR.lt).cell 4).trans (show _= some (.slice ak U c3) from rfl)
  have iU:=fun K:ax wr.heap.size wr=>((gX.below K.below gX.lt).cell 0).trans (show _= some (.int .i64 sm) from rfl)
  rcases (show (∃x,U[k]? =some x∧x.mem < sm)∨(∃x,U[k]? =some x∧x.mem= sm)∨(∃x,U[k]? =some x∧sm < x.mem)∨k= U.length by
   by_cases bl:k < U.length
   ·have h:=List.getElem?_eq_getElem bl
    rcases (show (U[k]).mem < sm∨(U[k]).mem= sm∨sm < (U[k]).mem by omega) with g | g | g
    ·exact .inl ⟨_,h,g⟩
    ·exact .inr (.inl ⟨_,h,g⟩)
    ·exact .inr (.inr (.inl ⟨_,h,g⟩))
   ·exact .inr (.inr (.inr (by omega)))) with ⟨⟨dW,iM,zI⟩,ay,hm⟩ | ⟨⟨dW,iM,zI⟩,ay,hm⟩ | ⟨⟨dW,iM,zI⟩,ay,hm⟩ | VF
  case' inl=>
   have bl:k < U.length:=(List.getElem?_eq_some_iff.1 ay).1
   obtain⟨eu,fJ,bF,hA3,_,lf,jL⟩:=(cO.out.below pA.out).at_ aB bl
   clear jL lf bF
   subst hA3
   have dd:=fun K:ax wr.heap.size wr=>(ye (cO.out.below (ah (ah pA.out aB) K.below)) ay (i:=0) (u:= .int .i64 dW) rfl)
   simp only [Nat.add_zero] at dd
   have ui:=J ay;clear ay
   go_wp2
   refine ew (by kernel_rfl) (by kernel_rfl) ?_
   repeat (go_big_quiet_step ((fail)))
   refine wpQuiet_nil ?_
   intro K
   clear c4 iU dd fR gX
   go_wp2
   go_roundw
   case rel=>exact⟨k + 1,by omega,by go_num,fun j y bH hy=>by
    by_cases e:j= k
    ·subst e;rw [ui.out] at hy;cases hy;exact hm
    ·exact cH.out j y (by omega) hy,ah aB K.below⟩
   case measure=>simp [intOf];omega
  case' inr.inl=>
   have bl:k < U.length:=(List.getElem?_eq_some_iff.1 ay).1
   obtain⟨eu,fJ,bF,hA3,_,lf,jL⟩:=(cO.out.below pA.out).at_ aB bl
   clear jL lf bF
   subst hA3
   have dd:=fun K:ax wr.heap.size wr=>(ye (cO.out.below (ah (ah pA.out aB) K.below)) ay (i:=0) (u:= .int .i64 dW) rfl)
   simp only [Nat.add_zero] at dd
   have ui:=J ay;clear ay
   go_wp2
   refine ew (by kernel_rfl) (by kernel_rfl) ?_
   repeat (go_big_quiet_step ((fail)))
   refine wpQuiet_nil ?_
   intro K
   clear c4 iU dd fR gX;have hK:=ah aB K.below
   generalize K.world= nu at *
   have fR:=cB.out.below hK cB.out.lt;have gX:=eA.out.below hK eA.out.lt;have f4:=(fR.cell 4).trans (show _= some (.slice (some ⟨eu,fJ,none⟩) U c3) from rfl)
   have NM:¬c3= k:=by omega
   go_upto_region 6 with fail
   have dd:=fun K:ax nu.heap.size nu=>(ye (cO.out.below (ah (ah pA.out hK) K.below)) ui.out (i:=0) (u:= .int .i64 dW) rfl)
   have iU:=fun K:ax nu.heap.size nu=>((gX.below K.below gX.lt).cell 0).trans (show _= some (.int .i64 sm) from rfl)
   simp only [Nat.add_zero] at dd
   have Js:decide (0 < U.length - k)= true:=decide_eq_true (by omega)
   have AA:k≤c3:=by omega
   clear f4 fR gX
   refine ew (by kernel_rfl) (by kernel_rfl) ?_
   repeat (go_big_quiet_step ((fail)))
   refine wpQuiet_nil ?_
   intro K
   clear iU dd Js;have iX:=ah hK K.below
   generalize K.world= hF at *
   go_upto_region 8 with fail
   obtain⟨rest,iZ⟩ :∃l,l= U.drop (k + 1):=⟨_,rfl⟩
   have oW:Hid (fa U ⟨sm,st,cn⟩ =U.take k ++ [(⟨sm,st,cn⟩ :aI)] ++ rest):=J (by rw [iZ];rw [DL (k:=k) (by omega) cH.out (fun y hy=>by rw [ui.out] at hy;cases hy;have h:dW= sm:=hm;show¬dW < sm;omega),ui.out];have h:dW= sm:=hm;simp [h]);have nM:Hid (rest.length= (U.length - k - 1)):=J (by rw [iZ];rw [List.length_drop];omega);have qz:Hid (aH 3 aI.cells w (if c3 - k= 1 then (some ⟨eu,fJ + k * 3,none⟩ :Option Addr) else some ⟨eu,fJ + k * 3 + 3,none⟩) rest):=J (by rw [iZ];split <;> first | (rw [List.drop_of_length_le (by omega)];exact aH.nil) | (have h:=HA cO.out (k + 1);rw [Nat.add_mul,Nat.one_mul,← Nat.add_assoc] at h;exact h))
   have LA:Hid ((if c3 - k= 1 then (some ⟨eu,fJ + k * 3,none⟩ :Option Addr) else some ⟨eu,fJ + k * 3 + 3,none⟩)= none→rest= []∧(c3 - k - 1)= 0):=J (fun h=>by split at h <;> cases h);clear iZ
   generalize (if c3 - k= 1 then (some ⟨eu,fJ + k * 3,none⟩ :Option Addr) else some ⟨eu,fJ + k * 3 + 3,none⟩)= Md at *
   have Wb:(U.length - k - 1)≤1048576:=by omega
   generalize (U.length - k - 1)= YM at *
   generalize (c3 - k - 1)= rc at *
   generalize (some ⟨eu,fJ,none⟩ :Option Addr)= ak at *
   clear ui bl NM hm
  case' inr.inr.inl=>
   have bl:k < U.length:=(List.getElem?_eq_some_iff.1 ay).1
   obtain⟨eu,fJ,bF,hA3,_,lf,jL⟩:=(cO.out.below pA.out).at_ aB bl
   clear jL lf bF
   subst hA3
   have dd:=fun K:ax wr.heap.size wr=>(ye (cO.out.below (ah (ah pA.out aB) K.below)) ay (i:=0) (u:= .int .i64 dW) rfl)
   simp only [Nat.add_zero] at dd
   have ui:=J ay;clear ay;have Dd:decide (dW < sm)= false:=decide_eq_false (by have h:sm < dW:=hm;omega)
   go_wp2
   refine ew (by kernel_rfl) (by kernel_rfl) ?_
   repeat (go_big_quiet_step ((fail)))
   refine wpQuiet_nil ?_
   intro K
   clear c4 iU dd Dd fR gX;have hK:=ah aB K.below
   generalize K.world= nu at *
   have fR:=cB.out.below hK cB.out.lt;have gX:=eA.out.below hK eA.out.lt;have f4:=(fR.cell 4).trans (show _= some (.slice (some ⟨eu,fJ,none⟩) U c3) from rfl)
   have NM:¬c3= k:=by omega
   go_upto_region 6 with fail
   have dd:=fun K:ax nu.heap.size nu=>(ye (cO.out.below (ah (ah pA.out hK) K.below)) ui.out (i:=0) (u:= .int .i64 dW) rfl)
   have iU:=fun K:ax nu.heap.size nu=>((gX.below K.below gX.lt).cell 0).trans (show _= some (.int .i64 sm) from rfl)
   simp only [Nat.add_zero] at dd
   have Js:decide (0 < U.length - k)= true:=decide_eq_true (by omega)
   have AA:k≤c3:=by omega
   clear f4 fR gX;have uR:(dW == sm)= false:=beq_eq_false_iff_ne.2 (by have h:sm < dW:=hm;omega)
   refine ew (by kernel_rfl) (by kernel_rfl) ?_
   repeat (go_big_quiet_step ((fail)))
   refine wpQuiet_nil ?_
   intro K
   clear iU dd uR Js;have iX:=ah hK K.below
   generalize K.world= hF at *
   go_upto_region 8 with fail
   obtain⟨rest,iZ⟩ :∃l,l= U.drop k:=⟨_,rfl⟩
   have oW:Hid (fa U ⟨sm,st,cn⟩ =U.take k ++ [(⟨sm,st,cn⟩ :aI)] ++ rest):=J (by rw [iZ];rw [DL (k:=k) (by omega) cH.out (fun y hy=>by rw [ui.out] at hy;cases hy;have h:sm < dW:=hm;show¬dW < sm;omega),ui.out];have h:¬dW= sm:=(by have h:sm < dW:=hm;omega);simp [h]);have nM:Hid (rest.length= (U.length - k)):=J (by rw [iZ];rw [List.length_drop])
   have qz:Hid (aH 3 aI.cells w (some ⟨eu,fJ + k * 3,none⟩ :Option Addr) rest):=J (by rw [iZ];exact HA cO.out k);have LA:Hid ((some ⟨eu,fJ + k * 3,none⟩ :Option Addr)= none→rest= []∧(c3 - k)= 0):=J (fun h=>by cases h);clear iZ
   generalize (some ⟨eu,fJ + k * 3,none⟩ :Option Addr)= Md at *
   have Wb:(U.length - k)≤1048576:=by omega
   generalize (U.length - k)= YM at *
   generalize (c3 - k)= rc at *
   generalize (some ⟨eu,fJ,none⟩ :Option Addr)= ak at *
   clear ui bl NM hm
  case' inr.inr.inr=>
   have zj:¬k < U.length:=by omega
   have BN:=J VF
   have aji:¬0 < U.length - k:=by omega
   clear VF
   go_wp2
   refine ew (by kernel_rfl) (by kernel_rfl) ?_
   repeat (go_big_quiet_step ((fail)))
   refine wpQuiet_nil ?_
   intro K
   clear c4 iU fR gX;have hK:=ah aB K.below
   generalize K.world= nu at *
   have fR:=cB.out.below hK cB.out.lt;have f4:=(fR.cell 4).trans (show _= some (.slice ak U c3) from rfl)
   go_upto_region 6 with fail
   have AA:k≤c3:=by omega
   clear f4 fR
   refine ew (by kernel_rfl) (by kernel_rfl) ?_
   repeat (go_big_quiet_step ((fail)))
   refine wpQuiet_nil ?_
   intro K
   clear aji zj;have iX:=ah hK K.below
   generalize K.world= hF at *
   go_upto_region 8 with fail
   obtain⟨rest,iZ⟩ :∃l,l= U.drop k:=⟨_,rfl⟩
   have oW:Hid (fa U ⟨sm,st,cn⟩ =U.take k ++ [(⟨sm,st,cn⟩ :aI)] ++ rest):=J (by rw [iZ];rw [DL (k:=k) (by omega) cH.out (fun y hy=>by have h1:=(List.getElem?_eq_some_iff.1 hy).1;have h2:=BN.out;omega),List.getElem?_eq_none (by have h2:=BN.out;omega)];simp;have h2:=BN.out;omega);have nM:Hid (rest.length= (U.length - k)):=J (by rw [iZ];rw [List.length_drop])
   have qz:Hid (aH 3 aI.cells w (if c3= k then ak else Option.map (fun x=>x.add (k * 3)) ak) rest):=J (by rw [iZ];rw [List.drop_of_length_le (by have h2:=BN.out;omega)];exact aH.nil);have LA:Hid ((if c3= k then ak else Option.map (fun x=>x.add (k * 3)) ak)= none→rest= []∧(c3 - k)= 0):=J (fun h=>by rw [iZ];exact agv iV.out BN.out h);clear iZ
   generalize (if c3= k then ak else Option.map (fun x=>x.add (k * 3)) ak)= Md at *
   have Wb:(U.length - k)≤1048576:=by omega
   generalize (U.length - k)= YM at *
   generalize (c3 - k)= rc at *
   clear BN
  all_goals
   have nf:Hid ((U.take k).length= k):=J (by rw [List.length_take];omega);have qA:Hid (aH 3 aI.cells w ak (U.take k)):=J (DH cO.out k);have aeq:Hid (ak= none→U.take k= []∧c3= 0):=J (fun h=>⟨by simp [(iV.out h).1],(iV.out h).2⟩);have ai:=cB.out.below iX cB.out.lt;have bN:=eA.out.below iX eA.out.lt;have ad:=bf.out.below iX bf.out.lt;have aQ:=cb.out.below iX cb.out.lt
   have bA:=hx.out.later iX;have I:=ah pA.out iX;have aqY:=I.size;have aun:=iX.size
   obtain⟨f0,f1,f2,f3,f4⟩:=ai.aP
   obtain⟨iU,s1,s2⟩:=bN.cC
   have al:=ad.aP
   obtain⟨dd,dV,dT,en,et⟩:=aQ.aP
   obtain⟨pz,yV⟩ :∃X:World→Prop,∀V,X V↔(Below w w V∧aq V (w.heap.size) 41 #[af,ae,sp,.slice aj ws c2,.slice ak U c3]∧aq V ((w.heap.size + 1)) 214 #[sm,st,cn]∧aq V (aM.heap.size) 41 #[af,ae,sp,.slice bg ws d2,.slice bn U d3]):=⟨_,fun _=>Iff.rfl⟩
   have iO:=J yV;clear yV
   haveI:Nonempty (cN pz):=⟨⟨hF,((iO.out _).2 ⟨I,ai,bN,aQ⟩)⟩⟩
   clear f0 f1 f2 f3 f4;clear iU s1 s2;clear al;clear dd dV dT en et
   obtain⟨f0,f1,f2,f3,f4⟩:=aq.kE (fun K:cN pz=>((iO.out _).1 K.holds).2.1)
   obtain⟨iU,s1,s2⟩:=aq.jV (fun K:cN pz=>((iO.out _).1 K.holds).2.2.1)
   obtain⟨dd,dV,dT,en,et⟩:=aq.kE (fun K:cN pz=>((iO.out _).1 K.holds).2.2.2)
   refine HQ (tV 214 3 aI.cells 5 7 U k #[sm,st,cn]) pz [([],0),([1,2,3,4],5),([6],7)] [9] [([],[],8,false),([],[],10,false),([],[11],12,true)] [] [] (by kernel_rfl) (by kernel_rfl) ((iO.out _).2 ⟨I.drew,ai,bN,aQ⟩) (fun W eE h k=>((iO.out _).2 ⟨((iO.out _).1 h).1.trans (k.mono ((iO.out _).1 h).1.size),((iO.out _).1 h).2.1.below k ((iO.out _).1 h).2.1.lt,((iO.out _).1 h).2.2.1.below k ((iO.out _).1 h).2.2.1.lt,((iO.out _).1 h).2.2.2.below k ((iO.out _).1 h).2.2.2.lt⟩)) ?_
   intro bp
   refine iL (some 46) rfl (.slice (bp 0).1 0 0) rfl fun hd eT=>?_
   change wpQuiet _ _ _ _ ([]) _
   refine wpQuiet_nil ?_
   refine⟨fun hT fQ=>?_,eT _ ?_⟩
   ·change wpList _ _ _ (_ ::[]) _ _
    go_wp2
    first | exact ia ⟨(some ⟨hT.world.heap.size,0,none⟩,0),rfl,bZ _ _,by simp [tV];exact aq.new _ _ _⟩ | exact ia ⟨some ⟨hT.world.heap.size,0,none⟩,0,rfl,bZ _ _,by simp [tV];exact aq.new _ _ _⟩
   simp only [Act.put]
   go_simp
   refine iL (some 51) rfl (.slice (bp 5).1 k (bp 5).2) rfl fun hd eT=>?_
   change wpQuiet _ _ _ _ (_ ::_ ::_ ::_ ::[]) _
   repeat (go_big_quiet_step (fail))
   refine wpQuiet_nil ?_
   refine⟨fun hT fQ=>?_,eT _ ?_⟩
   ·change wpList _ _ _ (_ ::[]) _ _
    obtain⟨gO,uw,qS,UM,mM⟩:=fQ 0 (by simp [tV])
    obtain⟨mK,mL⟩:=UM.1 rfl
    have mN:=mL.to mM;have jW:(bp 0).1= some ⟨gO.heap.size,0,none⟩:=mK;have qD:=J (qA.out.below ((iO.out _).1 hT.holds).1);have qC:=J mN;clear mN mL mK qS mM UM fQ
    rw [jW]
    have mj:=J jW;clear jW
    go_wp2_with ((at_builtin;refine vx rfl _ _ 39 rfl gO.heap.size 214 i0 _ 3 24 Tryz.underlying39 hi dy dC dN rfl (by decide) aI.cells ij wH gO.heap.size rfl qC.out (Nat.le_refl _) ak c3 (U.take k) k nf.out.symm rfl qD.out aeq.out (by have:=nf.out;unfold maxLen;omega) (by have:=nf.out;omega) ?_;intro bo cM ag fB eW))
    first | exact ia ⟨(some ⟨bo,0,none⟩,cM),rfl,eW,by simp [tV],fun _=>⟨gO.heap.size,bo,mj.out,rfl,fB⟩,by simp [tV]⟩ | exact ia ⟨some ⟨bo,0,none⟩,cM,rfl,eW,by simp [tV],fun _=>⟨gO.heap.size,bo,mj.out,rfl,fB⟩,by simp [tV]⟩
   simp only [Act.put]
   go_simp
   refine iL (some 53) rfl (.slice (bp 7).1 1 1) rfl fun hd eT=>?_
   change wpQuiet _ _ _ _ (_ ::[]) _
   repeat (go_big_quiet_step (fail))
   refine wpQuiet_nil ?_
   refine⟨fun hT fQ=>?_,eT _ ?_⟩
   ·change wpList _ _ _ (_ ::[]) _ _
    go_wp2
    first | exact ia ⟨(some ⟨hT.world.heap.size,0,none⟩,0),rfl,bZ _ _,by simp [tV],by simp [tV],fun _=>⟨hT.world.heap.size,rfl,rfl,aq.new _ _ _⟩⟩ | exact ia ⟨some ⟨hT.world.heap.size,0,none⟩,0,rfl,bZ _ _,by simp [tV],by simp [tV],fun _=>⟨hT.world.heap.size,rfl,rfl,aq.new _ _ _⟩⟩
   simp only [Act.put]
   go_simp
   refine tW ?_
   change wpQuiet _ _ _ _ (_ ::[]) _
   repeat (go_big_quiet_step (fail))
   refine wpQuiet_nil ?_
   intro cW V W aW bI
   obtain⟨g0,g5,e0,e5,zx⟩ :∃g bo,(bp 0).1= some ⟨g,0,none⟩∧(bp 5).1= some ⟨bo,0,none⟩∧aV g 214 3 aI.cells (V 5) (.slice (bp 5).1 (U.take k).length (bp 5).2) (U.take k):=(aW.post 5 (by simp)).2.1 rfl
   obtain⟨a0,_⟩ :(bp 0).1= some ⟨(cW 0).heap.size,0,none⟩∧aq (V 0) (cW 0).heap.size 214 #[]:=(aW.post 0 (by simp)).1 rfl
   obtain⟨g7,e7,u7,yb⟩ :∃g,(bp 7).1= some ⟨g,0,none⟩∧(cW 7).heap.size= g∧aq (V 7) g 214 #[sm,st,cn]:=(aW.post 7 (by simp)).2.2 rfl
   have t0:(cW 0).heap.size= g0:=by rw [a0] at e0;exact congrArg Addr.block (Option.some.inj e0)
   have iw:=(zx.later (aW.later 5 (by simp))).base (B':=hF.heap.size) (by rw [← t0];exact (aW.nC 0 (by simp)).size);have atT:=bN.lt;have Ar:=yb.below (aW.later 7 (by simp)) yb.lt;have AH:Below hF hF W:=(aW.whole 5 (by simp)).rr;clear f0 f1 f2 f3 f4;clear iU s1 s2;clear dd dV dT en et;have cx:Below hF hF W:=ah av (aW.whole 5 (by simp)).rr
   replace I:=ah I cx;replace bA:=bA.later cx;replace ai:=ai.to cx;replace bN:=bN.to cx;replace ad:=ad.to cx;have al:=ad.aP;replace aQ:=aQ.to cx
   obtain⟨dd,dV,dT,en,et⟩:=aQ.aP
   clear aW zx yb a0 e0 t0 u7 bI
   generalize bp 5= vn at *
   generalize bp 7= PD at *
   obtain⟨Ru,d5⟩:=vn
   obtain⟨Rv,d7⟩:=PD
   simp only at iw e5 e7
   subst e5
   subst e7
   rw [nf.out] at iw
   have aeH:Hid (aH 3 aI.cells W (some ⟨g7,0,none⟩) [(⟨sm,st,cn⟩ :aI)]):=J (fun _=>⟨g7,0,rfl,Ar.lt,fun i y hy j u hu=>by
    have h0:i= 0:=by have:=(List.getElem?_eq_some_iff.1 hy).1;simp at this;omega
    subst h0;simp at hy;subst hy
    rw [Nat.zero_mul,Nat.zero_add]
    exact (Ar.cell _).trans (by simpa [aI.cells] using hu)⟩)
   have aiY:=iw.xW aQ (by decide);have aiZ:=iw.xW ad (by decide);have UW:=bA.apart iw (by decide);have Vn:=iw.lt g5 rfl;have Qp:=I.size;have Bw:=AH.size;have Lv:=J ai;have LM:=J bN;have aiX:=iw.xW ai (by decide);have BZ:=J aQ;have jl:=J ad;have nc:=J iw;have ez:=J I;have LD:=J bA;have adS:=J UW;clear Ar aQ ad ai bN iw bA I UW al dd dV dT en et
   haveI:Nonempty (cN (fun _=>True)):=⟨⟨w,trivial⟩⟩
   refine qx fun gz dZ=>?_
   refine wpQuiet_nil ?_
   refine wpQuiet_nil ?_
   change wpList _ _ _ (_ ::[]) _ _
   have aes:Hid (aV hF 214 3 aI.cells W (.slice g5 k d5) (U.take k)):=nc
   go_wp2_with ((at_builtin;refine lA rfl _ _ 39 rfl hF.heap.size 214 i0 _ 3 24 Tryz.underlying39 hi dy dC dN rfl (by decide) aI.cells ij wH _ (U.take k) rfl aes.out ⟨g7,0,none⟩ 1 ⟨sm,st,cn⟩ rfl aeH.out (by have:=nf.out;unfold maxLen;omega) (by have:=nf.out;omega) Bw ?_;intro ZZ oC qR uU aiv;clear aiv;obtain⟨asm,aut,rfl,q1,gr,ns⟩:=qR.form ij;clear q1 gr ns;have VJ:(U.take k ++ [(⟨sm,st,cn⟩ :aI)]).length= k + 1:=(by rw [List.length_append,nf.out];rfl);rw [VJ] at qR;clear VJ))
   have Jg:=Lv.out.kG uU (fun e=>aiX (Option.some.inj e));have Nx:=LM.out.kG uU (fun e=>by have h9:w.heap.size + 1= g5:=Option.some.inj e;omega);have uK:=BZ.out.kG uU (fun e=>aiY (Option.some.inj e));have sy:=jl.out.kG uU (fun e=>aiZ (Option.some.inj e));have LZ:=LD.out.kept uU (fun k az e=>adS.out k az e);have zT:Below w w oC:=ez.out.grown uU Qp (fun q aZ=>by have h9:g5= q:=Option.some.inj aZ;omega)
   have Vp:=qR.cA uK;have Vq:=qR.cA sy;have UX:=LZ.apart qR (by decide);have Vo:=qR.lt;have aqK:=zT.size;have aqL:=Nat.le_trans Bw uU.size;have Vm:=qR.cA Jg;have Ur:=((iO.out _).2 ⟨zT,Jg,Nx,uK⟩);have Lv:=J Jg;have LM:=J Nx;have adZ:=J Vm;have BZ:=J uK;have jl:=J sy;have Il:=J qR;have ez:=J zT;have LD:=J LZ
   have adT:=J UX;have aea:=J Vp;have aeb:=J Vq;have RS:=J Vo;clear uK sy qR LZ zT UX Vp Vq Vo uU Jg Nx Vm
   refine Ai Ur (dZ _ _ ?_)
   clear Ur
   refine qx fun EC uH=>?_
   refine wpQuiet_nil ?_
   refine wpQuiet_nil ?_
   change wpList _ _ _ (_ ::[]) _ _
   try simp only [Act.put]
   try go_simp
   have yC:=J (qz.out.below ez.out)
   go_wp2_with ((at_builtin;refine KP rfl _ _ 39 rfl hF.heap.size 214 i0 _ 3 24 Tryz.underlying39 hi dy dC dN rfl (by decide) aI.cells ij wH _ (U.take k ++ [(⟨sm,st,cn⟩ :aI)]) rfl Il.out Md rc rest (by rw [nM.out];rfl) yC.out LA.out (by have h1:=nM.out;have h2:=nf.out;rw [List.length_append,h1,h2];simp only [List.length_cons,List.length_nil];unfold maxLen;omega) (by have h1:=nM.out;have h2:=nf.out;rw [List.length_append,h1,h2];simp only [List.length_cons,List.length_nil];omega) aqL ?_;intro v10 HL xv we;rw [← oW.out] at xv;obtain⟨Y,gT,rfl,q1,gr,ns⟩:=xv.form ij;clear q1 gr ns))
   have FO:=Lv.out.kG we (fun e=>adZ.out _ e.symm rfl);have aip:=LM.out.kG we (fun e=>by have h9:=(RS.out _ e.symm).1;omega);have er:=BZ.out.kG we (fun e=>aea.out _ e.symm rfl);have bQ:=jl.out.kG we (fun e=>aeb.out _ e.symm rfl);have bA:=LD.out.kept we (fun k az e=>adT.out k az e);have bq:=xv;have I:=ez.out.grown we aqK (fun q aZ=>by have:=(RS.out q aZ).1;omega)
   clear we xv
   refine Ai ((iO.out _).2 ⟨I,FO,aip,er⟩) (uH _ _ ?_)
   refine qx fun asd aie=>?_
   refine wpQuiet_nil ?_
   change wpQuiet _ _ _ _ (_ ::[]) _
   try simp only [Act.put]
   try go_simp
   repeat (go_big_quiet_step (fail))
   refine wpQuiet_nil ?_
   change wpList _ _ _ (_ ::[]) _ _
   have al:=bQ.aP
   obtain⟨dd,dV,dT,en,et⟩:=er.aP
   have ej:=bA.cA er;have dK:=bq.cA er;have ahA:=er.frozen 4
   go_wp2
   clear al dd dV dT en et
   refine kN 4 fun IF jY=>?_
   replace I:=jY.aE I;replace bQ:=jY.dM bQ;replace er:=jY.PJ er;replace bA:=bA.bW jY ej;replace bq:=bq.bW jY dK;have al:=bQ.aP
   obtain⟨dd,dV,dT,en,et⟩:=er.aP
   clear ej dK ahA
   refine Ah (aie _ _ ?_)
   refine BB ?_
   refine wpQuiet_nil ?_
   refine wpQuiet_nil ?_
   have ej:=bA.cA bQ;have dK:=bq.cA bQ;have CB:=bQ.frozen 0;have CC:=bQ.frozen 1;have CD:=bQ.frozen 2;have CE:=bQ.frozen 3;have CF:=bQ.frozen 4
   go_wp2
   clear al dd dV dT en et
   refine gR 0 fun IG kO=>?_
   replace I:=kO.aE I;replace bQ:=kO.iP bQ;replace er:=kO.dM er;replace bA:=bA.bW kO ej;replace bq:=bq.bW kO dK;have al:=bQ.aP
   refine bodyPost_ret (v:= .agg #[af,ae,sp,.slice bg ws d2,.slice Y (fa U ⟨sm,st,cn⟩).length gT]) (by simp [results,Tryz.results290,go_sem,al]) rfl ?_
   exact⟨bg,d2,Y,gT,rfl,⟨bA.base (Nat.le_refl _),bq.base aqY,bA.apart bq (by decide)⟩,I⟩
open Go.RowKit Go.G9
theorem Xi (af ae sp:Int) (aj:Option Addr) (c2:Nat) (ws:List Int) (ak:Option Addr) (c3:Nat) (U:List aI) (h2:ws.length≤1048576) (h3:U.length≤1048576) (n2:aj= none→ws= []∧c2= 0) (n3:ak= none→U= []∧c3= 0) (cp:ws.length≤c2) (ed:U.length≤c3) (st cn:Int) (aX:ev U sp=⟨sp,st,cn⟩) (h0:0≤st) (h1:st≤1000) (w:World) (bj:aH 1 bR w aj ws) (bh:aH 3 aI.cells w ak U):
 Calls Tryz.prog 291 #[.agg #[af,ae,sp,.slice aj ws c2,.slice ak U c3]] w fun e ag=>∃bg d2 bn d3,e= .returned (.agg #[af,ae,(0:Int),.slice bg ws d2,.slice bn (fa U ⟨sp,st + 1,cn⟩).length d3])∧jR w.heap.size ag bg d2 bn d3 ws (fa U ⟨sp,st + 1,cn⟩)∧Below w w ag:=by
 have dX:=J bj;have cO:=J bh;have je:=J n2;have iV:=J n3;have wY:=J ed;clear bj bh n2 n3 ed;have eA:=J aX;clear aX
 have sF:IntKind.i64.wrap (st + 1)= st + 1:=by rw [IntKind.wrap_i64];omega
 go_in
 go_upto_region 1 with fail
 refine fm fun aF au ai ad=>?_
 have I:=au;have aD:=ai.aP;have al:=ad.aP;have gy:=ad.lt
 go_wp2_with fail
 refine (vk af ae sp aj ws.length c2 ak c3 U h3 sp ⟨sp,st,cn⟩ eA.out _ (cO.out.below (ah I av))).mono ?_
 rintro e aM ⟨rfl,aN⟩
 have ao:=be aF aN;replace I:=ah I ao;replace ai:=ai.to ao;clear aD;have aD:=ai.aP;replace ad:=ad.to ao;clear al;have al:=ad.aP;have KH:=ao.size
 go_upto_region 2 with fail
 refine cR fun dc aK bN=>?_
 replace I:=ah I aK;have cf:=bN.cC;clear aD;replace ai:=ai.to aK;have aD:=ai.aP;clear al;replace ad:=ad.to aK;have al:=ad.aP;have MR:=bN.frozen 1
 go_upto_region 3 with fail
 clear aD al cf
 refine kN 1 fun kb lz=>?_
 replace I:=lz.aE I;replace ai:=lz.dM ai;replace ad:=lz.dM ad;replace bN:=lz.Yr bN;have aD:=ai.aP;have al:=ad.aP;have cf:=bN.cC;clear MR;have ajQ:=bN.lt
 go_wp2_with fail
 refine (Xg af ae sp aj c2 ws ak c3 U h2 h3 je.out iV.out wY.out sp (st + 1) cn _ (dX.out.below (ah I av)) (cO.out.below (ah I av))).mono ?_
 rintro e ca ⟨bg,d2,bn,d3,rfl,ds,cU⟩
 have bS:=be kb cU;replace I:=ah I bS;clear aD;replace ad:=ad.to bS;clear al;have al:=ad.aP;clear cf;have vt:=I.size;have Qr:=bS.size
 go_upto_region 4 with fail
 have fj:=ds.later (bZ ca (.cells #[af,ae,sp,.slice bg ws d2,.slice bn (fa U ⟨sp,st + 1,cn⟩).length d3] 41));clear ds;have cx:Below ca ca (World.alloc ca (.cells #[af,ae,sp,.slice bg ws d2,.slice bn (fa U ⟨sp,st + 1,cn⟩).length d3] 41)):=bZ ca _
 have aQ:aq (World.alloc ca (.cells #[af,ae,sp,.slice bg ws d2,.slice bn (fa U ⟨sp,st + 1,cn⟩).length d3] 41)) (ca.heap.size) 41 #[af,ae,sp,.slice bg ws d2,.slice bn (fa U ⟨sp,st + 1,cn⟩).length d3]:=by repeat (first | exact aq.new _ _ _ | exact aq.fu _ _ _ _ | exact aq.fx _ _ _ _ _ | exact aq.gb _ _ _ _ _ _ | refine aq.alloc ?_ _)
 generalize World.alloc ca (.cells #[af,ae,sp,.slice bg ws d2,.slice bn (fa U ⟨sp,st + 1,cn⟩).length d3] 41)= oC at *
 replace I:=ah I cx;have bF:=aQ.aP;clear al;replace ad:=ad.to cx;have al:=ad.aP;have bA:=fj.fk;have bq:=fj.fJ;clear fj;have ej:=bA.cA aQ;have dK:=bq.cA aQ;have qO:=aQ.frozen 2
 go_upto_region 5 with fail
 clear al bF
 refine kN 2 fun nx eS=>?_
 replace I:=eS.aE I;replace ad:=eS.dM ad;replace aQ:=eS.Kp aQ;replace bA:=bA.bW eS ej;replace bq:=bq.bW eS dK;have al:=ad.aP;have bF:=aQ.aP;clear ej dK qO;have ej:=bA.cA ad;have dK:=bq.cA ad;have ep:=ad.jn
 go_wp2
 clear al bF
 refine gR 0 fun ux gg=>?_
 replace I:=gg.aE I;replace ad:=gg.iP ad;replace bA:=bA.bW gg ej;replace bq:=bq.bW gg dK;have al:=ad.aP
 exact hg ⟨bg,d2,bn,d3,rfl,⟨bA.base (by omega),bq.base (by omega),bA.apart bq (by decide)⟩,I⟩ (by simp [results,Tryz.results291,go_sem,al])
theorem aaU {p:Prop} (h:p:=by
 refine gR 0 fun cS aC=>?_
 replace I:=aC.aE I;replace ad:=aC.iP ad;have al:=ad.aP
 exact hg ⟨rfl,I⟩ (by simp [results,Tryz.results241,go_sem,al])):p:=h
theorem aqj (af ae sp:Int) (aj:Option Addr) (c2:Nat) (ws:List Int) (ak:Option Addr) (c3:Nat) (U:List aI) (h2:ws.length≤1048576) (h3:U.length≤1048576) (n2:aj= none→ws= []∧c2= 0) (n3:ak= none→U= []∧c3= 0) (cp:ws.length≤c2) (ed:U.length≤c3) (aw:mB ⟨af,ae,sp,ws,U⟩ =false) (w:World) (bj:aH 1 bR w aj ws) (bh:aH 3 aI.cells w ak U):
 Calls Tryz.prog 241 #[.agg #[af,ae,sp,.slice aj ws c2,.slice ak U c3]] w fun e ag=>e= .returned (.tuple #[.agg #[(0:Int),(0:Int),(0:Int),.slice none 0 0,.slice none 0 0],false])∧Below w w ag:=by
 have dX:=J bj;have cO:=J bh;clear bj bh n2 n3 ed
 cases hf:gp af ae sp ws U
 ·have bC:=J hf
  clear hf aw
  go_in
  go_upto_region 1 with fail
  refine fm fun aF au ai ad=>?_
  have I:=au;have aD:=ai.aP;have al:=ad.aP
  go_wp2_with fail
  refine (mR af ae sp aj ws c2 ak c3 U h2 h3 cp _ bC.out _ (dX.out.below (ah I av)) (cO.out.below (ah I av))).mono ?_
  rintro e aM ⟨rfl,aN⟩
  have ao:=be aF aN;replace I:=ah I ao;clear aD;replace ad:=ad.to ao;clear al;have al:=ad.aP;have ep:=ad.jn
  go_wp2
  clear al
  exact aaU
 ·have aX:(sp == 0)= true:=by simpa [mB,ey.ok,hf] using aw
  have bC:=J hf;clear hf aw
  go_in
  go_upto_region 1 with fail
  refine fm fun aF au ai ad=>?_
  have I:=au;have aD:=ai.aP;have al:=ad.aP
  go_wp2_with fail
  refine (mR af ae sp aj ws c2 ak c3 U h2 h3 cp _ bC.out _ (dX.out.below (ah I av)) (cO.out.below (ah I av))).mono ?_
  rintro e aM ⟨rfl,aN⟩
  have ao:=be aF aN;replace I:=ah I ao;replace ai:=ai.to ao;clear aD;have aD:=ai.aP;replace ad:=ad.to ao;clear al;have al:=ad.aP;have ep:=ad.jn
  go_wp2
  clear aD al
  exact aaU
theorem abO {p:Prop} (h:p:=by
 exact⟨bg,d2,bn,d3,rfl,⟨bA.base (by omega),bq.base (by omega),bA.apart bq (by decide)⟩,I⟩):p:=h
theorem aqk (af ae sp:Int) (aj:Option Addr) (c2:Nat) (ws:List Int) (ak:Option Addr) (c3:Nat) (U:List aI) (h2:ws.length≤1048576) (h3:U.length≤1048576) (n2:aj= none→ws= []∧c2= 0) (n3:ak= none→U= []∧c3= 0) (cp:ws.length≤c2) (ed:U.length≤c3) (aw:mB ⟨af,ae,sp,ws,U⟩ =true) (w:World) (bj:aH 1 bR w aj ws) (bh:aH 3 aI.cells w ak U):
 Calls Tryz.prog 241 #[.agg #[af,ae,sp,.slice aj ws c2,.slice ak U c3]] w fun e ag=>∃bg d2 bn d3,e= .returned (.tuple #[.agg #[af,ae,(0:Int),.slice bg ws d2,.slice bn (mZ ⟨af,ae,sp,ws,U⟩).U.length d3],true])∧jR w.heap.size ag bg d2 bn d3 ws (mZ ⟨af,ae,sp,ws,U⟩).U∧Below w w ag:=by
 have dX:=J bj;have cO:=J bh;have je:=J n2;have iV:=J n3;have wY:=J ed;clear bj bh n2 n3 ed
 have gf:(⟨af,ae,sp,ws,U⟩ :ey).ok= true:=by simp only [mB,Bool.and_eq_true] at aw;exact aw.1
 have aX:(sp == 0)= false:=by simp only [mB,Bool.and_eq_true,Bool.not_eq_true'] at aw;exact aw.2
 obtain⟨qk,nk,pH⟩:=Dz gf (beq_eq_false_iff_ne.1 aX)
 have AN:=(ln.1 gf).t
 obtain⟨au,ao,aK⟩:=vr.1 nk
 have la:=KA (xs:=U) (m:=sp)
 obtain⟨⟨dF,st,cn⟩,ld⟩ :∃x,ev U sp= x:=⟨_,rfl⟩
 have FB:tY ⟨af,ae,sp,ws,U⟩ =⟨sp,st + 1,cn⟩:=by simp [tY,ld]
 have e1:(mZ ⟨af,ae,sp,ws,U⟩).U= fa U ⟨sp,st + 1,cn⟩:=by simp [mZ,FB]
 simp only at pH ao aK
 rw [ld] at pH ao aK la
 simp only at pH ao aK la AN
 subst la
 rw [e1]
 have bC:Hid (gp af ae dF ws U= true):=J gf;have mi:=J ld;clear gf aw qk nk au ld FB e1
 go_in
 go_upto_region 1 with fail
 refine fm fun aF au ai ad=>?_
 have I:=au;have aD:=ai.aP;have al:=ad.aP;have gy:=ad.lt
 go_wp2_with fail
 refine (mR af ae dF aj ws c2 ak c3 U h2 h3 cp _ bC.out _ (dX.out.below (ah I av)) (cO.out.below (ah I av))).mono ?_
 rintro e aM ⟨rfl,aN⟩
 have ao:=be aF aN;replace I:=ah I ao;replace ai:=ai.to ao;clear aD;have aD:=ai.aP;replace ad:=ad.to ao;clear al;have al:=ad.aP
 go_wp2_with fail
 refine (Xi af ae dF aj c2 ws ak c3 U h2 h3 je.out iV.out cp wY.out st cn mi.out (by omega) (by omega) _ (dX.out.below (ah I av)) (cO.out.below (ah I av))).mono ?_
 rintro e bB ⟨bg,d2,bn,d3,rfl,ds,bG⟩
 have aK:=be aM bG;replace I:=ah I aK;clear aD;replace ad:=ad.to aK;clear al;have al:=ad.aP;have KH:=ao.size;have bA:=ds.fk;have bq:=ds.fJ;clear ds;have ej:=bA.cA ad;have dK:=bq.cA ad;have ep:=ad.jn
 go_wp2
 clear al
 refine gR 0 fun ux gg=>?_
 replace I:=gg.aE I;replace ad:=gg.iP ad;replace bA:=bA.bW gg ej;replace bq:=bq.bW gg dK;have al:=ad.aP
 refine bodyPost_ret (v:= .tuple #[.agg #[af,ae,(0:Int),.slice bg ws d2,.slice bn (fa U ⟨dF,st + 1,cn⟩).length d3],true]) (by simp [results,Tryz.results241,go_sem,al]) rfl ?_
 exact abO
theorem QM {p:Prop} (h:p:=by
 clear al;have al:=ad.aP;have ep:=ad.jn
 go_wp2
 clear al
 refine gR 0 fun cS aC=>?_
 replace I:=aC.aE I;replace ad:=aC.iP ad;have al:=ad.aP
 exact hg ⟨rfl,I⟩ (by simp [results,Tryz.results238,go_sem,al])):p:=h
theorem adJ {p:Prop} (h:p:=by
 clear al;have al:=ad.aP;have ep:=ad.jn
 go_wp2
 clear aD al
 refine gR 0 fun cS aC=>?_
 replace I:=aC.aE I;replace ad:=aC.iP ad;have al:=ad.aP
 exact hg ⟨rfl,I⟩ (by simp [results,Tryz.results238,go_sem,al])):p:=h
theorem apk (af ae sp:Int) (aj:Option Addr) (c2:Nat) (ws:List Int) (ak:Option Addr) (c3:Nat) (U:List aI) (h2:ws.length≤1048576) (h3:U.length≤1048576) (n2:aj= none→ws= []∧c2= 0) (n3:ak= none→U= []∧c3= 0) (cp:ws.length≤c2) (ed:U.length≤c3) (m:Int) (aw:ob ⟨af,ae,sp,ws,U⟩ m= false) (w:World) (bj:aH 1 bR w aj ws) (bh:aH 3 aI.cells w ak U):
 Calls Tryz.prog 238 #[.agg #[af,ae,sp,.slice aj ws c2,.slice ak U c3],m] w fun e ag=>e= .returned (.tuple #[.agg #[(0:Int),(0:Int),(0:Int),.slice none 0 0,.slice none 0 0],false])∧Below w w ag:=by
 have dX:=J bj;have cO:=J bh;clear bj bh n2 n3 ed
 have qY:(m == sp)= (sp == m):=by rw [Bool.eq_iff_iff,beq_iff_eq,beq_iff_eq];exact eq_comm
 cases gE:gp af ae sp ws U
 case false=>
  have bC:=J gE;clear gE;clear aw qY
  go_in
  go_upto_region 1 with fail
  refine fm fun aF au ai ad=>?_
  have I:=au;have aD:=ai.aP;have al:=ad.aP
  go_wp2_with fail
  refine (mR af ae sp aj ws c2 ak c3 U h2 h3 cp _ bC.out _ (dX.out.below (ah I av)) (cO.out.below (ah I av))).mono ?_
  rintro e aM ⟨rfl,aN⟩
  have ao:=be aF aN;replace I:=ah I ao;clear aD;replace ad:=ad.to ao
  exact QM
 case true=>
  cases gK:eG m
  case false=>
   have bC:=J gE;clear gE;have dR:=J gK;clear gK;clear aw qY
   go_in
   go_upto_region 1 with fail
   refine fm fun aF au ai ad=>?_
   have I:=au;have aD:=ai.aP;have al:=ad.aP
   go_wp2_with fail
   refine (mR af ae sp aj ws c2 ak c3 U h2 h3 cp _ bC.out _ (dX.out.below (ah I av)) (cO.out.below (ah I av))).mono ?_
   rintro e aM ⟨rfl,aN⟩
   have ao:=be aF aN;replace I:=ah I ao;clear aD;replace ad:=ad.to ao;clear al;have al:=ad.aP
   go_wp2_with fail
   refine (iG m _ dR.out _).mono ?_
   rintro e w0 ⟨rfl,h0⟩
   rw [h0]
   clear h0 w0;have ep:=ad.jn
   go_wp2
   clear al
   refine gR 0 fun cS aC=>?_
   replace I:=aC.aE I;replace ad:=aC.iP ad;have al:=ad.aP
   exact hg ⟨rfl,I⟩ (by simp [results,Tryz.results238,go_sem,al])
  case true=>
   cases jD:hasB ws m
   case true=>
    have bC:=J gE;clear gE;have dR:=J gK;clear gK;have jH:=J jD;clear jD;clear aw qY
    go_in
    go_upto_region 1 with fail
    refine fm fun aF au ai ad=>?_
    have I:=au;have aD:=ai.aP;have al:=ad.aP
    go_wp2_with fail
    refine (mR af ae sp aj ws c2 ak c3 U h2 h3 cp _ bC.out _ (dX.out.below (ah I av)) (cO.out.below (ah I av))).mono ?_
    rintro e aM ⟨rfl,aN⟩
    have ao:=be aF aN;replace I:=ah I ao;replace ai:=ai.to ao;clear aD;have aD:=ai.aP;replace ad:=ad.to ao;clear al;have al:=ad.aP
    go_wp2_with fail
    refine (iG m _ dR.out _).mono ?_
    rintro e w0 ⟨rfl,h0⟩
    rw [h0]
    clear h0 w0
    go_wp2_with fail
    refine (zr aj c2 ws m h2 _ jH.out _ (dX.out.below (ah I av))).mono ?_
    rintro e bB ⟨rfl,bG⟩
    have aK:=be aM bG;replace I:=ah I aK;clear aD;replace ad:=ad.to aK
    exact QM
   case false=>
    cases qU:(sp == m)
    case true=>
     have bC:=J gE;clear gE;have dR:=J gK;clear gK;have jH:=J jD;clear jD;clear aw qY
     go_in
     go_upto_region 1 with fail
     refine fm fun aF au ai ad=>?_
     have I:=au;have aD:=ai.aP;have al:=ad.aP
     go_wp2_with fail
     refine (mR af ae sp aj ws c2 ak c3 U h2 h3 cp _ bC.out _ (dX.out.below (ah I av)) (cO.out.below (ah I av))).mono ?_
     rintro e aM ⟨rfl,aN⟩
     have ao:=be aF aN;replace I:=ah I ao;replace ai:=ai.to ao;clear aD;have aD:=ai.aP;replace ad:=ad.to ao;clear al;have al:=ad.aP
     go_wp2_with fail
     refine (iG m _ dR.out _).mono ?_
     rintro e w0 ⟨rfl,h0⟩
     rw [h0]
     clear h0 w0
     go_wp2_with fail
     refine (zr aj c2 ws m h2 _ jH.out _ (dX.out.below (ah I av))).mono ?_
     rintro e bB ⟨rfl,bG⟩
     have aK:=be aM bG;replace I:=ah I aK;replace ai:=ai.to aK;clear aD;have aD:=ai.aP;replace ad:=ad.to aK
     exact adJ
    case false=>
     cases ni:oN af ae (ev U m)
     case false=>
      have bC:=J gE;clear gE;have dR:=J gK;clear gK;have jH:=J jD;clear jD;have cX:=J ni;clear ni;clear aw qY
      go_in
      go_upto_region 1 with fail
      refine fm fun aF au ai ad=>?_
      have I:=au;have aD:=ai.aP;have al:=ad.aP
      go_wp2_with fail
      refine (mR af ae sp aj ws c2 ak c3 U h2 h3 cp _ bC.out _ (dX.out.below (ah I av)) (cO.out.below (ah I av))).mono ?_
      rintro e aM ⟨rfl,aN⟩
      have ao:=be aF aN;replace I:=ah I ao;replace ai:=ai.to ao;clear aD;have aD:=ai.aP;replace ad:=ad.to ao;clear al;have al:=ad.aP
      go_wp2_with fail
      refine (iG m _ dR.out _).mono ?_
      rintro e w0 ⟨rfl,h0⟩
      rw [h0]
      clear h0 w0
      go_wp2_with fail
      refine (zr aj c2 ws m h2 _ jH.out _ (dX.out.below (ah I av))).mono ?_
      rintro e bB ⟨rfl,bG⟩
      have aK:=be aM bG;replace I:=ah I aK;replace ai:=ai.to aK;clear aD;have aD:=ai.aP;replace ad:=ad.to aK;clear al;have al:=ad.aP
      go_wp2_with fail
      refine (AY af ae sp aj ws.length c2 ak c3 U h3 m _ cX.out _ (cO.out.below (ah I av))).mono ?_
      rintro e ca ⟨rfl,cU⟩
      have bS:=be bB cU;replace I:=ah I bS;clear aD;replace ad:=ad.to bS
      exact QM
     case true=>
      have sA:decide (ws.length= 10)= true:=by simpa [ob,ey.ok,qY,gE,gK,jD,qU,ni] using aw
      have bC:=J gE;clear gE;have dR:=J gK;clear gK;have jH:=J jD;clear jD;have cX:=J ni;clear ni
      have cE:((ws.length:Int) == 10)= true:=by have:=of_decide_eq_true sA;rw [this];rfl
      clear sA;clear aw qY
      go_in
      go_upto_region 1 with fail
      refine fm fun aF au ai ad=>?_
      have I:=au;have aD:=ai.aP;have al:=ad.aP
      go_wp2_with fail
      refine (mR af ae sp aj ws c2 ak c3 U h2 h3 cp _ bC.out _ (dX.out.below (ah I av)) (cO.out.below (ah I av))).mono ?_
      rintro e aM ⟨rfl,aN⟩
      have ao:=be aF aN;replace I:=ah I ao;replace ai:=ai.to ao;clear aD;have aD:=ai.aP;replace ad:=ad.to ao;clear al;have al:=ad.aP
      go_wp2_with fail
      refine (iG m _ dR.out _).mono ?_
      rintro e w0 ⟨rfl,h0⟩
      rw [h0]
      clear h0 w0
      go_wp2_with fail
      refine (zr aj c2 ws m h2 _ jH.out _ (dX.out.below (ah I av))).mono ?_
      rintro e bB ⟨rfl,bG⟩
      have aK:=be aM bG;replace I:=ah I aK;replace ai:=ai.to aK;clear aD;have aD:=ai.aP;replace ad:=ad.to aK;clear al;have al:=ad.aP
      go_wp2_with fail
      refine (AY af ae sp aj ws.length c2 ak c3 U h3 m _ cX.out _ (cO.out.below (ah I av))).mono ?_
      rintro e ca ⟨rfl,cU⟩
      have bS:=be bB cU;replace I:=ah I bS;replace ai:=ai.to bS;clear aD;have aD:=ai.aP;replace ad:=ad.to bS
      exact adJ
theorem apl (af ae sp:Int) (aj:Option Addr) (c2:Nat) (ws:List Int) (ak:Option Addr) (c3:Nat) (U:List aI) (h2:ws.length≤1048576) (h3:U.length≤1048576) (n2:aj= none→ws= []∧c2= 0) (n3:ak= none→U= []∧c3= 0) (cp:ws.length≤c2) (ed:U.length≤c3) (m:Int) (aw:ob ⟨af,ae,sp,ws,U⟩ m= true) (w:World) (bj:aH 1 bR w aj ws) (bh:aH 3 aI.cells w ak U):
 Calls Tryz.prog 238 #[.agg #[af,ae,sp,.slice aj ws c2,.slice ak U c3],m] w fun e ag=>∃bg d2 bn d3,e= .returned (.tuple #[.agg #[af,ae,sp,.slice bg (ws ++ [m]).length d2,.slice bn U d3],true])∧jR w.heap.size ag bg d2 bn d3 (ws ++ [m]) U∧Below w w ag:=by
 obtain⟨i0,hi,dy,dC,dN⟩:=info_parts rN
 have dX:=J bj;have cO:=J bh;have je:=J n2;have iV:=J n3;clear bj bh n2 n3 ed
 obtain⟨gE,gK,aX,qU,ni,sA⟩ :gp af ae sp ws U= true∧eG m= true∧(m == sp)= false∧hasB ws m= false∧oN af ae (ev U m)= true∧ws.length≠10:=by
  simpa [ob,ey.ok] using aw
 have aX:(sp == m)= false:=beq_eq_false_iff_ne.2 (fun e=>beq_eq_false_iff_ne.1 aX e.symm);have cE:((ws.length:Int) == 10)= false:=beq_eq_false_iff_ne.2 (by omega);have ph:ws.length≤10:=(ln.1 (show (⟨af,ae,sp,ws,U⟩ :ey).ok= true from gE)).l;have bC:=J gE;have dR:=J gK;have jH:=J qU;have cX:=J ni;clear gE gK qU ni sA aw
 go_in
 go_upto_region 1 with fail
 refine fm fun aF au ai ad=>?_
 have I:=au;have aD:=ai.aP;have al:=ad.aP;have gy:=ad.lt
 go_wp2_with fail
 refine (mR af ae sp aj ws c2 ak c3 U h2 h3 cp _ bC.out _ (dX.out.below (ah I av)) (cO.out.below (ah I av))).mono ?_
 rintro e aM ⟨rfl,aN⟩
 have ao:=be aF aN;replace I:=ah I ao;replace ai:=ai.to ao;clear aD;have aD:=ai.aP;replace ad:=ad.to ao;clear al;have al:=ad.aP
 go_wp2_with fail
 refine (iG m _ dR.out _).mono ?_
 rintro e w0 ⟨rfl,h0⟩
 rw [h0]
 clear h0 w0
 go_wp2_with fail
 refine (zr aj c2 ws m h2 _ jH.out _ (dX.out.below (ah I av))).mono ?_
 rintro e bB ⟨rfl,bG⟩
 have aK:=be aM bG;replace I:=ah I aK;replace ai:=ai.to aK;clear aD;have aD:=ai.aP;replace ad:=ad.to aK;clear al;have al:=ad.aP
 go_wp2_with fail
 refine (AY af ae sp aj ws.length c2 ak c3 U h3 m _ cX.out _ (cO.out.below (ah I av))).mono ?_
 rintro e ca ⟨rfl,cU⟩
 have bS:=be bB cU;replace I:=ah I bS;replace ai:=ai.to bS;clear aD;have aD:=ai.aP;replace ad:=ad.to bS;clear al;have al:=ad.aP
 go_wp2_with fail
 refine (Hc af ae sp aj c2 ws ak c3 U h2 h3 je.out iV.out _ (dX.out.below (ah I av)) (cO.out.below (ah I av))).mono ?_
 rintro e dc ⟨bg,d2,bn,d3,rfl,ds,ei⟩
 have cx:=be ca ei;replace I:=ah I cx;clear aD;replace ad:=ad.to cx;clear al;have al:=ad.aP;have vt:=I.size;have KG:=ao.size;have Qq:=aK.size;have Qr:=bS.size;have ZR:=cx.size
 go_upto_region 4 with fail
 have fj:=ds.later (bZ dc (.cells #[af,ae,sp,.slice bg ws d2,.slice bn U d3] 41));have eD:Below dc dc (World.alloc dc (.cells #[af,ae,sp,.slice bg ws d2,.slice bn U d3] 41)):=bZ dc _
 have aQ:aq (World.alloc dc (.cells #[af,ae,sp,.slice bg ws d2,.slice bn U d3] 41)) (dc.heap.size) 41 #[af,ae,sp,.slice bg ws d2,.slice bn U d3]:=by repeat (first | exact aq.new _ _ _ | exact aq.fu _ _ _ _ | exact aq.fx _ _ _ _ _ | exact aq.gb _ _ _ _ _ _ | refine aq.alloc ?_ _)
 generalize World.alloc dc (.cells #[af,ae,sp,.slice bg ws d2,.slice bn U d3] 41)= oC at *
 replace I:=ah I eD
 obtain⟨dd,dV,dT,en,et⟩:=aQ.aP
 clear al;replace ad:=ad.to eD;have al:=ad.aP;have lK:=aQ.lt;have bA:=fj.fk;have bq:=fj.fJ;have jC:=bA.apart bq (by decide);have oP:=bA.lt;have qV:=bA.cA aQ
 have sC:∀k,(Value.slice bg ws d2).ownBlock= some k→k≠w.heap.size + 1:=fun k az e=>by have:=(oP k az).1;have:=KG;omega
 have hx:=J bA;have ka:=J bq;have cb:=J aQ;have bf:=J ad;have oI:=J jC;have zY:=J qV;have zZ:=J sC;have zX:=J oP;have rA:=J I
 have Gf:ca.heap.size≤oC.heap.size:=by omega
 clear ds fj bA bq jC qV sC oP;have QD:=en;clear dd dV dT en et al
 go_upto_region 5 with ((at_builtin;refine lA rfl _ _ 38 rfl ca.heap.size 3 i0 _ 1 8 Tryz.underlying38 hi dy dC dN rfl (by decide) bR fZ pj _ ws rfl (hx.out.alloc _) ⟨oC.heap.size,0,none⟩ 1 m rfl (aH.one (f:=bR) m _) (by unfold maxLen;omega) (by omega) (by simp;omega) ?_;intro v9 mY kX lq Av;have er:=((cb.out.alloc (.cells #[m] 3)).kG lq (fun e=>zY.out _ e.symm rfl));clear Av;obtain⟨Y,gT,rfl,q1,gr,ns⟩:=kX.form fZ;clear q1 gr ns;replace kX:aV ca 3 1 bR mY (.slice Y (ws.length + 1) gT) (ws ++ [m]):=(by rw [List.length_append] at kX;exact kX);have Je:=er.frozen 3;have ML:=(er.cell 3).trans (show _= some (Value.slice bg ws d2) from rfl)))
 have ez:Below w w mY:=(rA.out.alloc (by omega) (.cells #[m] 3)).grown lq (by simp;omega) (fun q aZ=>by have:=(zX.out q aZ).1;omega);have bQ:=(bf.out.alloc (.cells #[m] 3)).kG lq (fun e=>zZ.out _ e.symm rfl);have bq:=(ka.out.alloc (.cells #[m] 3)).kept lq (fun k az e=>oI.out k e.symm az.symm);have bA:=kX;have qV:=bA.cA er
 have Nc:=bq.cA er;clear aQ ad ai lq kX Je ML QD;replace I:=ez;clear ez;have al:=bQ.aP
 obtain⟨dd,dV,dT,en,et⟩:=er.aP
 have ej:∀k,(Value.slice Y (ws.length + 1) gT).ownBlock= some k→¬k= dc.heap.size:=qV;have dK:∀k,(Value.slice bn U d3).ownBlock= some k→¬k= dc.heap.size:=Nc;clear al dd dV dT en et
 refine kN 3 fun IF jY=>?_
 replace I:=jY.aE I;replace bQ:=jY.dM bQ;replace er:=jY.DD er;replace bA:=bA.bW jY ej;replace bq:=bq.bW jY dK;have al:=bQ.aP
 obtain⟨dd,dV,dT,en,et⟩:=er.aP
 clear ej dK
 have ej:∀k,(Value.slice Y (ws.length + 1) gT).ownBlock= some k→¬k= w.heap.size + 1:=fun k az e=>by have:=(bA.lt k az).1;omega
 have dK:∀k,(Value.slice bn U d3).ownBlock= some k→¬k= w.heap.size + 1:=fun k az e=>by have h:=(bq.lt k az).1;omega
 have CB:=bQ.frozen 0;have CC:=bQ.frozen 1;have CD:=bQ.frozen 2;have CE:=bQ.frozen 3;have CF:=bQ.frozen 4
 go_wp2
 clear al dd dV dT en et
 refine gR 0 fun IG kO=>?_
 replace I:=kO.aE I;replace bQ:=kO.iP bQ;replace er:=kO.dM er;replace bA:=bA.bW kO ej;replace bq:=bq.bW kO dK;have al:=bQ.aP
 refine bodyPost_ret (v:= .tuple #[.agg #[af,ae,sp,.slice Y (ws.length + 1) gT,.slice bn U d3],true]) (by simp [results,Tryz.results238,go_sem,al]) rfl ?_
 have AD:(ws ++ [m]).length= ws.length + 1:=by simp
 rw [AD]
 exact⟨Y,gT,bn,d3,rfl,⟨by rw [AD];exact bA.base (by omega),bq.base (by omega),by rw [AD];exact bA.apart bq (by decide)⟩,I⟩
open Go.RowKit Go.G9
theorem anA {f:ey} {k:Nat} {x y:Int} (ay:f.ws[k]? =some x) (hy:f.ws[ku f k]? =some y):ku f (k + 1)= if (ev f.U x).cZ < (ev f.U y).cZ then k else ku f k:=by
 simp only [ku,ay,hy]
theorem anz {f:ey}:ku f 1= 0:=by have:=Be f 1 (by omega);omega
theorem Xf (af ae sp:Int) (aj:Option Addr) (c2:Nat) (ws:List Int) (ak:Option Addr) (c3:Nat) (U:List aI) (h2:ws.length≤1048576) (h3:U.length≤1048576) (n2:aj= none→ws= []∧c2= 0) (n3:ak= none→U= []∧c3= 0) (cp:ws.length≤c2) (ed:U.length≤c3) (h0:0 < ws.length) (w:World) (bj:aH 1 bR w aj ws) (bh:aH 3 aI.cells w ak U):
 Calls Tryz.prog 268 #[.agg #[af,ae,sp,.slice aj ws c2,.slice ak U c3]] w fun e ag=>e= .returned (.int .i64 (ku ⟨af,ae,sp,ws,U⟩ ws.length))∧Below w w ag:=by
 have dX:=J bj;have cO:=J bh;have je:=J n2;have iV:=J n3;have wY:=J ed;clear bj bh n2 n3 ed
 obtain⟨dz,fk,m0,hA2,uM,_,_⟩:=dX.out.at_ (Below.refl _ _) (k:=0) h0
 subst hA2
 clear je
 go_in
 go_upto_region 1 with fail
 refine cR fun aF au ai=>?_
 have I:=au;have aD:=ai.aP;have Vt:=ai.lt;have cB:=J ai;have pA:=J I;clear ai aD
 go_wp2
 go_loopw [3,4] (fun v i wr=>∃k:Nat,1≤k∧k≤ws.length∧i= .int .i64 k∧v= .int .i64 (ku ⟨af,ae,sp,ws,U⟩ k)∧Below aF aF wr) (fun _ i _=>ws.length - (intOf i).toNat)
 case atStart=>exact⟨1,Nat.le_refl _,h0,rfl,by rw [anz];rfl,Below.refl _ _⟩
 case round=>
  obtain⟨k,uV,az,rfl,rfl,aB⟩:=hrel
  have fR:=cB.out.below aB cB.out.lt;have aD:=aq.kE (fun K:ax wr.heap.size wr=>(fR.below K.below fR.lt));have g3:=(fR.cell 3).trans (show _= some (.slice (some ⟨dz,fk,none⟩) ws c2) from rfl);have qp:=Be ⟨af,ae,sp,ws,U⟩ k (by omega)
  by_cases bl:k < ws.length
  ·have ay:ws[k]? =some ws[k]:=List.getElem?_eq_getElem bl
   have hy:ws[ku ⟨af,ae,sp,ws,U⟩ k]? =some ws[ku ⟨af,ae,sp,ws,U⟩ k]:=List.getElem?_eq_getElem (by omega);have iS:=anA (f:=⟨af,ae,sp,ws,U⟩) ay hy
   simp only at iS
   generalize ws[k]= x at *
   generalize ws[ku ⟨af,ae,sp,ws,U⟩ k]= y at *
   generalize ku ⟨af,ae,sp,ws,U⟩ k= j at *
   obtain⟨⟨dW,iM,xs⟩,ON⟩ :∃s,ev U x= s:=⟨_,rfl⟩
   obtain⟨⟨oF,px,ys⟩,OO⟩ :∃s,ev U y= s:=⟨_,rfl⟩
   rw [ON,OO] at iS
   simp only at iS
   have Sh:=J ON;have Si:=J OO;have BX:=J iS
   have MD:=fun K:ax wr.heap.size wr=>(ye (dX.out.below (ah (ah pA.out aB) K.below)) ay (i:=0) (u:= .int .i64 x) rfl)
   have ss:=fun K:ax wr.heap.size wr=>(ye (dX.out.below (ah (ah pA.out aB) K.below)) hy (i:=0) (u:= .int .i64 y) rfl)
   simp only [Nat.mul_one,Nat.add_zero] at MD ss
   have e1:=fun W=>(show (Instr.field 214 (.agg #[dW,iM,xs]) 1).run Tryz.prog W= .ok (.int .i64 iM) W by kernel_rfl)
   have e2:=fun W=>(show (Instr.field 214 (.agg #[oF,px,ys]) 1).run Tryz.prog W= .ok (.int .i64 px) W by kernel_rfl)
   have Dc:decide ((k:Int) < (ws.length:Int))= true:=decide_eq_true (by omega);clear ON OO iS ay hy
   by_cases cE:iM < px
   ·have OP:decide (iM < px)= true:=decide_eq_true cE
    go_wp2
    clear g3
    refine ew (by kernel_rfl) (by kernel_rfl) ?_
    repeat (go_big_quiet_step (fail))
    go_big_quiet_step ((go_at_call 267;exact ax.call _ (by first | exact Nat.le_refl _ | omega) (vk af ae sp (some ⟨dz,fk,none⟩) ws.length c2 ak c3 U h3 x ⟨dW,iM,xs⟩ Sh.out _ (cO.out.below (ah (ah pA.out aB) (ax.below _))))))
    repeat (go_big_quiet_step (fail))
    go_big_quiet_step ((go_at_call 267;exact ax.call _ (by first | exact Nat.le_refl _ | omega) (vk af ae sp (some ⟨dz,fk,none⟩) ws.length c2 ak c3 U h3 y ⟨oF,px,ys⟩ Si.out _ (cO.out.below (ah (ah pA.out aB) (ax.below _))))))
    repeat (go_big_quiet_step (fail))
    refine wpQuiet_nil ?_
    intro K
    clear aD MD ss e1 e2 OP fR
    go_wp2
    go_roundw
    case rel=>exact⟨k + 1,by omega,by omega,by go_num,by rw [BX.out,if_pos cE],ah aB K.below⟩
    case measure=>simp [intOf];omega
   ·have OP:decide (iM < px)= false:=decide_eq_false cE
    go_wp2
    clear g3
    refine ew (by kernel_rfl) (by kernel_rfl) ?_
    repeat (go_big_quiet_step (fail))
    go_big_quiet_step ((go_at_call 267;exact ax.call _ (by first | exact Nat.le_refl _ | omega) (vk af ae sp (some ⟨dz,fk,none⟩) ws.length c2 ak c3 U h3 x ⟨dW,iM,xs⟩ Sh.out _ (cO.out.below (ah (ah pA.out aB) (ax.below _))))))
    repeat (go_big_quiet_step (fail))
    go_big_quiet_step ((go_at_call 267;exact ax.call _ (by first | exact Nat.le_refl _ | omega) (vk af ae sp (some ⟨dz,fk,none⟩) ws.length c2 ak c3 U h3 y ⟨oF,px,ys⟩ Si.out _ (cO.out.below (ah (ah pA.out aB) (ax.below _))))))
    repeat (go_big_quiet_step (fail))
    refine wpQuiet_nil ?_
    intro K
    clear aD MD ss e1 e2 OP fR
    go_wp2
    go_roundw
    case rel=>exact⟨k + 1,by omega,by omega,by go_num,by rw [BX.out,if_neg (by omega)],ah aB K.below⟩
    case measure=>simp [intOf];omega
  ·obtain rfl:k= ws.length:=by omega
   have Dc:decide ((ws.length:Int) < (ws.length:Int))= false:=decide_eq_false (by omega);clear aD
   go_wp2
   go_ret
   exact⟨rfl,ah pA.out aB⟩
def KM (xs:List Int) (k:Nat):lC (Option Addr×Nat) where
 par:=fun n=>match n with
  | 4=>[0]
  | _=>[]
 val:=fun n p=>match n with
  | 0=> .slice p.1 0 0
  | 4=> .slice p.1 k p.2
  | _=>undef
 post:=fun n bp p cW V=>match n with
  | 0=>p.1= some ⟨cW.heap.size,0,none⟩∧aq V cW.heap.size 3 #[]
  | 4=>∃g bo,(bp 0).1= some ⟨g,0,none⟩∧p.1= some ⟨bo,0,none⟩∧aV g 3 1 bR V (.slice p.1 (xs.take k).length p.2) (xs.take k)
  | _=>True
theorem adH {p:Prop} (h:p:=by
 change wpList _ _ _ (_ ::[]) _ _
 go_wp2
 first | exact ia ⟨(some ⟨hT.world.heap.size,0,none⟩,0),rfl,bZ _ _,rfl,aq.new _ _ _⟩ | exact ia ⟨some ⟨hT.world.heap.size,0,none⟩,0,rfl,bZ _ _,rfl,aq.new _ _ _⟩):p:=h
theorem aaL {p:Prop} (h:p:=by
 first | exact ia ⟨(some ⟨bo,0,none⟩,cM),rfl,eW,gO.heap.size,bo,mj.out,rfl,fB⟩ | exact ia ⟨some ⟨bo,0,none⟩,cM,rfl,eW,gO.heap.size,bo,mj.out,rfl,fB⟩):p:=h
theorem acX {p:Prop} (h:p:=by
 have Um:Below w w HL:=ez.out.grown we Bw (fun q aZ=>by have h9:g5= q:=Option.some.inj aZ;omega)
 refine Ai ((mE.out _).2 Um) (dZ _ _ ?_)
 refine BB ?_
 refine wpQuiet_nil ?_
 change wpQuiet _ _ _ _ (_ ::[]) _
 try simp only [Act.put]
 try go_simp
 repeat (go_big_quiet_step (fail))
 refine wpQuiet_nil ?_
 go_wp2
 go_ret
 exact⟨Y,gT,rfl,xv,Um⟩):p:=h
theorem Xh (A:Option Addr) (c:Nat) (xs:List Int) (aY:xs.length≤1048576) (aE:xs.length≤c) (k:Nat) (az:k < xs.length) (w:World) (R:aH 1 bR w A xs):
 Calls Tryz.prog 269 #[.slice A xs c,k] w fun e ag=>∃bo cM,e= .returned (.slice bo (xs.length - 1) cM)∧aV w 3 1 bR ag (.slice bo (xs.length - 1) cM) (xs.take k ++ xs.drop (k + 1))∧Below w w ag:=by
 obtain⟨i0,hi,dy,dC,dN⟩:=info_parts rN
 obtain⟨b,o,m0,aR,dU,_,_⟩:=R.at_ (Below.refl _ _) (k:=0) (by omega)
 subst aR
 have bJ:=J R;clear R;have nf:Hid ((xs.take k).length= k):=J (by rw [List.length_take];omega);have nM:Hid ((xs.drop (k + 1)).length= xs.length - (k + 1)):=J (by rw [List.length_drop]);have qA:Hid (aH 1 bR w (some ⟨b,o,none⟩) (xs.take k)):=J (DH bJ.out k);have BO:Hid ((xs.take k ++ xs.drop (k + 1)).length= xs.length - 1):=J (by rw [List.length_append,List.length_take,List.length_drop];omega)
 by_cases gK:k + 1= c
 ·subst gK
  replace nM:Hid ((xs.drop (k + 1)).length= 0):=J (by have:=nM.out;omega);have qz:Hid (aH 1 bR w (some ⟨b,o,none⟩) (xs.drop (k + 1))):=J (by rw [List.drop_of_length_le (by omega)];exact aH.nil)
  go_in
  obtain⟨wS,yT⟩ :∃X:World→Prop,∀V,X V↔(Below w w V):=⟨_,fun _=>Iff.rfl⟩
  have mE:=J yT;clear yT
  haveI:Nonempty (cN wS):=⟨⟨w,((mE.out _).2 ((Below.refl _ _)))⟩⟩
  go_upto_region 1 with fail
  refine HQ (KM xs k) wS [([],0),([1,2,3],4)] [5,6,7,8] [([],[],9,false)] [] [10] (by kernel_rfl) (by kernel_rfl) ((mE.out _).2 ((Below.refl _ _).drew)) (fun W eE h k=>((mE.out _).2 (((mE.out _).1 h).trans (k.mono ((mE.out _).1 h).size)))) ?_
  intro bp
  refine iL (some 5) rfl (.slice (bp 0).1 0 0) rfl fun hd eT=>?_
  change wpQuiet _ _ _ _ ([]) _
  refine wpQuiet_nil ?_
  refine⟨fun hT fQ=>?_,eT _ ?_⟩
  ·exact adH
  simp only [Act.put]
  go_simp
  refine iL (some 9) rfl (.slice (bp 4).1 k (bp 4).2) rfl fun hd eT=>?_
  change wpQuiet _ _ _ _ (_ ::_ ::_ ::[]) _
  repeat (go_big_quiet_step (fail))
  refine wpQuiet_nil ?_
  refine⟨fun hT fQ=>?_,eT _ ?_⟩
  ·change wpList _ _ _ (_ ::[]) _ _
   obtain⟨gO,uw,qS,⟨mK,mL⟩,mM⟩:=fQ 0 (by simp [KM])
   have mN:=mL.to mM;have jW:(bp 0).1= some ⟨gO.heap.size,0,none⟩:=mK;have qD:=J (qA.out.below ((mE.out _).1 hT.holds));have qC:=J mN;clear mN mL mK qS mM fQ
   rw [jW]
   have mj:=J jW;clear jW
   go_wp2_with ((at_builtin;refine vx rfl _ _ 38 rfl gO.heap.size 3 i0 _ 1 8 Tryz.underlying38 hi dy dC dN rfl (by decide) bR fZ pj gO.heap.size rfl qC.out (Nat.le_refl _) (some ⟨b,o,none⟩) (k + 1) (xs.take k) k nf.out.symm rfl qD.out (fun h=>by cases h) (by have:=nf.out;unfold maxLen;omega) (by have:=nf.out;omega) ?_;intro bo cM ag fB eW))
   exact aaL
  simp only [Act.put]
  go_simp
  refine tW ?_
  change wpQuiet _ _ _ _ (_ ::_ ::_ ::_ ::[]) _
  repeat (go_big_quiet_step (fail))
  refine wpQuiet_nil ?_
  intro cW V W aW bI
  obtain⟨g0,g5,e0,e5,zx⟩ :∃g bo,(bp 0).1= some ⟨g,0,none⟩∧(bp 4).1= some ⟨bo,0,none⟩∧aV g 3 1 bR (V 4) (.slice (bp 4).1 (xs.take k).length (bp 4).2) (xs.take k):=aW.post 4 (by simp)
  obtain⟨a0,_⟩ :(bp 0).1= some ⟨(cW 0).heap.size,0,none⟩∧aq (V 0) (cW 0).heap.size 3 #[]:=aW.post 0 (by simp)
  have t0:(cW 0).heap.size= g0:=by rw [a0] at e0;exact congrArg Addr.block (Option.some.inj e0)
  have iw:=(zx.later (aW.later 4 (by simp))).base (B':=w.heap.size) (by rw [← t0];exact (aW.nC 0 (by simp)).size);have AH:Below w w W:=(aW.whole 4 (by simp)).rr;have ao:Below w w W:=ah av (aW.whole 4 (by simp)).rr;have I:Below w w W:=ao;clear aW zx a0 e0 t0 bI
  generalize bp 4= vn at *
  obtain⟨Ru,d5⟩:=vn
  simp only at iw e5
  subst e5
  rw [nf.out] at iw
  have Bw:=AH.size;have Vn:=iw.lt g5 rfl;have nc:Hid (aV w 3 1 bR W (.slice g5 k d5) (xs.take k)):=J iw;have ez:=J AH;clear iw
  refine qx fun gz dZ=>?_
  refine wpQuiet_nil ?_
  refine wpQuiet_nil ?_
  change wpList _ _ _ (_ ::[]) _ _
  have yC:=J (qz.out.below ez.out)
  go_wp2_with ((at_builtin;refine KP rfl _ _ 38 rfl w.heap.size 3 i0 _ 1 8 Tryz.underlying38 hi dy dC dN rfl (by decide) bR fZ pj _ (xs.take k) rfl nc.out (some ⟨b,o,none⟩) (0) (xs.drop (k + 1)) (by rw [nM.out];rfl) yC.out (fun h=>by cases h) (by have h1:=nM.out;have h2:=nf.out;rw [h1,h2];unfold maxLen;omega) (by have h1:=nM.out;have h2:=nf.out;rw [h1,h2];omega) Bw ?_;intro v10 HL xv we;obtain⟨Y,gT,aw,q1,gr,ns⟩:=xv.form fZ;clear q1 gr ns;rw [BO.out] at aw;subst aw))
  exact acX
 ·skip
  have qz:Hid (aH 1 bR w (some ⟨b,o + (k + 1),none⟩) (xs.drop (k + 1))):=J (by have h:=HA bJ.out (k + 1);rw [Nat.mul_one] at h;exact h)
  go_in
  obtain⟨wS,yT⟩ :∃X:World→Prop,∀V,X V↔(Below w w V):=⟨_,fun _=>Iff.rfl⟩
  have mE:=J yT;clear yT
  haveI:Nonempty (cN wS):=⟨⟨w,((mE.out _).2 ((Below.refl _ _)))⟩⟩
  go_upto_region 1 with fail
  refine HQ (KM xs k) wS [([],0),([1,2,3],4)] [5,6,7,8] [([],[],9,false)] [] [10] (by kernel_rfl) (by kernel_rfl) ((mE.out _).2 ((Below.refl _ _).drew)) (fun W eE h k=>((mE.out _).2 (((mE.out _).1 h).trans (k.mono ((mE.out _).1 h).size)))) ?_
  intro bp
  refine iL (some 5) rfl (.slice (bp 0).1 0 0) rfl fun hd eT=>?_
  change wpQuiet _ _ _ _ ([]) _
  refine wpQuiet_nil ?_
  refine⟨fun hT fQ=>?_,eT _ ?_⟩
  ·exact adH
  simp only [Act.put]
  go_simp
  refine iL (some 9) rfl (.slice (bp 4).1 k (bp 4).2) rfl fun hd eT=>?_
  change wpQuiet _ _ _ _ (_ ::_ ::_ ::[]) _
  repeat (go_big_quiet_step (fail))
  refine wpQuiet_nil ?_
  refine⟨fun hT fQ=>?_,eT _ ?_⟩
  ·change wpList _ _ _ (_ ::[]) _ _
   obtain⟨gO,uw,qS,⟨mK,mL⟩,mM⟩:=fQ 0 (by simp [KM])
   have mN:=mL.to mM;have jW:(bp 0).1= some ⟨gO.heap.size,0,none⟩:=mK;have qD:=J (qA.out.below ((mE.out _).1 hT.holds));have qC:=J mN;clear mN mL mK qS mM fQ
   rw [jW]
   have mj:=J jW;clear jW
   go_wp2_with ((at_builtin;refine vx rfl _ _ 38 rfl gO.heap.size 3 i0 _ 1 8 Tryz.underlying38 hi dy dC dN rfl (by decide) bR fZ pj gO.heap.size rfl qC.out (Nat.le_refl _) (some ⟨b,o,none⟩) c (xs.take k) k nf.out.symm rfl qD.out (fun h=>by cases h) (by have:=nf.out;unfold maxLen;omega) (by have:=nf.out;omega) ?_;intro bo cM ag fB eW))
   exact aaL
  simp only [Act.put]
  go_simp
  refine tW ?_
  change wpQuiet _ _ _ _ (_ ::_ ::_ ::_ ::[]) _
  repeat (go_big_quiet_step (fail))
  refine wpQuiet_nil ?_
  intro cW V W aW bI
  obtain⟨g0,g5,e0,e5,zx⟩ :∃g bo,(bp 0).1= some ⟨g,0,none⟩∧(bp 4).1= some ⟨bo,0,none⟩∧aV g 3 1 bR (V 4) (.slice (bp 4).1 (xs.take k).length (bp 4).2) (xs.take k):=aW.post 4 (by simp)
  obtain⟨a0,_⟩ :(bp 0).1= some ⟨(cW 0).heap.size,0,none⟩∧aq (V 0) (cW 0).heap.size 3 #[]:=aW.post 0 (by simp)
  have t0:(cW 0).heap.size= g0:=by rw [a0] at e0;exact congrArg Addr.block (Option.some.inj e0)
  have iw:=(zx.later (aW.later 4 (by simp))).base (B':=w.heap.size) (by rw [← t0];exact (aW.nC 0 (by simp)).size);have AH:Below w w W:=(aW.whole 4 (by simp)).rr;have ao:Below w w W:=ah av (aW.whole 4 (by simp)).rr;have I:Below w w W:=ao;clear aW zx a0 e0 t0 bI
  generalize bp 4= vn at *
  obtain⟨Ru,d5⟩:=vn
  simp only at iw e5
  subst e5
  rw [nf.out] at iw
  have Bw:=AH.size;have Vn:=iw.lt g5 rfl;have nc:Hid (aV w 3 1 bR W (.slice g5 k d5) (xs.take k)):=J iw;have ez:=J AH;clear iw
  refine qx fun gz dZ=>?_
  refine wpQuiet_nil ?_
  refine wpQuiet_nil ?_
  change wpList _ _ _ (_ ::[]) _ _
  have yC:=J (qz.out.below ez.out)
  go_wp2_with ((at_builtin;refine KP rfl _ _ 38 rfl w.heap.size 3 i0 _ 1 8 Tryz.underlying38 hi dy dC dN rfl (by decide) bR fZ pj _ (xs.take k) rfl nc.out (some ⟨b,o + (k + 1),none⟩) (c - (k + 1)) (xs.drop (k + 1)) (by rw [nM.out];rfl) yC.out (fun h=>by cases h) (by have h1:=nM.out;have h2:=nf.out;rw [h1,h2];unfold maxLen;omega) (by have h1:=nM.out;have h2:=nf.out;rw [h1,h2];omega) Bw ?_;intro v10 HL xv we;obtain⟨Y,gT,aw,q1,gr,ns⟩:=xv.form fZ;clear q1 gr ns;rw [BO.out] at aw;subst aw))
  exact acX
theorem acu {p:Prop} (h:p:=by
 go_in
 go_upto_region 1 with fail
 refine fm fun aF au ai ad=>?_
 have I:=au;have aD:=ai.aP;have al:=ad.aP;have Vt:=ai.lt;have gy:=ad.lt
 go_wp2_with fail
 refine (mR af ae sp aj ws c2 ak c3 U h2 h3 cp _ bC.out _ (dX.out.below (ah I av)) (cO.out.below (ah I av))).mono ?_
 rintro e aM ⟨rfl,aN⟩
 have ao:=be aF aN;replace I:=ah I ao;replace ai:=ai.to ao;clear aD;have aD:=ai.aP;replace ad:=ad.to ao;clear al;have al:=ad.aP;have ep:=ad.jn;have BD:=ai.lt;have sd:=ad.lt
 go_wp2
 clear aD al
 refine gR 0 fun cS aC=>?_
 replace I:=aC.aE I;replace ai:=aC.dM ai;replace ad:=aC.iP ad;have aqX:=aC.sz;have aD:=ai.aP;have al:=ad.aP
 exact hg ⟨rfl,I⟩ (by simp [results,Tryz.results239,go_sem,al])):p:=h
theorem apW (af ae sp:Int) (aj:Option Addr) (c2:Nat) (ws:List Int) (ak:Option Addr) (c3:Nat) (U:List aI) (h2:ws.length≤1048576) (h3:U.length≤1048576) (n2:aj= none→ws= []∧c2= 0) (n3:ak= none→U= []∧c3= 0) (cp:ws.length≤c2) (ed:U.length≤c3) (aw:mT ⟨af,ae,sp,ws,U⟩ =false) (w:World) (bj:aH 1 bR w aj ws) (bh:aH 3 aI.cells w ak U):
 Calls Tryz.prog 239 #[.agg #[af,ae,sp,.slice aj ws c2,.slice ak U c3]] w fun e ag=>e= .returned (.tuple #[.agg #[(0:Int),(0:Int),(0:Int),.slice none 0 0,.slice none 0 0],(0:Int),false])∧Below w w ag:=by
 have dX:=J bj;have cO:=J bh;have je:=J n2;have iV:=J n3;have wY:=J ed;clear bj bh n2 n3 ed
 cases hf:gp af ae sp ws U
 ·have bC:=J hf
  clear hf aw
  exact acu
 ·cases aX:(sp == 0)
  case false=>
   have GI:(sp != 0)= true:=by rw [bne,aX];rfl
   have bC:=J hf;clear hf aw aX
   exact acu
  case true=>
   have rK:ws.length= 0:=by
    exact abV
   have GI:(sp != 0)= false:=by rw [bne,aX];rfl
   obtain rfl:=List.length_eq_zero_iff.1 rK
   have bC:=J hf;clear hf aw aX rK
   go_in
   go_upto_region 1 with fail
   refine fm fun aF au ai ad=>?_
   have I:=au;have aD:=ai.aP;have al:=ad.aP;have Vt:=ai.lt;have gy:=ad.lt
   go_wp2_with fail
   refine (mR af ae sp aj [] c2 ak c3 U h2 h3 cp _ bC.out _ (dX.out.below (ah I av)) (cO.out.below (ah I av))).mono ?_
   rintro e aM ⟨rfl,aN⟩
   have ao:=be aF aN;replace I:=ah I ao;replace ai:=ai.to ao;clear aD;have aD:=ai.aP;replace ad:=ad.to ao;clear al;have al:=ad.aP;have ep:=ad.jn;have BD:=ai.lt;have sd:=ad.lt
   go_wp2
   clear aD al
   refine gR 0 fun cS aC=>?_
   replace I:=aC.aE I;replace ai:=aC.dM ai;replace ad:=aC.iP ad;have aqX:=aC.sz;have aD:=ai.aP;have al:=ad.aP
   exact hg ⟨rfl,I⟩ (by simp [results,Tryz.results239,go_sem,al])
open Go.RowKit Go.G9
theorem amx (af ae sp:Int) (aj:Option Addr) (c2:Nat) (ws:List Int) (ak:Option Addr) (c3:Nat) (U:List aI) (h2:ws.length≤1048576) (h3:U.length≤1048576) (n2:aj= none→ws= []∧c2= 0) (n3:ak= none→U= []∧c3= 0) (cp:ws.length≤c2) (ed:U.length≤c3) (h0:0 < ws.length) (k:Nat) (az:ku ⟨af,ae,sp,ws,U⟩ ws.length= k) (w:World) (bj:aH 1 bR w aj ws) (bh:aH 3 aI.cells w ak U):
 Calls Tryz.prog 268 #[.agg #[af,ae,sp,.slice aj ws c2,.slice ak U c3]] w fun e ag=>e= .returned k∧Below w w ag:=by
 subst az
 exact Xf af ae sp aj c2 ws ak c3 U h2 h3 n2 n3 cp ed h0 w bj bh
theorem apX (af ae sp:Int) (aj:Option Addr) (c2:Nat) (ws:List Int) (ak:Option Addr) (c3:Nat) (U:List aI) (h2:ws.length≤1048576) (h3:U.length≤1048576) (n2:aj= none→ws= []∧c2= 0) (n3:ak= none→U= []∧c3= 0) (cp:ws.length≤c2) (ed:U.length≤c3) (aw:mT ⟨af,ae,sp,ws,U⟩ =true) (m:Int) (hm:sM ⟨af,ae,sp,ws,U⟩ =some m) (w:World) (bj:aH 1 bR w aj ws) (bh:aH 3 aI.cells w ak U):
 Calls Tryz.prog 239 #[.agg #[af,ae,sp,.slice aj ws c2,.slice ak U c3]] w fun e ag=>∃bg d2 bn d3,e= .returned (.tuple #[.agg #[af,ae,m,.slice bg (ws.filter fun x=>!(x == m)).length d2,.slice bn U d3],m,true])∧jR w.heap.size ag bg d2 bn d3 (ws.filter fun x=>!(x == m)) U∧Below w w ag:=by
 have dX:=J bj;have cO:=J bh;have je:=J n2;have iV:=J n3;have wY:=J ed;clear bj bh n2 n3 ed
 obtain⟨gE,aX,rK⟩ :gp af ae sp ws U= true∧(sp == 0)= true∧0 < ws.length:=by
  simpa [mT,ey.ok] using aw
 have GI:(sp != 0)= false:=by rw [bne,aX];rfl
 have cE:((ws.length:Int) == 0)= false:=beq_eq_false_iff_ne.2 (by omega);have qX:=Be ⟨af,ae,sp,ws,U⟩ ws.length rK
 obtain⟨k,az⟩ :∃k,ku ⟨af,ae,sp,ws,U⟩ ws.length= k:=⟨_,rfl⟩
 have ay:ws[k]? =some m:=by rw [← az];exact hm
 rw [az] at qX
 rw [ahE (ln.1 (show (⟨af,ae,sp,ws,U⟩ :ey).ok= true from gE)).ef ay]
 have jK:(ws.take k ++ ws.drop (k + 1)).length= ws.length - 1:=by rw [List.length_append,List.length_take,List.length_drop];omega
 rw [jK]
 obtain⟨dz,fk,m0,hA2,uM,lf,bk⟩:=dX.out.at_ (Below.refl _ _) (k:=0) rK
 subst hA2
 have bC:=J gE;have fV:=J az;have cb:=J ay;have RO:=J jK;clear gE az ay aw hm aX jK je lf bk;have je:Hid ((some ⟨dz,fk,none⟩ :Option Addr)= none→ws= []∧c2= 0):=J (fun h=>by cases h)
 go_in
 go_upto_region 1 with fail
 refine fm fun aF au ai ad=>?_
 have I:=au;have aD:=ai.aP;have al:=ad.aP;have gy:=ad.lt
 go_wp2_with fail
 refine (mR af ae sp (some ⟨dz,fk,none⟩) ws c2 ak c3 U h2 h3 cp _ bC.out _ (dX.out.below (ah I av)) (cO.out.below (ah I av))).mono ?_
 rintro e aM ⟨rfl,aN⟩
 have ao:=be aF aN;replace I:=ah I ao;replace ai:=ai.to ao;clear aD;have aD:=ai.aP;replace ad:=ad.to ao;clear al;have al:=ad.aP
 go_wp2_with fail
 refine (amx af ae sp (some ⟨dz,fk,none⟩) c2 ws ak c3 U h2 h3 je.out iV.out cp wY.out rK k fV.out _ (dX.out.below (ah I av)) (cO.out.below (ah I av))).mono ?_
 rintro e bB ⟨rfl,bG⟩
 have aK:=be aM bG;replace I:=ah I aK;replace ai:=ai.to aK;clear aD;have aD:=ai.aP;replace ad:=ad.to aK;clear al;have al:=ad.aP
 go_wp2_with fail
 refine (Hc af ae sp (some ⟨dz,fk,none⟩) c2 ws ak c3 U h2 h3 je.out iV.out _ (dX.out.below (ah I av)) (cO.out.below (ah I av))).mono ?_
 rintro e ca ⟨bg,d2,bn,d3,rfl,ds,cU⟩
 have bS:=be bB cU;replace I:=ah I bS;replace ai:=ai.to bS;clear aD;have aD:=ai.aP;replace ad:=ad.to bS;clear al;have al:=ad.aP;have vt:=I.size;have KH:=ao.size;have Qq:=aK.size;have Qr:=bS.size
 go_upto_region 5 with fail
 have bq:=ds.fJ.later (bZ ca (.cells #[af,ae,sp,.slice bg ws d2,.slice bn U d3] 41));clear ds;have cx:Below ca ca (World.alloc ca (.cells #[af,ae,sp,.slice bg ws d2,.slice bn U d3] 41)):=bZ ca _
 have aQ:aq (World.alloc ca (.cells #[af,ae,sp,.slice bg ws d2,.slice bn U d3] 41)) (ca.heap.size) 41 #[af,ae,sp,.slice bg ws d2,.slice bn U d3]:=by repeat (first | exact aq.new _ _ _ | exact aq.fu _ _ _ _ | exact aq.fx _ _ _ _ _ | exact aq.gb _ _ _ _ _ _ | refine aq.alloc ?_ _)
 generalize World.alloc ca (.cells #[af,ae,sp,.slice bg ws d2,.slice bn U d3] 41)= oC at *
 replace I:=ah I cx;have bF:=aQ.aP;clear aD;replace ai:=ai.to cx;have aD:=ai.aP;clear al;replace ad:=ad.to cx;have al:=ad.aP;have oM:=ye (dX.out.below I) cb.out (i:=0) (u:= .int .i64 m) rfl
 simp only [Nat.mul_one,Nat.add_zero] at oM
 have qO:=aQ.frozen 2;have dK:=bq.cA aQ
 go_upto_region 6 with fail
 clear oM;clear aD al bF
 refine kN 2 fun nx eS=>?_
 replace I:=eS.aE I;replace ai:=eS.dM ai;replace ad:=eS.dM ad;replace aQ:=eS.Kp aQ;replace bq:=bq.bW eS dK;have aD:=ai.aP;have al:=ad.aP;have bF:=aQ.aP;clear dK qO;have ara:=aQ.lt
 go_wp2_with fail
 refine (Xh (some ⟨dz,fk,none⟩) c2 ws h2 cp k qX _ (dX.out.below (ah I av))).mono ?_
 rintro e gZ ⟨Y,gT,rfl,ng,pe⟩
 have eD:=be nx pe;replace I:=ah I eD;replace bq:=bq.later eD;replace ai:=ai.to eD;clear aD;have aD:=ai.aP;replace ad:=ad.to eD;clear al;have al:=ad.aP;replace aQ:=aQ.to eD;clear bF;have bF:=aQ.aP;have sv:=aQ.frozen 3
 go_upto_region 7 with fail
 have dK:=bq.cA aQ;have xV:=ng.cA aQ;clear aD al bF
 refine kN 3 fun mo eN=>?_
 replace I:=eN.aE I;replace ai:=eN.dM ai;replace ad:=eN.dM ad;replace aQ:=eN.DD aQ;replace bq:=bq.bW eN dK;replace ng:=ng.bW eN xV;have aD:=ai.aP;have al:=ad.aP;have bF:=aQ.aP;clear dK xV sv
 obtain⟨sU,FM⟩ :∃X:World→Prop,∀V,X V↔(Below w w V∧aq V (w.heap.size) 41 #[af,ae,sp,.slice (some ⟨dz,fk,none⟩) ws c2,.slice ak U c3]∧aq V (ca.heap.size) 41 #[af,ae,m,.slice Y (ws.length - 1) gT,.slice bn U d3]):=⟨_,fun _=>Iff.rfl⟩
 have lO:=J FM;clear FM
 haveI:Nonempty (cN sU):=⟨⟨mo,((lO.out _).2 ⟨I,ai,aQ⟩)⟩⟩
 clear aD;clear al;clear bF;have aD:=aq.kE (fun K:cN sU=>((lO.out _).1 K.holds).2.1);have bF:=aq.kE (fun K:cN sU=>((lO.out _).1 K.holds).2.2)
 have oM:=fun K:cN sU=>ye (dX.out.below ((lO.out _).1 K.holds).1) cb.out (i:=0) (u:= .int .i64 m) rfl
 simp only [Nat.mul_one,Nat.add_zero] at oM
 refine KR sU [([0,1,2,3,4,5],[],6,false)] [] [7,8] (by kernel_rfl) (by kernel_rfl) ((lO.out _).2 ⟨I.drew,ai,aQ⟩) ?_
 refine qx fun K gj=>?_
 change wpQuiet _ _ _ _ (_ ::_ ::_ ::_ ::_ ::_ ::[]) _
 repeat (go_big_quiet_step (fail))
 refine wpQuiet_nil ?_
 refine wpQuiet_nil ?_
 change wpList _ _ _ (_ ::[]) _ _
 have fS:=(Below.refl mo.heap.size mo).drew;replace I:Below w w mo.drew:=I.drew;have bQ:=ad.to fS;have er:=aQ.to fS;have FO:=ai.to fS;replace bq:=bq.later fS;replace ng:=ng.later fS;clear ad aQ ai bF aD fS oM
 generalize mo.drew= Mk at *
 have al:=bQ.aP;have CB:=bQ.frozen 0;have CC:=bQ.frozen 1;have CD:=bQ.frozen 2;have CE:=bQ.frozen 3;have CF:=bQ.frozen 4;have dK:=bq.cA bQ;have xV:=ng.cA bQ
 go_wp2
 clear al
 refine gR 0 fun SE pv=>?_
 replace I:=pv.aE I;replace bQ:=pv.iP bQ;replace FO:=pv.dM FO;replace er:=pv.dM er;replace bq:=bq.bW pv dK;replace ng:=ng.bW pv xV;have al:=bQ.aP
 refine Ai ((lO.out _).2 ⟨I,FO,er⟩) (gj _ _ ?_)
 refine BB ?_
 refine wpQuiet_nil ?_
 change wpQuiet _ _ _ _ (_ ::_ ::[]) _
 repeat (go_big_quiet_step (fail))
 refine wpQuiet_nil ?_
 go_wp2
 refine bodyPost_ret (v:= .tuple #[.agg #[af,ae,m,.slice Y (ws.length - 1) gT,.slice bn U d3],m,true]) (by simp [results,Tryz.results239,go_sem,al]) rfl ?_
 exact⟨Y,gT,bn,d3,rfl,⟨by rw [RO.out];exact ng.base (by omega),bq.base (by omega),by rw [RO.out];exact ng.apart bq (by decide)⟩,I⟩
end Go.Proofs.YtlaaemmmbodaaaaGreatDoor
