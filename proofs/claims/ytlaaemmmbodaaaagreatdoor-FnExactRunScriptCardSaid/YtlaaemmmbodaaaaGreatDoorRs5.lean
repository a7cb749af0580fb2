/- Parts. -/
import Derived.Test.YtlaaemmmbodaaaaGreatDoorRs4
set_option maxHeartbeats 16000000
set_option maxRecDepth 100000
set_option linter.unnecessarySimpa false
set_option linter.unusedSimpArgs false
set_option linter.unusedVariables false
namespace Go.Proofs.YtlaaemmmbodaaaaGreatDoor
open Go.RowKit Go.G9
theorem Ra {p:Prop} (h:p:=by
 clear aq;have aq:=ae.aS;have ez:=ae.jh
 go_wp2
 clear aq
 refine gT 0 fun cQ aD=>?_
 replace I:=aD.aG I;replace ae:=aD.iK ae;have aq:=ae.aS
 exact hc ⟨rfl,I⟩ (by simp [results,Tryz.results258,go_sem,aq])):p:=h
theorem aaV {p:Prop} (h:p:=by
 have ez:=ae.jh
 go_wp2
 clear aF aq
 refine gT 0 fun cQ aD=>?_
 replace I:=aD.aG I;replace ae:=aD.iK ae;have aq:=ae.aS
 exact hc ⟨rfl,I⟩ (by simp [results,Tryz.results258,go_sem,aq])):p:=h
theorem akr (ag af sp:Int) (ak:Option Addr) (c2:Nat) (ws:List Int) (al:Option Addr) (c3:Nat) (ad:List aK) (h2:ws.length≤1048576) (h3:ad.length≤1048576) (n2:ak= none→ws= []∧c2= 0) (n3:al= none→ad= []∧c3= 0) (cm:ws.length≤c2) (m:Int) (az:nP ⟨ag,af,sp,ws,ad⟩ m= false) (w:World) (bm:aJ 1 bU w ak ws) (bl:aJ 3 aK.cells w al ad):
 Calls Tryz.prog 258 #[.agg #[ag,af,sp,.slice ak ws c2,.slice al ad c3],m] w fun e ah=>e= .returned (.tuple #[.agg #[(0:Int),(0:Int),(0:Int),.slice none 0 0,.slice none 0 0],false])∧Below w w ah:=by
 have ea:=J bm;have cS:=J bl;clear bm bl n2 n3
 cases gC:gl ag af sp ws ad
 case false=>
  have bD:=J gC;clear gC;clear az
  go_in
  go_upto_region 1 with fail
  refine fp fun aH av aj ae=>?_
  have I:=av;have aF:=aj.aS;have aq:=ae.aS
  go_wp2_with fail
  refine (mH ag af sp ak ws c2 al c3 ad h2 h3 cm _ bD.out _ (ea.out.U (ai I aw)) (cS.out.U (ai I aw))).mono ?_
  rintro e aQ ⟨rfl,aP⟩
  have ao:=be aH aP;replace I:=ai I ao;clear aF;replace ae:=ae.to ao
  exact Ra
 case true=>
  cases gM:eH m
  case false=>
   have bD:=J gC;clear gC;have dQ:=J gM;clear gM;clear az
   go_in
   go_upto_region 1 with fail
   refine fp fun aH av aj ae=>?_
   have I:=av;have aF:=aj.aS;have aq:=ae.aS
   go_wp2_with fail
   refine (mH ag af sp ak ws c2 al c3 ad h2 h3 cm _ bD.out _ (ea.out.U (ai I aw)) (cS.out.U (ai I aw))).mono ?_
   rintro e aQ ⟨rfl,aP⟩
   have ao:=be aH aP;replace I:=ai I ao;clear aF;replace ae:=ae.to ao;clear aq;have aq:=ae.aS
   go_wp2_with fail
   refine (iN m _ dQ.out _).mono ?_
   rintro e w0 ⟨rfl,h0⟩
   rw [h0]
   clear h0 w0;have ez:=ae.jh
   go_wp2
   clear aq
   refine gT 0 fun cQ aD=>?_
   replace I:=aD.aG I;replace ae:=aD.iK ae;have aq:=ae.aS
   exact hc ⟨rfl,I⟩ (by simp [results,Tryz.results258,go_sem,aq])
  case true=>
   cases jt:(m == sp)
   case true=>
    have bD:=J gC;clear gC;have dQ:=J gM;clear gM;clear az
    go_in
    go_upto_region 1 with fail
    refine fp fun aH av aj ae=>?_
    have I:=av;have aF:=aj.aS;have aq:=ae.aS
    go_wp2_with fail
    refine (mH ag af sp ak ws c2 al c3 ad h2 h3 cm _ bD.out _ (ea.out.U (ai I aw)) (cS.out.U (ai I aw))).mono ?_
    rintro e aQ ⟨rfl,aP⟩
    have ao:=be aH aP;replace I:=ai I ao;replace aj:=aj.to ao;clear aF;have aF:=aj.aS;replace ae:=ae.to ao;clear aq;have aq:=ae.aS
    go_wp2_with fail
    refine (iN m _ dQ.out _).mono ?_
    rintro e w0 ⟨rfl,h0⟩
    rw [h0]
    clear h0 w0
    exact aaV
   case false=>
    cases qL:hasB ws m
    case true=>
     have bD:=J gC;clear gC;have dQ:=J gM;clear gM;have jx:=J qL;clear qL;clear az
     go_in
     go_upto_region 1 with fail
     refine fp fun aH av aj ae=>?_
     have I:=av;have aF:=aj.aS;have aq:=ae.aS
     go_wp2_with fail
     refine (mH ag af sp ak ws c2 al c3 ad h2 h3 cm _ bD.out _ (ea.out.U (ai I aw)) (cS.out.U (ai I aw))).mono ?_
     rintro e aQ ⟨rfl,aP⟩
     have ao:=be aH aP;replace I:=ai I ao;replace aj:=aj.to ao;clear aF;have aF:=aj.aS;replace ae:=ae.to ao;clear aq;have aq:=ae.aS
     go_wp2_with fail
     refine (iN m _ dQ.out _).mono ?_
     rintro e w0 ⟨rfl,h0⟩
     rw [h0]
     clear h0 w0
     go_wp2_with fail
     refine (Ac ak c2 ws m h2 _ jx.out _ (ea.out.U (ai I aw))).mono ?_
     rintro e bA ⟨rfl,bC⟩
     have aL:=be aQ bC;replace I:=ai I aL;clear aF;replace ae:=ae.to aL
     exact Ra
    case false=>
     cases na:oD ag af (eB ad m)
     case false=>
      have bD:=J gC;clear gC;have dQ:=J gM;clear gM;have jx:=J qL;clear qL;have da:=J na;clear na;clear az
      go_in
      go_upto_region 1 with fail
      refine fp fun aH av aj ae=>?_
      have I:=av;have aF:=aj.aS;have aq:=ae.aS
      go_wp2_with fail
      refine (mH ag af sp ak ws c2 al c3 ad h2 h3 cm _ bD.out _ (ea.out.U (ai I aw)) (cS.out.U (ai I aw))).mono ?_
      rintro e aQ ⟨rfl,aP⟩
      have ao:=be aH aP;replace I:=ai I ao;replace aj:=aj.to ao;clear aF;have aF:=aj.aS;replace ae:=ae.to ao;clear aq;have aq:=ae.aS
      go_wp2_with fail
      refine (iN m _ dQ.out _).mono ?_
      rintro e w0 ⟨rfl,h0⟩
      rw [h0]
      clear h0 w0
      go_wp2_with fail
      refine (Ac ak c2 ws m h2 _ jx.out _ (ea.out.U (ai I aw))).mono ?_
      rintro e bA ⟨rfl,bC⟩
      have aL:=be aQ bC;replace I:=ai I aL;replace aj:=aj.to aL;clear aF;have aF:=aj.aS;replace ae:=ae.to aL;clear aq;have aq:=ae.aS
      go_wp2_with fail
      refine (AM ag af sp ak ws.length c2 al c3 ad h3 m _ da.out _ (cS.out.U (ai I aw))).mono ?_
      rintro e cf ⟨rfl,cZ⟩
      have bV:=be bA cZ;replace I:=ai I bV;clear aF;replace ae:=ae.to bV
      exact Ra
     case true=>
      have su:decide (ws.length= 10)= true:=by simpa [nP,eD.ok,gC,gM,jt,qL,na] using az
      have bD:=J gC;clear gC;have dQ:=J gM;clear gM;have jx:=J qL;clear qL;have da:=J na;clear na
      have cA:((ws.length:Int) == 10)= true:=by have:=of_decide_eq_true su;rw [this];rfl
      clear su;clear az
      go_in
      go_upto_region 1 with fail
      refine fp fun aH av aj ae=>?_
      have I:=av;have aF:=aj.aS;have aq:=ae.aS
      go_wp2_with fail
      refine (mH ag af sp ak ws c2 al c3 ad h2 h3 cm _ bD.out _ (ea.out.U (ai I aw)) (cS.out.U (ai I aw))).mono ?_
      rintro e aQ ⟨rfl,aP⟩
      have ao:=be aH aP;replace I:=ai I ao;replace aj:=aj.to ao;clear aF;have aF:=aj.aS;replace ae:=ae.to ao;clear aq;have aq:=ae.aS
      go_wp2_with fail
      refine (iN m _ dQ.out _).mono ?_
      rintro e w0 ⟨rfl,h0⟩
      rw [h0]
      clear h0 w0
      go_wp2_with fail
      refine (Ac ak c2 ws m h2 _ jx.out _ (ea.out.U (ai I aw))).mono ?_
      rintro e bA ⟨rfl,bC⟩
      have aL:=be aQ bC;replace I:=ai I aL;replace aj:=aj.to aL;clear aF;have aF:=aj.aS;replace ae:=ae.to aL;clear aq;have aq:=ae.aS
      go_wp2_with fail
      refine (AM ag af sp ak ws.length c2 al c3 ad h3 m _ da.out _ (cS.out.U (ai I aw))).mono ?_
      rintro e cf ⟨rfl,cZ⟩
      have bV:=be bA cZ;replace I:=ai I bV;replace aj:=aj.to bV;clear aF;have aF:=aj.aS;replace ae:=ae.to bV;clear aq;have aq:=ae.aS
      exact aaV
theorem aks (ag af sp:Int) (ak:Option Addr) (c2:Nat) (ws:List Int) (al:Option Addr) (c3:Nat) (ad:List aK) (h2:ws.length≤1048576) (h3:ad.length≤1048576) (n2:ak= none→ws= []∧c2= 0) (n3:al= none→ad= []∧c3= 0) (cm:ws.length≤c2) (m:Int) (az:nP ⟨ag,af,sp,ws,ad⟩ m= true) (w:World) (bm:aJ 1 bU w ak ws) (bl:aJ 3 aK.cells w al ad):
 Calls Tryz.prog 258 #[.agg #[ag,af,sp,.slice ak ws c2,.slice al ad c3],m] w fun e ah=>∃bk d2 bo d3,e= .returned (.tuple #[.agg #[ag,af,sp,.slice bk (ws ++ [m]).length d2,.slice bo ad d3],true])∧jH w.heap.size ah bk d2 bo d3 (ws ++ [m]) ad∧Below w w ah:=by
 obtain⟨i0,hi,dk,dx,dC⟩:=info_parts rI
 have ea:=J bm;have cS:=J bl;have iY:=J n2;have iR:=J n3;clear bm bl n2 n3
 obtain⟨gC,gM,aZ,qL,na,su⟩ :gl ag af sp ws ad= true∧eH m= true∧(m == sp)= false∧hasB ws m= false∧oD ag af (eB ad m)= true∧ws.length≠10:=by
  simpa [nP,eD.ok] using az
 have cA:((ws.length:Int) == 10)= false:=beq_eq_false_iff_ne.2 (by omega);have pc:ws.length≤10:=(lg.1 (show (⟨ag,af,sp,ws,ad⟩ :eD).ok= true from gC)).l;have bD:=J gC;have dQ:=J gM;have jx:=J qL;have da:=J na;clear gC gM qL na su az
 go_in
 go_upto_region 1 with fail
 refine fp fun aH av aj ae=>?_
 have I:=av;have aF:=aj.aS;have aq:=ae.aS;have gv:=ae.lt
 go_wp2_with fail
 refine (mH ag af sp ak ws c2 al c3 ad h2 h3 cm _ bD.out _ (ea.out.U (ai I aw)) (cS.out.U (ai I aw))).mono ?_
 rintro e aQ ⟨rfl,aP⟩
 have ao:=be aH aP;replace I:=ai I ao;replace aj:=aj.to ao;clear aF;have aF:=aj.aS;replace ae:=ae.to ao;clear aq;have aq:=ae.aS
 go_wp2_with fail
 refine (iN m _ dQ.out _).mono ?_
 rintro e w0 ⟨rfl,h0⟩
 rw [h0]
 clear h0 w0
 go_wp2_with fail
 refine (Ac ak c2 ws m h2 _ jx.out _ (ea.out.U (ai I aw))).mono ?_
 rintro e bA ⟨rfl,bC⟩
 have aL:=be aQ bC;replace I:=ai I aL;replace aj:=aj.to aL;clear aF;have aF:=aj.aS;replace ae:=ae.to aL;clear aq;have aq:=ae.aS
 go_wp2_with fail
 refine (AM ag af sp ak ws.length c2 al c3 ad h3 m _ da.out _ (cS.out.U (ai I aw))).mono ?_
 rintro e cf ⟨rfl,cZ⟩
 have bV:=be bA cZ;replace I:=ai I bV;replace aj:=aj.to bV;clear aF;have aF:=aj.aS;replace ae:=ae.to bV;clear aq;have aq:=ae.aS
 go_wp2_with fail
 refine (Hl ag af sp ak c2 ws al c3 ad h2 h3 iY.out iR.out _ (ea.out.U (ai I aw)) (cS.out.U (ai I aw))).mono ?_
 rintro e dE ⟨bk,d2,g3,d3,rfl,dr,ek⟩
 have cG:=be cf ek;replace I:=ai I cG;clear aF;replace ae:=ae.to cG;clear aq;have aq:=ae.aS;have vp:=I.size;have KR:=ao.size;have QF:=aL.size;have QG:=bV.size;have aae:=cG.size
 go_upto_region 4 with fail
 have eX:=dr.bh (ca dE (.cells #[ag,af,sp,.slice bk ws d2,.slice g3 ad d3] 41));have fb:Below dE dE (World.alloc dE (.cells #[ag,af,sp,.slice bk ws d2,.slice g3 ad d3] 41)):=ca dE _
 have aO:=aC.new dE 41 #[ag,af,sp,.slice bk ws d2,.slice g3 ad d3]
 generalize World.alloc dE (.cells #[ag,af,sp,.slice bk ws d2,.slice g3 ad d3] 41)= om at *
 replace I:=ai I fb
 obtain⟨dj,dY,dV,er,eA⟩:=aO.aS
 clear aq;replace ae:=ae.to fb;have aq:=ae.aS;have kW:=aO.lt;have bF:=eX.fg;have bw:=eX.fF;have js:=bF.apart bw (by decide);have oG:=bF.lt;have qM:=bF.cH aO
 have sw:∀k,(Value.slice bk ws d2).ownBlock= some k→k≠w.heap.size + 1:=fun k ax e=>by have:=(oG k ax).1;have:=KR;omega
 have hs:=J bF;have jV:=J bw;have cg:=J aO;have bj:=J ae;have oy:=J js;have zS:=J qM;have zT:=J sw;have zR:=J oG;have rp:=J I
 have Gd:cf.heap.size≤om.heap.size:=by omega
 clear dr eX bF bw js qM sw oG;have QS:=er;clear dj dY dV er eA aq
 go_upto_region 5 with ((at_builtin;refine kJ rfl _ _ 38 rfl cf.heap.size 3 i0 _ 1 8 Tryz.underlying38 hi dk dx dC rfl (by decide) bU fZ pd _ ws rfl (hs.out.alloc _) ⟨om.heap.size,0,none⟩ 1 m rfl (aJ.one (f:=bU) m _) (by unfold maxLen;omega) (by omega) (by simp;omega) ?_;intro v9 mP kP lh Al;have ec:=((cg.out.alloc (.cells #[m] 3)).jO lh (fun e=>zS.out _ e.symm rfl));clear Al;obtain⟨Y,gV,rfl,q1,gn,nf⟩:=kP.form fZ;clear q1 gn nf;replace kP:aX cf 3 1 bU mP (.slice Y (ws.length + 1) gV) (ws ++ [m]):=(by rw [List.length_append] at kP;exact kP);have Ji:=ec.frozen 3;have MR:=(ec.cell 3).trans (show _= some (Value.slice bk ws d2) from rfl)))
 have eE:Below w w mP:=(rp.out.alloc (by omega) (.cells #[m] 3)).grown lh (by simp;omega) (fun q bf=>by have:=(zR.out q bf).1;omega);have bT:=(bj.out.alloc (.cells #[m] 3)).jO lh (fun e=>zT.out _ e.symm rfl);have bw:=(jV.out.alloc (.cells #[m] 3)).kept lh (fun k ax e=>oy.out k e.symm ax.symm);have bF:=kP;have qM:=bF.cH ec
 have Nj:=bw.xW ec (by decide);clear aO ae aj lh kP Ji MR QS;replace I:=eE;clear eE;have aq:=bT.aS
 obtain⟨dj,dY,dV,er,eA⟩:=ec.aS
 have en:∀k,(Value.slice Y (ws.length + 1) gV).ownBlock= some k→¬k= dE.heap.size:=qM
 have dI:∀k,(Value.slice g3 ad d3).ownBlock= some k→¬k= dE.heap.size:=fun k ax e=>Nj (by have h:g3= k:=Option.some.inj ax;omega)
 clear aq dj dY dV er eA
 refine kG 3 fun IJ jT=>?_
 replace I:=jT.aG I;replace bT:=jT.dJ bT;replace ec:=jT.Dm ec;replace bF:=bF.bY jT en;replace bw:=bw.bY jT dI;have aq:=bT.aS
 obtain⟨dj,dY,dV,er,eA⟩:=ec.aS
 clear en dI
 have en:∀k,(Value.slice Y (ws.length + 1) gV).ownBlock= some k→¬k= w.heap.size + 1:=fun k ax e=>by have:=(bF.lt k ax).1;omega
 have dI:∀k,(Value.slice g3 ad d3).ownBlock= some k→¬k= w.heap.size + 1:=fun k ax e=>by have h:=(bw.lt k ax).1;omega
 have Ce:=bT.frozen 0;have Cf:=bT.frozen 1;have Cg:=bT.frozen 2;have Ch:=bT.frozen 3;have Ci:=bT.frozen 4
 go_wp2
 clear aq dj dY dV er eA
 refine gT 0 fun IK kH=>?_
 replace I:=kH.aG I;replace bT:=kH.iK bT;replace ec:=kH.dJ ec;replace bF:=bF.bY kH en;replace bw:=bw.bY kH dI;have aq:=bT.aS
 refine bodyPost_ret (v:= .tuple #[.agg #[ag,af,sp,.slice Y (ws.length + 1) gV,.slice g3 ad d3],true]) (by simp [results,Tryz.results258,go_sem,aq]) rfl ?_
 have Ar:(ws ++ [m]).length= ws.length + 1:=by simp
 rw [Ar]
 exact⟨Y,gV,some ⟨g3,0,none⟩,d3,rfl,⟨by rw [Ar];exact bF.base (by omega),bw.base (by omega),by rw [Ar];exact bF.apart bw (by decide)⟩,I⟩
theorem adu {p:Prop} (h:p:=by
 rintro e aQ ⟨rfl,aP⟩
 have ao:=be aH aP;replace I:=ai I ao;replace aj:=aj.to ao;clear aF;have aF:=aj.aS;replace ae:=ae.to ao;clear aq;have aq:=ae.aS;have ez:=ae.jh
 go_wp2
 clear aF aq
 refine gT 0 fun cQ aD=>?_
 replace I:=aD.aG I;replace ae:=aD.iK ae;have aq:=ae.aS
 exact hc ⟨rfl,I⟩ (by simp [results,Tryz.results259,go_sem,aq])):p:=h
theorem aco {p:Prop} (h:p:=by
 have:=az
 simp only [mK,eD.ok,hf,aZ,Bool.true_and,decide_eq_false_iff_not] at this
 omega):p:=h
theorem alo (ag af sp:Int) (ak:Option Addr) (c2:Nat) (ws:List Int) (al:Option Addr) (c3:Nat) (ad:List aK) (h2:ws.length≤1048576) (h3:ad.length≤1048576) (n2:ak= none→ws= []∧c2= 0) (n3:al= none→ad= []∧c3= 0) (cm:ws.length≤c2) (az:mK ⟨ag,af,sp,ws,ad⟩ =false) (w:World) (bm:aJ 1 bU w ak ws) (bl:aJ 3 aK.cells w al ad):
 Calls Tryz.prog 259 #[.agg #[ag,af,sp,.slice ak ws c2,.slice al ad c3]] w fun e ah=>e= .returned (.tuple #[.agg #[(0:Int),(0:Int),(0:Int),.slice none 0 0,.slice none 0 0],(0:Int),false])∧Below w w ah:=by
 have ea:=J bm;have cS:=J bl;have iY:=J n2;clear bm bl n2 n3
 cases hf:gl ag af sp ws ad
 ·have bD:=J hf
  clear hf az
  go_in
  go_upto_region 1 with fail
  refine fp fun aH av aj ae=>?_
  have I:=av;have aF:=aj.aS;have aq:=ae.aS
  go_wp2_with fail
  refine (mH ag af sp ak ws c2 al c3 ad h2 h3 cm _ bD.out _ (ea.out.U (ai I aw)) (cS.out.U (ai I aw))).mono ?_
  rintro e aQ ⟨rfl,aP⟩
  have ao:=be aH aP;replace I:=ai I ao;clear aF;replace ae:=ae.to ao;clear aq;have aq:=ae.aS;have ez:=ae.jh
  go_wp2
  clear aq
  refine gT 0 fun cQ aD=>?_
  replace I:=aD.aG I;replace ae:=aD.iK ae;have aq:=ae.aS
  exact hc ⟨rfl,I⟩ (by simp [results,Tryz.results259,go_sem,aq])
 ·cases aZ:(sp == 0)
  case false=>
   have GG:(sp != 0)= true:=by rw [bne,aZ];rfl
   have bD:=J hf;clear hf az aZ
   go_in
   go_upto_region 1 with fail
   refine fp fun aH av aj ae=>?_
   have I:=av;have aF:=aj.aS;have aq:=ae.aS
   go_wp2_with fail
   refine (mH ag af sp ak ws c2 al c3 ad h2 h3 cm _ bD.out _ (ea.out.U (ai I aw)) (cS.out.U (ai I aw))).mono ?_
   exact adu
  case true=>
   have rF:ws.length= 0:=by
    exact aco
   have GG:(sp != 0)= false:=by rw [bne,aZ];rfl
   obtain rfl:=List.length_eq_zero_iff.1 rF
   have bD:=J hf;clear hf az aZ rF
   go_in
   go_upto_region 1 with fail
   refine fp fun aH av aj ae=>?_
   have I:=av;have aF:=aj.aS;have aq:=ae.aS
   go_wp2_with fail
   refine (mH ag af sp ak [] c2 al c3 ad h2 h3 cm _ bD.out _ (ea.out.U (ai I aw)) (cS.out.U (ai I aw))).mono ?_
   exact adu
theorem alp (ag af sp:Int) (ak:Option Addr) (c2:Nat) (ws:List Int) (al:Option Addr) (c3:Nat) (ad:List aK) (h2:ws.length≤1048576) (h3:ad.length≤1048576) (n2:ak= none→ws= []∧c2= 0) (n3:al= none→ad= []∧c3= 0) (cm:ws.length≤c2) (az:mK ⟨ag,af,sp,ws,ad⟩ =true) (m:Int) (hm:sI ⟨ag,af,sp,ws,ad⟩ =some m) (w:World) (bm:aJ 1 bU w ak ws) (bl:aJ 3 aK.cells w al ad):
 Calls Tryz.prog 259 #[.agg #[ag,af,sp,.slice ak ws c2,.slice al ad c3]] w fun e ah=>∃bk d2 bo d3,e= .returned (.tuple #[.agg #[ag,af,m,.slice bk (ws.filter fun x=>!(x == m)).length d2,.slice bo ad d3],m,true])∧jH w.heap.size ah bk d2 bo d3 (ws.filter fun x=>!(x == m)) ad∧Below w w ah:=by
 have ea:=J bm;have cS:=J bl;have iY:=J n2;have iR:=J n3;clear bm bl n2 n3
 obtain⟨gC,aZ,rF⟩ :gl ag af sp ws ad= true∧(sp == 0)= true∧0 < ws.length:=by
  simpa [mK,eD.ok] using az
 have GG:(sp != 0)= false:=by rw [bne,aZ];rfl
 have cA:((ws.length:Int) == 0)= false:=beq_eq_false_iff_ne.2 (by omega);have pc:ws.length≤10:=(lg.1 (show (⟨ag,af,sp,ws,ad⟩ :eD).ok= true from gC)).l;have VK:(kF ⟨ag,af,sp,ws,ad⟩)[0]? =some m:=(aqI rF).trans hm;have zf:(kF ⟨ag,af,sp,ws,ad⟩).length= ws.length:=DA _;have bD:=J gC;have aeC:=J VK;have yy:=J zf;clear gC VK zf az hm aZ
 go_in
 go_upto_region 1 with fail
 refine fp fun aH av aj ae=>?_
 have I:=av;have aF:=aj.aS;have aq:=ae.aS;have gv:=ae.lt
 go_wp2_with fail
 refine (mH ag af sp ak ws c2 al c3 ad h2 h3 cm _ bD.out _ (ea.out.U (ai I aw)) (cS.out.U (ai I aw))).mono ?_
 rintro e aQ ⟨rfl,aP⟩
 have ao:=be aH aP;replace I:=ai I ao;replace aj:=aj.to ao;clear aF;have aF:=aj.aS;replace ae:=ae.to ao;clear aq;have aq:=ae.aS
 go_wp2_with fail
 refine (Hl ag af sp ak c2 ws al c3 ad h2 h3 iY.out iR.out _ (ea.out.U (ai I aw)) (cS.out.U (ai I aw))).mono ?_
 rintro e bA ⟨bk,d2,g3,d3,rfl,dr,bC⟩
 have aL:=be aQ bC;replace I:=ai I aL;replace aj:=aj.to aL;clear aF;have aF:=aj.aS;replace ae:=ae.to aL;clear aq;have aq:=ae.aS;have KR:=ao.size;have KS:=aL.size;have Of:=(dr.fF.lt g3 rfl)
 go_upto_region 4 with fail
 have bw:=dr.fF.bh (ca bA (.cells #[ag,af,sp,.slice bk ws d2,.slice g3 ad d3] 41));clear dr;have bV:Below bA bA (World.alloc bA (.cells #[ag,af,sp,.slice bk ws d2,.slice g3 ad d3] 41)):=ca bA _
 have aO:=aC.new bA 41 #[ag,af,sp,.slice bk ws d2,.slice g3 ad d3]
 generalize World.alloc bA (.cells #[ag,af,sp,.slice bk ws d2,.slice g3 ad d3] 41)= om at *
 replace I:=ai I bV;have bG:=aO.aS;clear aF;replace aj:=aj.to bV;have aF:=aj.aS;clear aq;replace ae:=ae.to bV;have aq:=ae.aS
 go_wp2_with fail
 refine (ZQ ag af sp ak c2 ws al c3 ad h2 h3 iY.out iR.out cm (by omega) _ (ea.out.U (ai I aw)) (cS.out.U (ai I aw))).mono ?_
 rintro e dE ⟨g5,c5,rfl,iw,ek⟩
 have cG:=be om ek;replace I:=ai I cG;replace bw:=bw.bh cG;replace aj:=aj.to cG;clear aF;have aF:=aj.aS;replace ae:=ae.to cG;clear aq;have aq:=ae.aS;replace aO:=aO.to cG;clear bG;have bG:=aO.aS;have asL:=(Hr (show aX _ _ _ _ _ (.slice g5 _ c5) (kF ⟨ag,af,sp,ws,ad⟩) from iw) aeC.out).1
 rw [yy.out]
 clear iw;have qG:=aO.frozen 2
 go_upto_region 5 with fail
 have dI:∀k,(Value.slice g3 ad d3).ownBlock= some k→¬k= bA.heap.size:=fun k ax e=>by have h:=(bw.lt k ax);have h9:g3= k:=Option.some.inj ax;omega
 clear aF aq bG
 refine kG 2 fun nj eU=>?_
 replace I:=eU.aG I;replace aj:=eU.dJ aj;replace ae:=eU.dJ ae;replace aO:=eU.Kt aO;replace bw:=bw.bY eU dI;have aF:=aj.aS;have aq:=ae.aS;have bG:=aO.aS;clear dI qG;have arp:=aO.lt
 go_wp2_with fail
 refine (arV ak c2 ws h2 iY.out m _ (ea.out.U (ai I aw))).mono ?_
 rintro e hX ⟨g7,vS,rfl,mX,pE⟩
 have fb:=be nj pE;replace I:=ai I fb;replace bw:=bw.bh fb;clear aF;replace ae:=ae.to fb;clear aq;have aq:=ae.aS;replace aO:=aO.to fb;clear bG;have bG:=aO.aS;have so:=aO.frozen 3;have aty:=(mX.lt g7 rfl).1
 go_upto_region 6 with fail
 have dI:∀k,(Value.slice g3 ad d3).ownBlock= some k→¬k= bA.heap.size:=fun k ax e=>by have h:=(bw.lt k ax);have h9:g3= k:=Option.some.inj ax;omega
 have xV:∀k,(Value.slice g7 (ws.filter fun x=>!(x == m)).length vS).ownBlock= some k→¬k= bA.heap.size:=fun k ax e=>by have h9:g7= k:=Option.some.inj ax;omega
 clear aq bG
 refine kG 3 fun mb eQ=>?_
 replace I:=eQ.aG I;replace ae:=eQ.dJ ae;replace aO:=eQ.Dm aO;replace bw:=bw.bY eQ dI;replace mX:=mX.bY eQ xV;have aq:=ae.aS;have bG:=aO.aS;clear dI xV so
 haveI:Nonempty (cP (fun V=>aC V bA.heap.size 41 #[ag,af,m,.slice g7 (ws.filter fun x=>!(x == m)).length vS,.slice g3 ad d3])):=⟨⟨mb,aO⟩⟩
 haveI:Nonempty (cP (fun _=>True)):=⟨⟨mb,trivial⟩⟩
 clear bG;have bG:=aC.kz (fun K:cP (fun V=>aC V bA.heap.size 41 #[ag,af,m,.slice g7 (ws.filter fun x=>!(x == m)).length vS,.slice g3 ad d3])=>K.holds)
 refine HR (fun V=>aC V bA.heap.size 41 #[ag,af,m,.slice g7 (ws.filter fun x=>!(x == m)).length vS,.slice g3 ad d3]) [([0,1,2],[],3,false)] [] [4,5] (by kernel_rfl) (by kernel_rfl) aO ?_
 refine pn fun K gg=>?_
 change wpQuiet _ _ _ _ (_ ::_ ::_ ::[]) _
 repeat (go_big_quiet_step (fail))
 refine wpQuiet_nil ?_
 refine wpQuiet_nil ?_
 change wpList _ _ _ (_ ::[]) _ _
 have fR:=(Below.refl mb.heap.size mb).drew;replace I:Below w w mb.drew:=I.drew;have bT:=ae.to fR;have ec:=aO.to fR;replace bw:=bw.bh fR;replace mX:=mX.bh fR;clear ae aO aj bG aq fR
 generalize mb.drew= Ms at *
 have aq:=bT.aS;have Ce:=bT.frozen 0;have Cf:=bT.frozen 1;have Cg:=bT.frozen 2;have Ch:=bT.frozen 3;have Ci:=bT.frozen 4
 have dI:∀k,(Value.slice g3 ad d3).ownBlock= some k→¬k= w.heap.size + 1:=fun k ax e=>by have h9:g3= k:=Option.some.inj ax;omega
 have xV:∀k,(Value.slice g7 (ws.filter fun x=>!(x == m)).length vS).ownBlock= some k→¬k= w.heap.size + 1:=fun k ax e=>by have h9:g7= k:=Option.some.inj ax;omega
 go_wp2
 clear aq
 refine gT 0 fun SK pj=>?_
 replace I:=pj.aG I;replace bT:=pj.iK bT;replace ec:=pj.dJ ec;replace bw:=bw.bY pj dI;replace mX:=mX.bY pj xV;have aq:=bT.aS
 refine yC ec (gg _ _ ?_)
 refine zC ?_
 refine wpQuiet_nil ?_
 change wpQuiet _ _ _ _ (_ ::_ ::[]) _
 repeat (go_big_quiet_step (fail))
 refine wpQuiet_nil ?_
 go_wp2
 refine bodyPost_ret (v:= .tuple #[.agg #[ag,af,m,.slice g7 (ws.filter fun x=>!(x == m)).length vS,.slice g3 ad d3],m,true]) (by simp [results,Tryz.results259,go_sem,aq]) rfl ?_
 exact⟨some ⟨g7,0,none⟩,vS,some ⟨g3,0,none⟩,d3,rfl,⟨mX.base (by omega),bw.base (by omega),mX.apart bw (by decide)⟩,I⟩
open Go.RowKit Go.G9
theorem XB {rs:List aM} {qs:List aN} (h:lR rs qs= true):dF rs qs= true∧jC rs qs= true:=by simpa [lR] using h
theorem He {rs:List aM} {qs:List aN} (h:jC rs qs= true):∃j q,qs.length= j + 1∧qs[j]? =some q:=by
 unfold jC at h
 cases bf:qs[qs.length - 1]? with
 | none=>rw [bf] at h;cases h
 | some q=>
  have:=(List.getElem?_eq_some_iff.1 bf).1
  exact⟨qs.length - 1,q,by omega,bf⟩
theorem ZC {qs:List aN} {j:Nat} {q:aN} (bI:qs.length= j + 1) (bf:qs[j]? =some q):Dv qs= qs.set j ⟨q.fU,q.mover,true⟩:=by
 have e:qs.length - 1= j:=by omega
 unfold Dv
 rw [e,bf]
 dsimp only
 conv=>rhs;rw [amw bI bf]
 rw [List.set_append_right _ _ (by simp;omega)]
 congr 1
 simp
 rw [show j - min j qs.length= 0 by omega];rfl
theorem JY {qs:List aN} {j:Nat} {q:aN} {mem:Int} (bI:qs.length= j + 1) (bf:qs[j]? =some q):Hf qs mem= (q.mover == mem):=by
 unfold Hf;rw [show qs.length - 1= j by omega,bf]
theorem KF {rs:List aM} {qs:List aN} {mem:Int} (h:lR rs qs= false):jS rs qs mem= none:=by
 unfold jS;rw [← Bool.and_assoc,show (dF rs qs && jC rs qs)= false from h];rfl
theorem Zz {rs:List aM} {qs:List aN} {mem:Int} (h:eH mem= false):jS rs qs mem= none:=by simp [jS,h]
theorem ZA {rs:List aM} {qs:List aN} {mem:Int} (h:Hf qs mem= true):jS rs qs mem= none:=by simp [jS,h]
theorem ZB {rs:List aM} {qs:List aN} {mem:Int} (h:lR rs qs= true) (h2:eH mem= true) (h3:Hf qs mem= false):jS rs qs mem= some (Dv qs):=by
 obtain⟨h4,h5⟩:=XB h
 simp [jS,h4,h5,h2,h3]
theorem WN (an:Option Addr) (c0:Nat) (rs:List aM) (h0:rs.length≤1048576) (ga:rs.length≤c0) (ar:Option Addr) (au:Nat) (qs:List aN) (h1:qs.length≤1048576) (aU:ar= none→qs= []∧au= 0) (mem:Int) (w:World) (aW:aJ 7 aM.cells w an rs) (aV:aJ 3 aN.cells w ar qs):Calls Tryz.prog 180 #[.slice an rs c0,.slice ar qs au,mem] w fun e ah=>∃A c,e= .returned (.tuple #[.slice A (iV (jS rs qs mem)).length c,.bool (jS rs qs mem).isSome])∧aX w 115 3 aN.cells ah (.slice A (iV (jS rs qs mem)).length c) (iV (jS rs qs mem))∧Below w w ah:=by
 obtain⟨i0,hi,dk,dx,dC⟩:=info_parts sE
 have tV:=J aU;clear aU
 cases ax:lR rs qs
 ·have fT:=J ax
  rw [KF ax]
  clear ax
  go_in
  go_wp2_with fail
  refine (AS an c0 rs h0 ga ar au qs h1 _ fT.out _ (aW.U aw) (aV.U aw)).mono ?_
  rintro e bg ⟨rfl,bE⟩
  have av:=be w bE;have I:Below w w bg:=av
  go_wp2
  go_ret2
  exact⟨none,0,rfl,aX.nil,(ai I aw)⟩
 cases hm:eH mem
 ·have fT:=J ax;have dQ:=J hm
  rw [Zz hm]
  clear ax hm
  go_in
  go_wp2_with fail
  refine (AS an c0 rs h0 ga ar au qs h1 _ fT.out _ (aW.U aw) (aV.U aw)).mono ?_
  exact adW
 obtain⟨j,⟨qr,cp,dy⟩,bI,bf⟩:=He (XB ax).2
 obtain⟨ey,gN,_,rfl,_,_,_⟩:=aV.at_ (Below.refl _ _) (k:=j) (by omega)
 have eI:=J bI;have dc:=J bf
 have ie:j≤1048576:=by omega
 have da:=J (fun W (h:aJ 7 aM.cells W an rs) (dv:aJ 3 aN.cells W (some ⟨ey,gN,none⟩) qs)=>AS an c0 rs h0 ga (some ⟨ey,gN,none⟩) au qs h1 _ ax W h dv)
 cases aZ:cp == mem
 case true=>
  have dQ:=J hm
  rw [ZA ((JY bI bf).trans aZ)]
  rw [bI] at da ⊢
  clear ax hm bI bf h1
  go_in
  go_wp2_with fail
  refine (da.out _ (aW.U aw) (aV.U aw)).mono ?_
  rintro e bg ⟨rfl,bE⟩
  have av:=be w bE;have I:Below w w bg:=av;replace aV:=aV.U av
  go_wp2_with fail
  refine (iN mem _ dQ.out _).mono ?_
  rintro e w0 ⟨rfl,h0⟩
  rw [h0]
  clear h0 w0
  obtain⟨_,_,y,e9,fR,hy,dh⟩:=aV.at_ (Below.refl _ _) (k:=j) (by have:=eI.out;omega)
  cases e9
  obtain rfl:(⟨qr,cp,dy⟩ :aN)= y:=Option.some.inj (dc.out.symm.trans hy)
  clear hy;have cy:=dh 0 _ rfl;have dD:=dh 1 _ rfl;have di:=dh 2 _ rfl
  simp only [Nat.add_zero] at cy
  have g0:=cy (aB.self _);have g1:=dD (aB.self _);have g2:=di (aB.self _)
  simp only [aB.self] at g0
  simp only [aB.self] at g1
  simp only [aB.self] at g2
  clear dh cy dD di
  go_wp2
  go_ret2
  exact⟨none,0,rfl,aX.nil,(ai I aw)⟩
 case false=>
  have dQ:=J hm
  rw [ZB ax hm ((JY bI bf).trans aZ),ZC bI bf]
  have mE:(qs.set j ⟨qr,cp,true⟩).length= j + 1:=by rw [List.length_set,bI]
  have Ed:=J mE
  rw [bI] at da ⊢
  clear ax hm bI bf h1 mE
  go_in
  go_wp2_with fail
  refine (da.out _ (aW.U aw) (aV.U aw)).mono ?_
  rintro e bg ⟨rfl,bE⟩
  have av:=be w bE;have I:Below w w bg:=av;replace aV:=aV.U av
  go_wp2_with fail
  refine (iN mem _ dQ.out _).mono ?_
  rintro e w0 ⟨rfl,h0⟩
  rw [h0]
  clear h0 w0
  obtain⟨_,_,y,e9,fR,hy,dh⟩:=aV.at_ (Below.refl _ _) (k:=j) (by have:=eI.out;omega)
  cases e9
  obtain rfl:(⟨qr,cp,dy⟩ :aN)= y:=Option.some.inj (dc.out.symm.trans hy)
  clear hy;have cy:=dh 0 _ rfl;have dD:=dh 1 _ rfl;have di:=dh 2 _ rfl
  simp only [Nat.add_zero] at cy
  have g0:=cy (aB.self _);have g1:=dD (aB.self _);have g2:=di (aB.self _)
  simp only [aB.self] at g0
  simp only [aB.self] at g1
  simp only [aB.self] at g2
  clear dh cy dD di;have gh:=J (fun e u=>(aV.U (ca bg (.cells #[] e))):∀(e:TypeId) (u:Unit),aJ 3 aN.cells (bg.alloc (.cells #[] e)) (some ⟨ey,gN,none⟩) qs);have tF:=I.size
  go_wp2_with ((at_builtin;refine vu rfl _ _ 37 rfl bg.heap.size 115 i0 _ 3 24 Tryz.underlying37 hi dk dx dC rfl (by decide) aN.cells jE tz bg.heap.size rfl (aC.new _ _ _) (Nat.le_refl _) (some ⟨ey,gN,none⟩) au qs (j + 1) eI.out.symm rfl (gh.out _ ()) (fun h=>by cases h) (by have:=eI.out;unfold maxLen;omega) (by have:=eI.out;omega) ?_;intro br cO ng fz eZ;have nY:Below bg bg ng:=ai (ca _ _) eZ;have QD:=nY.size;have Jv:=(fz.lt br rfl).2;have aiY:=AZ fz jE (j:=j) (i:=2) (by have:=eI.out;omega) (by decide);have atK:=qm fz jE dc.out (i:=2) (u:= .bool dy) rfl))
  have aij:=Ba fz jE (y:=⟨qr,cp,true⟩) (u:= .bool true) (i:=2) dc.out (by decide) rfl;have ry:Below bg bg (ng.setCell ⟨br,j * 3 + 2,none⟩ (.bool true)):=nY.setCell (by have:=(fz.lt br rfl).1;exact this) _
  go_wp2
  go_ret2
  refine⟨some ⟨br,0,none⟩,cO,by simp only [iV,Option.getD_some,Ed.out];rfl,?_,ai I ry⟩
  have xr:=aij.base (by omega:w.heap.size≤_);have e9:=Ed.out
  simp only [iV,Option.getD_some]
  rw [e9]
  first | exact xr | (have e8:=eI.out;rw [e8] at xr;exact xr)
theorem TS {rs:List aM} {qs:List aN} (h:dF rs qs= false):lB rs qs= none:=by simp [lB,h]
theorem MJ {rs:List aM} {qs:List aN} (h:dF rs qs= true) (h2:jC rs qs= false):lB rs qs= some qs:=by simp [lB,vT,h,h2]
theorem TR {rs:List aM} {qs:List aN} (h:dF rs qs= true) (h2:jC rs qs= true):lB rs qs= some (qs.take (qs.length - 1)):=by simp [lB,vT,h,h2]
theorem acB {p:Prop} (h:p:=by
 obtain⟨gK,cO,gy,aG,_,_⟩:=h.form hf
 injection gy with _ _ e3
 subst e3;exact aG):p:=h
theorem anE {T:Type} {sz:Nat} {f:T→List Value} {B:Nat} {e:TypeId} {w:World} {A:Option Addr} {n c:Nat} {xs:List T} (h:aX B e sz f w (.slice A n c) xs) (hf:∀y,(f y).length= sz):xs.length≤c:=by
 exact acB
theorem Ul {T V:Type} {sz:Nat} {f:T→List V} (hf:∀y,(f y).length= sz):∀(xs:List T) (k:Nat),(xs.take k).flatMap f= (xs.flatMap f).take (k * sz)
 | [],k=>by simp
 | x ::xs,0=>by simp
 | x ::xs,k + 1=>by
  have eP:=Ul hf xs k
  have ax:(k + 1) * sz= sz + k * sz:=by rw [Nat.succ_mul];omega
  simp only [List.take_succ_cons,List.flatMap_cons]
  rw [eP,ax,List.take_append,hf,List.take_of_length_le (l:=f x) (by rw [hf];omega)]
  congr 2
  omega
theorem anH {T:Type} {B:Nat} {e:TypeId} {sz:Nat} {f:T→List Value} {w:World} {g n c:Nat} {xs:List T} (h:aX B e sz f w (.slice g n c) xs) (hf:∀y,(f y).length= sz) {k:Nat} (ax:k≤xs.length):aX B e sz f w (.slice g k c) (xs.take k):=by
 obtain⟨aT,h⟩:=h
 have hlen:(xs.take k).length= k:=by rw [List.length_take];omega
 have CB:(xs.take k).flatMap f= (xs.flatMap f).take (k * sz):=Ul hf xs k
 unfold aX
 rw [hlen,CB]
 refine⟨by rw [List.length_take,aT];have:=Nat.mul_le_mul_right sz ax;omega,?_⟩
 rcases h with ⟨e0,_⟩ | ⟨br,cap,cur,e0,bp,dM,mG,jQ,hM,xC⟩
 ·cases e0
 ·injection e0 with e1 e2 e3
  cases e1;subst e3
  refine .inr ⟨_,c,cur,rfl,bp,dM,by omega,jQ,hM,?_⟩
  rw [← xC,List.take_take]
  congr 1
  have:=Nat.mul_le_mul_right sz ax
  omega
theorem akC (an:Option Addr) (c0:Nat) (rs:List aM) (h0:rs.length≤1048576) (ga:rs.length≤c0) (ar:Option Addr) (au:Nat) (qs:List aN) (h1:qs.length≤1048576) (aU:ar= none→qs= []∧au= 0) (w:World) (aW:aJ 7 aM.cells w an rs) (aV:aJ 3 aN.cells w ar qs):Calls Tryz.prog 256 #[.slice an rs c0,.slice ar qs au] w fun e ah=>∃A c,e= .returned (.tuple #[.slice A (iV (lB rs qs)).length c,.bool (lB rs qs).isSome])∧aX w 115 3 aN.cells ah (.slice A (iV (lB rs qs)).length c) (iV (lB rs qs))∧Below w w ah:=by
 obtain⟨i0,hi,dk,dx,dC⟩:=info_parts sE
 have tV:=J aU;clear aU
 cases aR:dF rs qs
 ·have ei:=J aR
  rw [TS aR]
  exact adP
 cases aT:jC rs qs
 ·have ei:=J aR
  have fT:Hid (lR rs qs= false):=J (by simp [lR,aT])
  rw [MJ aR aT]
  clear aR aT
  go_in
  go_wp2_with fail
  refine (nr an c0 rs h0 ga ar au qs h1 _ ei.out _ (aW.U aw) (aV.U aw)).mono ?_
  rintro e bg ⟨rfl,bE⟩
  have av:=be w bE;have I:Below w w bg:=av;replace aW:=aW.U av;replace aV:=aV.U av;have aU:=tV.out;have gh:=J (fun e u=>(aV.U (ca bg (.cells #[] e))):∀(e:TypeId) (u:Unit),aJ 3 aN.cells (bg.alloc (.cells #[] e)) ar qs);have tF:=I.size;have Eo:=J (fun W bK=>⟨aW.U bK,aV.U bK⟩ :∀W,Below bg bg W→aJ 7 aM.cells W an rs∧aJ 3 aN.cells W ar qs)
  go_wp2_with ((first
   | (at_builtin;refine zB rfl _ _ 37 rfl bg.heap.size 115 i0 _ 3 24 Tryz.underlying37 hi dk dx dC rfl (by decide) aN.cells jE tz bg.heap.size rfl (aC.new _ _ _) (Nat.le_refl _) ar au qs rfl (gh.out _ ()) aU (by unfold maxLen;omega) (by omega) ?_;intro br cO ng fz eZ;have nY:Below bg bg ng:=ai (ca _ _) eZ;have QD:=nY.size;clear aU)))
  refine (AS an c0 rs h0 ga ar au qs h1 _ fT.out _ (Eo.out _ nY).1 (Eo.out _ nY).2).mono ?_
  rintro e DD ⟨rfl,xv⟩
  go_wp2
  go_ret2
  exact⟨some ⟨br,0,none⟩,cO,rfl,(fz.bh xv).base (by omega),ai I (ai nY xv)⟩
 ·have fT:Hid (lR rs qs= true):=J (by simp [lR,aR,aT])
  obtain⟨j,q,bI,bf⟩:=He aT
  rw [TR aR aT]
  have eI:=J bI
  have ie:j≤1048576:=by omega
  have da:=J (fun W h dv=>nr an c0 rs h0 ga ar au qs h1 _ aR W h dv);have cD:=J (fun W h dv=>AS an c0 rs h0 ga ar au qs h1 _ fT.out W h dv)
  have bn:(qs.take (qs.length - 1)).length= j:=by rw [List.length_take];omega
  have mT:=J bn
  have e1:qs.length - 1= j:=by omega
  rw [e1] at mT ⊢
  rw [bI] at da cD ⊢
  clear aR aT bI bf bn e1 h1
  go_in
  go_wp2_with fail
  refine (da.out _ (aW.U aw) (aV.U aw)).mono ?_
  rintro e bg ⟨rfl,bE⟩
  have av:=be w bE;have I:Below w w bg:=av;replace aW:=aW.U av;replace aV:=aV.U av;have aU:=tV.out;have gh:=J (fun e u=>(aV.U (ca bg (.cells #[] e))):∀(e:TypeId) (u:Unit),aJ 3 aN.cells (bg.alloc (.cells #[] e)) ar qs);have tF:=I.size;have Eo:=J (fun W bK=>⟨aW.U bK,aV.U bK⟩ :∀W,Below bg bg W→aJ 7 aM.cells W an rs∧aJ 3 aN.cells W ar qs)
  go_wp2_with ((first
   | (at_builtin;refine vu rfl _ _ 37 rfl bg.heap.size 115 i0 _ 3 24 Tryz.underlying37 hi dk dx dC rfl (by decide) aN.cells jE tz bg.heap.size rfl (aC.new _ _ _) (Nat.le_refl _) ar au qs (j + 1) eI.out.symm rfl (gh.out _ ()) aU (by have:=eI.out;unfold maxLen;omega) (by have:=eI.out;omega) ?_;intro br cO ng fz eZ;have nY:Below bg bg ng:=ai (ca _ _) eZ;have QD:=nY.size;clear aU)))
  have Vq:=anE fz jE
  have nZ:j + 1≤cO:=by have:=eI.out;omega
  clear Vq
  refine (cD.out _ (Eo.out _ nY).1 (Eo.out _ nY).2).mono ?_
  rintro e DD ⟨rfl,xv⟩
  have dp:=J fz;clear fz
  go_wp2
  go_ret2
  refine⟨some ⟨br,0,none⟩,cO,by simp only [iV,Option.getD_some,mT.out];rfl,?_,ai I (ai nY xv)⟩
  have xr:=anH ((dp.out.bh xv).base (by omega:w.heap.size≤_)) jE (k:=j) (by have:=eI.out;omega)
  simp only [iV,Option.getD_some]
  rw [mT.out]
  exact xr
open Go.RowKit Go.G9
theorem Dr {T:Type} {sz:Nat} {f:T→List Value} {w:World} {A:Option Addr} {xs:List T} (h:aJ sz f w A xs) (k:Nat):aJ sz f w A (xs.take k):=by
 intro bd
 have Wc:0 < xs.length:=by rw [List.length_take] at bd;omega
 obtain⟨b,off,aU,bn,aG⟩:=h Wc
 exact⟨b,off,aU,bn,fun i x ay=>aG i x (by rw [List.getElem?_take] at ay;split at ay;exact ay;cases ay)⟩
theorem aav {rs:List aM} {qs:List aN} {mem:Int} (h:dF rs qs= false):ks rs qs mem= none:=by simp [ks,h]
theorem arS {rs:List aM} {qs:List aN} {mem:Int} (aR:dF rs qs= true) (h:eH mem= false):ks rs qs mem= none:=by
 unfold ks
 rw [if_pos aR]
 cases hw:oo qs mem qs.length with
 | none=>rfl
 | some j=>
  obtain⟨q,bf,hm⟩:=QL hw
  have:=Yt aR bf
  rw [hm,h] at this;cases this
theorem aaw {rs:List aM} {qs:List aN} {mem:Int} (aR:dF rs qs= true):ks rs qs mem= (oo qs mem qs.length).map (fun k=>qs.take k):=by unfold ks;rw [if_pos aR]
theorem arR {qs:List aN} {mem:Int} {j:Nat} {q:aN} (bf:qs[j]? =some q) (h:(q.mover == mem)= true):oo qs mem (j + 1)= some j:=by simp [oo,bf,h]
theorem arQ {qs:List aN} {mem:Int} {j:Nat} {q:aN} (bf:qs[j]? =some q) (h:(q.mover == mem)= false):oo qs mem (j + 1)= oo qs mem j:=by simp [oo,bf,h]
theorem ado {p:Prop} (h:p:=by
 obtain⟨j,xy⟩ :∃j,k= j + 1:=⟨k - 1,by omega⟩
 have e1:(k:Int) - 1= (j:Int):=by omega
 rw [e1]
 subst xy
 have ajj:j < qs.length:=by omega
 clear e1 h0
 obtain⟨ey,gN,⟨qr,cp,dy⟩,rfl,dU,bf,nZ⟩:=gh.out.at_ aE (k:=j) ajj
 have cy:=nZ 0 _ rfl;have dD:=nZ 1 _ rfl;have di:=nZ 2 _ rfl
 simp only [Nat.add_zero] at cy
 have g0:=cy (aB.self _);have g1:=dD (aB.self _);have g2:=di (aB.self _)
 simp only [aB.self] at g0
 simp only [aB.self] at g1
 simp only [aB.self] at g2
 have dc:=J bf;clear bf nZ cy dD di
 cases aZ:cp == mem
 ·have gp:=J (nB.out.trans (arQ dc.out aZ))
  go_wp2
  go_roundw
  case rel=>exact⟨j,by omega,by go_num,gp.out,aE⟩
  case measure=>(simp [intOf] <;> omega)
 ·have gp:=J (nB.out.trans (arR dc.out aZ))
  have Oi:j≤au:=by omega
  have bn:(qs.take j).length= j:=by rw [List.length_take];omega
  have mT:=J bn;clear bn;have qt:=J (fun e u=>((Dr (gh.out.U aE) j).U (ca wr (.cells #[] e))):∀(e:TypeId) (u:Unit),aJ 3 aN.cells (wr.alloc (.cells #[] e)) _ (qs.take j))
  go_wp2_with ((at_builtin;refine vu rfl _ _ 37 rfl wr.heap.size 115 i0 _ 3 24 Tryz.underlying37 hi dk dx dC rfl (by decide) aN.cells jE tz wr.heap.size rfl (aC.new _ _ _) (Nat.le_refl _) (some ⟨ey,gN,none⟩) au (qs.take j) j mT.out.symm rfl (qt.out _ ()) (fun h=>by cases h) (by have:=mT.out;unfold maxLen;omega) (by have:=mT.out;omega) ?_;intro br cO ng fz eZ))
  have nY:Below wr wr ng:=ai (ca _ _) eZ
  go_wp2
  go_ret2
  rw [gp.out]
  refine⟨some ⟨br,0,none⟩,cO,by simp only [iV,Option.map_some,Option.getD_some,mT.out];rfl,?_,ai I (ai aE nY)⟩
  have xr:=fz.base (by omega:w.heap.size≤_)
  simp only [iV,Option.map_some,Option.getD_some]
  exact xr):p:=h
theorem WO (an:Option Addr) (c0:Nat) (rs:List aM) (h0:rs.length≤1048576) (ga:rs.length≤c0) (ar:Option Addr) (au:Nat) (qs:List aN) (h1:qs.length≤1048576) (hU:qs.length≤au) (mem:Int) (w:World) (aW:aJ 7 aM.cells w an rs) (aV:aJ 3 aN.cells w ar qs):Calls Tryz.prog 255 #[.slice an rs c0,.slice ar qs au,mem] w fun e ah=>∃A c,e= .returned (.tuple #[.slice A (iV (ks rs qs mem)).length c,.bool (ks rs qs mem).isSome])∧aX w 115 3 aN.cells ah (.slice A (iV (ks rs qs mem)).length c) (iV (ks rs qs mem))∧Below w w ah:=by
 obtain⟨i0,hi,dk,dx,dC⟩:=info_parts sE
 cases aR:dF rs qs
 ·have ei:=J aR
  rw [aav aR]
  clear aR
  go_in
  go_wp2_with fail
  refine (nr an c0 rs h0 ga ar au qs h1 _ ei.out _ (aW.U aw) (aV.U aw)).mono ?_
  rintro e bg ⟨rfl,bE⟩
  have av:=be w bE;have I:Below w w bg:=av;replace aW:=aW.U av;replace aV:=aV.U av
  go_wp2
  go_ret2
  exact⟨none,0,rfl,aX.nil,(ai I aw)⟩
 cases hm:eH mem
 ·have ei:=J aR;have dQ:=J hm
  rw [arS aR hm]
  clear aR hm
  go_in
  go_wp2_with fail
  refine (nr an c0 rs h0 ga ar au qs h1 _ ei.out _ (aW.U aw) (aV.U aw)).mono ?_
  rintro e bg ⟨rfl,bE⟩
  have av:=be w bE;have I:Below w w bg:=av;replace aW:=aW.U av;replace aV:=aV.U av
  go_wp2_with fail
  refine (iN mem _ dQ.out _).mono ?_
  rintro e w0 ⟨rfl,h0⟩
  rw [h0]
  clear h0 w0
  go_wp2
  go_ret2
  exact⟨none,0,rfl,aX.nil,(ai I aw)⟩
 have ei:=J aR;have dQ:=J hm
 rw [aaw aR]
 clear aR hm
 go_in
 go_wp2_with fail
 refine (nr an c0 rs h0 ga ar au qs h1 _ ei.out _ (aW.U aw) (aV.U aw)).mono ?_
 rintro e bg ⟨rfl,bE⟩
 have av:=be w bE;have I:Below w w bg:=av;replace aW:=aW.U av;replace aV:=aV.U av
 go_wp2_with fail
 refine (iN mem _ dQ.out _).mono ?_
 rintro e w0 ⟨rfl,h0⟩
 rw [h0]
 clear h0 w0;have tF:=I.size;have gh:=J aV;clear aW aV
 go_wp2
 go_loopw [8] (fun i wr=>∃k:Nat,k≤qs.length∧i= .int .i64 ((k:Int) - 1)∧oo qs mem qs.length= oo qs mem k∧Below bg bg wr) (fun i _=>(intOf i + 1).toNat)
 case atStart=>exact⟨qs.length,Nat.le_refl _,rfl,rfl,Below.refl _ _⟩
 case round=>
  obtain⟨k,ax,rfl,hw,aE⟩:=hrel
  have nB:=J hw;clear hw;have aad:=aE.size
  by_cases h0:0 < k
  ·exact ado
  ·obtain rfl:k= 0:=by omega
   have gp:Hid (oo qs mem qs.length= none):=J nB.out
   go_wp2
   go_ret2
   rw [gp.out]
   exact⟨none,0,rfl,aX.nil,ai I aE⟩
open Go.RowKit Go.G9
theorem HB {T:Type} {sz:Nat} {f:T→List Value} {w:World} {b off:Nat} {xs:List T} (h:aJ sz f w (some ⟨b,off,none⟩) xs) (k:Nat):aJ sz f w (some ⟨b,off + k * sz,none⟩) (xs.drop k):=by
 intro h0
 obtain⟨cE,rO,h1,h2,h3⟩:=h (by rw [List.length_drop] at h0;omega)
 injection h1 with h1;injection h1 with h4 h5;subst h4;subst h5
 refine⟨b,off + k * sz,rfl,h2,fun i x ay j u hu=>?_⟩
 rw [List.getElem?_drop] at ay
 have h6:=h3 (k + i) x ay j u hu
 rw [Nat.add_mul] at h6
 rw [← h6];congr 2;omega
theorem ye {T:Type} {sz:Nat} {f:T→List Value} {w:World} {b off:Nat} {xs:List T} (h:aJ sz f w (some ⟨b,off,none⟩) xs) {k:Nat} {x:T} (ay:xs[k]? =some x) {i:Nat} {u:Value} (hu:(f x)[i]? =some u):w.cell? ⟨b,off + k * sz + i,none⟩ =some u:=by
 obtain⟨cE,rO,h1,h2,h3⟩:=h (by have:=(List.getElem?_eq_some_iff.1 ay).1;omega)
 injection h1 with h1;injection h1 with h4 h5;subst h4;subst h5
 exact h3 k x ay i u hu
def tL {T:Type} (e:TypeId) (sz:Nat) (f:T→List Value) (m1 m2:Nat) (xs:List T) (k:Nat) (cs:Array Value):lu (Option Addr×Nat) where
 par:=fun n=>if n= m1 then [0] else []
 val:=fun n p=>if n= 0 then .slice p.1 0 0 else if n= m1 then .slice p.1 k p.2 else if n= m2 then .slice p.1 1 1 else undef
 post:=fun n bu p cY V=>(n= 0→p.1= some ⟨cY.heap.size,0,none⟩∧aC V cY.heap.size e #[])∧
  (n= m1→∃g br,(bu 0).1= some ⟨g,0,none⟩∧p.1= some ⟨br,0,none⟩∧aX g e sz f V (.slice p.1 (xs.take k).length p.2) (xs.take k))∧
  (n= m2→∃g,p.1= some ⟨g,0,none⟩∧cY.heap.size= g∧aC V g e cs)
theorem agH {A:Option Addr} {c k:Nat} {ad:List aK} {f:Addr→Addr} (bd:A= none→ad= []∧c= 0) (ax:k= ad.length) (h:(if c= k then A else A.map f)= none):ad.drop k= []∧c - k= 0:=by
 refine⟨List.drop_of_length_le (by omega),?_⟩
 cases A with
 | none=>have:=(bd rfl).2;omega
 | some iZ=>split at h <;> cases h
theorem Xt (ag af sp:Int) (ak:Option Addr) (c2:Nat) (ws:List Int) (al:Option Addr) (c3:Nat) (ad:List aK) (h2:ws.length≤1048576) (h3:ad.length≤1048576) (n2:ak= none→ws= []∧c2= 0) (n3:al= none→ad= []∧c3= 0) (dS:ad.length≤c3) (sm st cx:Int) (w:World) (bm:aJ 1 bU w ak ws) (bl:aJ 3 aK.cells w al ad):
 Calls Tryz.prog 290 #[.agg #[ag,af,sp,.slice ak ws c2,.slice al ad c3],.agg #[sm,st,cx]] w fun e ah=>∃bk d2 bo d3,e= .returned (.agg #[ag,af,sp,.slice bk ws d2,.slice bo (fi ad ⟨sm,st,cx⟩).length d3])∧jH w.heap.size ah bk d2 bo d3 ws (fi ad ⟨sm,st,cx⟩)∧Below w w ah:=by
 obtain⟨i0,hi,dk,dx,dC⟩:=info_parts AL
 have ea:=J bm;have cS:=J bl;have iY:=J n2;have iR:=J n3;clear bm bl n2 n3
 go_in
 go_upto_region 1 with fail
 refine fv fun aH av aj bO ae=>?_
 have I:=av
 obtain⟨f0,f1,f2,f3,f4⟩:=aj.aS
 obtain⟨iO,s1,s2⟩:=bO.cK
 have aq:=ae.aS;have gv:=ae.lt
 go_wp2_with fail
 refine (Hc ag af sp ak c2 ws al c3 ad h2 h3 iY.out iR.out _ (ea.out.U (ai I aw)) (cS.out.U (ai I aw))).mono ?_
 rintro e aQ ⟨bk,d2,bo,d3,rfl,dr,aP⟩
 have ao:=be aH aP;replace I:=ai I ao;replace aj:=aj.to ao;clear f0 f1 f2 f3 f4
 obtain⟨f0,f1,f2,f3,f4⟩:=aj.aS
 replace bO:=bO.to ao;clear iO s1 s2
 obtain⟨iO,s1,s2⟩:=bO.cK
 replace ae:=ae.to ao;clear aq;have aq:=ae.aS;have wG:=ao.size;have vp:=I.size
 go_upto_region 2 with fail
 have SC:=(dr.fg.bh (ca aQ (.cells #[ag,af,sp,.slice bk ws d2,.slice bo ad d3] 41))).base (B':=w.heap.size) (by omega);clear dr;have aL:Below aQ aQ (World.alloc aQ (.cells #[ag,af,sp,.slice bk ws d2,.slice bo ad d3] 41)):=ca aQ _
 have aO:=aC.new aQ 41 #[ag,af,sp,.slice bk ws d2,.slice bo ad d3]
 generalize World.alloc aQ (.cells #[ag,af,sp,.slice bk ws d2,.slice bo ad d3] 41)= aap at *
 replace I:=ai I aL
 obtain⟨dj,dY,dV,er,eA⟩:=aO.aS
 clear f0 f1 f2 f3 f4;replace aj:=aj.to aL
 obtain⟨f0,f1,f2,f3,f4⟩:=aj.aS
 clear iO s1 s2;replace bO:=bO.to aL
 obtain⟨iO,s1,s2⟩:=bO.cK
 clear aq;replace ae:=ae.to aL;have aq:=ae.aS;have kW:=aO.lt;have bF:=SC;clear SC;have cD:=J aj;have dW:=J bO;have bj:=J ae;have cg:=J aO;have hs:=J bF;have px:=J I;clear aj bO ae aO bF f0 f1 f2 f3 f4 iO s1 s2 aq dj dY dV er eA
 go_wp2
 go_loopw [6] (fun i wr=>∃k:Nat,k≤ad.length∧i= .int .i64 k∧(∀j x,j < k→ad[j]? =some x→x.mem < sm)∧Below aap aap wr) (fun i _=>ad.length - (intOf i).toNat)
 case atStart=>exact⟨0,Nat.zero_le _,rfl,fun j x h=>absurd h (by omega),Below.refl _ _⟩
 case round=>
  obtain⟨k,ax,rfl,aT,aE⟩:=hrel
  have cJ:=J aT;clear aT;have fP:=cD.out.U aE cD.out.lt;have gX:=dW.out.U aE dW.out.lt
  have c4:=fun K:aB wr.heap.size wr=>((fP.U K.U fP.lt).cell 4).trans (show _= some (.slice al ad c3) from rfl)
  have iO:=fun K:aB wr.heap.size wr=>((gX.U K.U gX.lt).cell 0).trans (show _= some (.int .i64 sm) from rfl)
  rcases (show (∃x,ad[k]? =some x∧x.mem < sm)∨(∃x,ad[k]? =some x∧x.mem= sm)∨(∃x,ad[k]? =some x∧sm < x.mem)∨k= ad.length by
   by_cases bn:k < ad.length
   ·have h:=List.getElem?_eq_getElem bn
    rcases (show (ad[k]).mem < sm∨(ad[k]).mem= sm∨sm < (ad[k]).mem by omega) with g | g | g
    ·exact .inl ⟨_,h,g⟩
    ·exact .inr (.inl ⟨_,h,g⟩)
    ·exact .inr (.inr (.inl ⟨_,h,g⟩))
   ·exact .inr (.inr (.inr (by omega)))) with ⟨⟨dZ,iG,zD⟩,ay,hm⟩ | ⟨⟨dZ,iG,zD⟩,ay,hm⟩ | ⟨⟨dZ,iG,zD⟩,ay,hm⟩ | VQ
  case' inl=>
   have bn:k < ad.length:=(List.getElem?_eq_some_iff.1 ay).1
   obtain⟨ew,fF,bG,hA3,_,kV,jB⟩:=(cS.out.U px.out).at_ aE bn
   clear jB kV bG
   subst hA3
   have dj:=fun K:aB wr.heap.size wr=>(ye (cS.out.U (ai (ai px.out aE) K.U)) ay (i:=0) (u:= .int .i64 dZ) rfl)
   simp only [Nat.add_zero] at dj
   have tY:=J ay;clear ay
   go_wp2
   refine eC (by kernel_rfl) (by kernel_rfl) ?_
   repeat (go_big_quiet_step ((fail)))
   refine wpQuiet_nil ?_
   intro K
   clear c4 iO dj fP gX
   go_wp2
   go_roundw
   case rel=>exact⟨k + 1,by omega,by go_num,fun j y bI hy=>by
    by_cases e:j= k
    ·subst e;rw [tY.out] at hy;cases hy;exact hm
    ·exact cJ.out j y (by omega) hy,ai aE K.U⟩
   case measure=>simp [intOf];omega
  case' inr.inl=>
   have bn:k < ad.length:=(List.getElem?_eq_some_iff.1 ay).1
   obtain⟨ew,fF,bG,hA3,_,kV,jB⟩:=(cS.out.U px.out).at_ aE bn
   clear jB kV bG
   subst hA3
   have dj:=fun K:aB wr.heap.size wr=>(ye (cS.out.U (ai (ai px.out aE) K.U)) ay (i:=0) (u:= .int .i64 dZ) rfl)
   simp only [Nat.add_zero] at dj
   have tY:=J ay;clear ay
   go_wp2
   refine eC (by kernel_rfl) (by kernel_rfl) ?_
   repeat (go_big_quiet_step ((fail)))
   refine wpQuiet_nil ?_
   intro K
   clear c4 iO dj fP gX;have hl:=ai aE K.U
   generalize K.world= nh at *
   have fP:=cD.out.U hl cD.out.lt;have gX:=dW.out.U hl dW.out.lt;have f4:=(fP.cell 4).trans (show _= some (.slice (some ⟨ew,fF,none⟩) ad c3) from rfl)
   have NV:¬c3= k:=by omega
   go_upto_region 6 with fail
   have dj:=fun K:aB nh.heap.size nh=>(ye (cS.out.U (ai (ai px.out hl) K.U)) tY.out (i:=0) (u:= .int .i64 dZ) rfl)
   have iO:=fun K:aB nh.heap.size nh=>((gX.U K.U gX.lt).cell 0).trans (show _= some (.int .i64 sm) from rfl)
   simp only [Nat.add_zero] at dj
   have Jw:decide (0 < ad.length - k)= true:=decide_eq_true (by omega)
   have Ap:k≤c3:=by omega
   clear f4 fP gX
   refine eC (by kernel_rfl) (by kernel_rfl) ?_
   repeat (go_big_quiet_step ((fail)))
   refine wpQuiet_nil ?_
   intro K
   clear iO dj Jw;have iT:=ai hl K.U
   generalize K.world= hF at *
   go_upto_region 8 with fail
   obtain⟨rest,iU⟩ :∃l,l= ad.drop (k + 1):=⟨_,rfl⟩
   have oR:Hid (fi ad ⟨sm,st,cx⟩ =ad.take k ++ [(⟨sm,st,cx⟩ :aK)] ++ rest):=J (by rw [iU];rw [Dx (k:=k) (by omega) cJ.out (fun y hy=>by rw [tY.out] at hy;cases hy;have h:dZ= sm:=hm;show¬dZ < sm;omega),tY.out];have h:dZ= sm:=hm;simp [h]);have nA:Hid (rest.length= (ad.length - k - 1)):=J (by rw [iU];rw [List.length_drop];omega);have qq:Hid (aJ 3 aK.cells w (if c3 - k= 1 then (some ⟨ew,fF + k * 3,none⟩ :Option Addr) else some ⟨ew,fF + k * 3 + 3,none⟩) rest):=J (by rw [iU];split <;> first | (rw [List.drop_of_length_le (by omega)];exact aJ.nil) | (have h:=HB cS.out (k + 1);rw [Nat.add_mul,Nat.one_mul,← Nat.add_assoc] at h;exact h))
   have LL:Hid ((if c3 - k= 1 then (some ⟨ew,fF + k * 3,none⟩ :Option Addr) else some ⟨ew,fF + k * 3 + 3,none⟩)= none→rest= []∧(c3 - k - 1)= 0):=J (fun h=>by split at h <;> cases h);clear iU
   generalize (if c3 - k= 1 then (some ⟨ew,fF + k * 3,none⟩ :Option Addr) else some ⟨ew,fF + k * 3 + 3,none⟩)= Ml at *
   have Wl:(ad.length - k - 1)≤1048576:=by omega
   generalize (ad.length - k - 1)= YV at *
   generalize (c3 - k - 1)= rc at *
   generalize (some ⟨ew,fF,none⟩ :Option Addr)= al at *
   clear tY bn NV hm
  case' inr.inr.inl=>
   have bn:k < ad.length:=(List.getElem?_eq_some_iff.1 ay).1
   obtain⟨ew,fF,bG,hA3,_,kV,jB⟩:=(cS.out.U px.out).at_ aE bn
   clear jB kV bG
   subst hA3
   have dj:=fun K:aB wr.heap.size wr=>(ye (cS.out.U (ai (ai px.out aE) K.U)) ay (i:=0) (u:= .int .i64 dZ) rfl)
   simp only [Nat.add_zero] at dj
   have tY:=J ay;clear ay;have CH:decide (dZ < sm)= false:=decide_eq_false (by have h:sm < dZ:=hm;omega)
   go_wp2
   refine eC (by kernel_rfl) (by kernel_rfl) ?_
   repeat (go_big_quiet_step ((fail)))
   refine wpQuiet_nil ?_
   intro K
   clear c4 iO dj CH fP gX;have hl:=ai aE K.U
   generalize K.world= nh at *
   have fP:=cD.out.U hl cD.out.lt;have gX:=dW.out.U hl dW.out.lt;have f4:=(fP.cell 4).trans (show _= some (.slice (some ⟨ew,fF,none⟩) ad c3) from rfl)
   have NV:¬c3= k:=by omega
   go_upto_region 6 with fail
   have dj:=fun K:aB nh.heap.size nh=>(ye (cS.out.U (ai (ai px.out hl) K.U)) tY.out (i:=0) (u:= .int .i64 dZ) rfl)
   have iO:=fun K:aB nh.heap.size nh=>((gX.U K.U gX.lt).cell 0).trans (show _= some (.int .i64 sm) from rfl)
   simp only [Nat.add_zero] at dj
   have Jw:decide (0 < ad.length - k)= true:=decide_eq_true (by omega)
   have Ap:k≤c3:=by omega
   clear f4 fP gX;have uH:(dZ == sm)= false:=beq_eq_false_iff_ne.2 (by have h:sm < dZ:=hm;omega)
   refine eC (by kernel_rfl) (by kernel_rfl) ?_
   repeat (go_big_quiet_step ((fail)))
   refine wpQuiet_nil ?_
   intro K
   clear iO dj uH Jw;have iT:=ai hl K.U
   generalize K.world= hF at *
   go_upto_region 8 with fail
   obtain⟨rest,iU⟩ :∃l,l= ad.drop k:=⟨_,rfl⟩
   have oR:Hid (fi ad ⟨sm,st,cx⟩ =ad.take k ++ [(⟨sm,st,cx⟩ :aK)] ++ rest):=J (by rw [iU];rw [Dx (k:=k) (by omega) cJ.out (fun y hy=>by rw [tY.out] at hy;cases hy;have h:sm < dZ:=hm;show¬dZ < sm;omega),tY.out];have h:¬dZ= sm:=(by have h:sm < dZ:=hm;omega);simp [h]);have nA:Hid (rest.length= (ad.length - k)):=J (by rw [iU];rw [List.length_drop])
   have qq:Hid (aJ 3 aK.cells w (some ⟨ew,fF + k * 3,none⟩ :Option Addr) rest):=J (by rw [iU];exact HB cS.out k);have LL:Hid ((some ⟨ew,fF + k * 3,none⟩ :Option Addr)= none→rest= []∧(c3 - k)= 0):=J (fun h=>by cases h);clear iU
   generalize (some ⟨ew,fF + k * 3,none⟩ :Option Addr)= Ml at *
   have Wl:(ad.length - k)≤1048576:=by omega
   generalize (ad.length - k)= YV at *
   generalize (c3 - k)= rc at *
   generalize (some ⟨ew,fF,none⟩ :Option Addr)= al at *
   clear tY bn NV hm
  case' inr.inr.inr=>
   have za:¬k < ad.length:=by omega
   have BD:=J VQ
   have ajb:¬0 < ad.length - k:=by omega
   clear VQ
   go_wp2
   refine eC (by kernel_rfl) (by kernel_rfl) ?_
   repeat (go_big_quiet_step ((fail)))
   refine wpQuiet_nil ?_
   intro K
   clear c4 iO fP gX;have hl:=ai aE K.U
   generalize K.world= nh at *
   have fP:=cD.out.U hl cD.out.lt;have f4:=(fP.cell 4).trans (show _= some (.slice al ad c3) from rfl)
   go_upto_region 6 with fail
   have Ap:k≤c3:=by omega
   clear f4 fP
   refine eC (by kernel_rfl) (by kernel_rfl) ?_
   repeat (go_big_quiet_step ((fail)))
   refine wpQuiet_nil ?_
   intro K
   clear ajb za;have iT:=ai hl K.U
   generalize K.world= hF at *
   go_upto_region 8 with fail
   obtain⟨rest,iU⟩ :∃l,l= ad.drop k:=⟨_,rfl⟩
   have oR:Hid (fi ad ⟨sm,st,cx⟩ =ad.take k ++ [(⟨sm,st,cx⟩ :aK)] ++ rest):=J (by rw [iU];rw [Dx (k:=k) (by omega) cJ.out (fun y hy=>by have h1:=(List.getElem?_eq_some_iff.1 hy).1;have h2:=BD.out;omega),List.getElem?_eq_none (by have h2:=BD.out;omega)];simp;have h2:=BD.out;omega);have nA:Hid (rest.length= (ad.length - k)):=J (by rw [iU];rw [List.length_drop])
   have qq:Hid (aJ 3 aK.cells w (if c3= k then al else Option.map (fun x=>x.add (k * 3)) al) rest):=J (by rw [iU];rw [List.drop_of_length_le (by have h2:=BD.out;omega)];exact aJ.nil);have LL:Hid ((if c3= k then al else Option.map (fun x=>x.add (k * 3)) al)= none→rest= []∧(c3 - k)= 0):=J (fun h=>by rw [iU];exact agH iR.out BD.out h);clear iU
   generalize (if c3= k then al else Option.map (fun x=>x.add (k * 3)) al)= Ml at *
   have Wl:(ad.length - k)≤1048576:=by omega
   generalize (ad.length - k)= YV at *
   generalize (c3 - k)= rc at *
   clear BD
  all_goals
   have mW:Hid ((ad.take k).length= k):=J (by rw [List.length_take];omega);have qt:Hid (aJ 3 aK.cells w al (ad.take k)):=J (Dr cS.out k);have aeI:Hid (al= none→ad.take k= []∧c3= 0):=J (fun h=>⟨by simp [(iR.out h).1],(iR.out h).2⟩);have aj:=cD.out.U iT cD.out.lt;have bO:=dW.out.U iT dW.out.lt;have ae:=bj.out.U iT bj.out.lt;have aO:=cg.out.U iT cg.out.lt
   have bF:=hs.out.bh iT;have I:=ai px.out iT;have arn:=I.size;have auC:=iT.size
   obtain⟨f0,f1,f2,f3,f4⟩:=aj.aS
   obtain⟨iO,s1,s2⟩:=bO.cK
   have aq:=ae.aS
   obtain⟨dj,dY,dV,er,eA⟩:=aO.aS
   obtain⟨pv,yN⟩ :∃X:World→Prop,∀V,X V↔(Below w w V∧aC V (w.heap.size) 41 #[ag,af,sp,.slice ak ws c2,.slice al ad c3]∧aC V ((w.heap.size + 1)) 214 #[sm,st,cx]∧aC V (aQ.heap.size) 41 #[ag,af,sp,.slice bk ws d2,.slice bo ad d3]):=⟨_,fun _=>Iff.rfl⟩
   have iJ:=J yN;clear yN
   haveI:Nonempty (cP pv):=⟨⟨hF,((iJ.out _).2 ⟨I,aj,bO,aO⟩)⟩⟩
   clear f0 f1 f2 f3 f4;clear iO s1 s2;clear aq;clear dj dY dV er eA
   obtain⟨f0,f1,f2,f3,f4⟩:=aC.kz (fun K:cP pv=>((iJ.out _).1 K.holds).2.1)
   obtain⟨iO,s1,s2⟩:=aC.jN (fun K:cP pv=>((iJ.out _).1 K.holds).2.2.1)
   obtain⟨dj,dY,dV,er,eA⟩:=aC.kz (fun K:cP pv=>((iJ.out _).1 K.holds).2.2.2)
   refine HQ (tL 214 3 aK.cells 5 7 ad k #[sm,st,cx]) pv [([],0),([1,2,3,4],5),([6],7)] [9] [([],[],8,false),([],[],10,false),([],[11],12,true)] [] [] (by kernel_rfl) (by kernel_rfl) ((iJ.out _).2 ⟨I.drew,aj,bO,aO⟩) (fun W eF h k=>((iJ.out _).2 ⟨((iJ.out _).1 h).1.trans (k.mono ((iJ.out _).1 h).1.size),((iJ.out _).1 h).2.1.U k ((iJ.out _).1 h).2.1.lt,((iJ.out _).1 h).2.2.1.U k ((iJ.out _).1 h).2.2.1.lt,((iJ.out _).1 h).2.2.2.U k ((iJ.out _).1 h).2.2.2.lt⟩)) ?_
   intro bu
   refine iF (some 46) rfl (.slice (bu 0).1 0 0) rfl fun hH eN=>?_
   change wpQuiet _ _ _ _ ([]) _
   refine wpQuiet_nil ?_
   refine⟨fun hU fO=>?_,eN _ ?_⟩
   ·change wpList _ _ _ (_ ::[]) _ _
    go_wp2
    first | exact hZ ⟨(some ⟨hU.world.heap.size,0,none⟩,0),rfl,ca _ _,by simp [tL];exact aC.new _ _ _⟩ | exact hZ ⟨some ⟨hU.world.heap.size,0,none⟩,0,rfl,ca _ _,by simp [tL];exact aC.new _ _ _⟩
   simp only [Act.put]
   go_simp
   refine iF (some 51) rfl (.slice (bu 5).1 k (bu 5).2) rfl fun hH eN=>?_
   change wpQuiet _ _ _ _ (_ ::_ ::_ ::_ ::[]) _
   repeat (go_big_quiet_step (fail))
   refine wpQuiet_nil ?_
   refine⟨fun hU fO=>?_,eN _ ?_⟩
   ·change wpList _ _ _ (_ ::[]) _ _
    obtain⟨gR,uh,qJ,UY,mC⟩:=fO 0 (by simp [tL])
    obtain⟨mA,mB⟩:=UY.1 rfl
    have mD:=mB.to mC;have jP:(bu 0).1= some ⟨gR.heap.size,0,none⟩:=mA;have qv:=J (qt.out.U ((iJ.out _).1 hU.holds).1);have qu:=J mD;clear mD mB mA qJ mC UY fO
    rw [jP]
    have lY:=J jP;clear jP
    go_wp2_with ((at_builtin;refine vu rfl _ _ 39 rfl gR.heap.size 214 i0 _ 3 24 Tryz.underlying39 hi dk dx dC rfl (by decide) aK.cells ij wC gR.heap.size rfl qu.out (Nat.le_refl _) al c3 (ad.take k) k mW.out.symm rfl qv.out aeI.out (by have:=mW.out;unfold maxLen;omega) (by have:=mW.out;omega) ?_;intro br cO ah fz eZ))
    first | exact hZ ⟨(some ⟨br,0,none⟩,cO),rfl,eZ,by simp [tL],fun _=>⟨gR.heap.size,br,lY.out,rfl,fz⟩,by simp [tL]⟩ | exact hZ ⟨some ⟨br,0,none⟩,cO,rfl,eZ,by simp [tL],fun _=>⟨gR.heap.size,br,lY.out,rfl,fz⟩,by simp [tL]⟩
   simp only [Act.put]
   go_simp
   refine iF (some 53) rfl (.slice (bu 7).1 1 1) rfl fun hH eN=>?_
   change wpQuiet _ _ _ _ (_ ::[]) _
   repeat (go_big_quiet_step (fail))
   refine wpQuiet_nil ?_
   refine⟨fun hU fO=>?_,eN _ ?_⟩
   ·change wpList _ _ _ (_ ::[]) _ _
    go_wp2
    first | exact hZ ⟨(some ⟨hU.world.heap.size,0,none⟩,0),rfl,ca _ _,by simp [tL],by simp [tL],fun _=>⟨hU.world.heap.size,rfl,rfl,aC.new _ _ _⟩⟩ | exact hZ ⟨some ⟨hU.world.heap.size,0,none⟩,0,rfl,ca _ _,by simp [tL],by simp [tL],fun _=>⟨hU.world.heap.size,rfl,rfl,aC.new _ _ _⟩⟩
   simp only [Act.put]
   go_simp
   refine tM ?_
   change wpQuiet _ _ _ _ (_ ::[]) _
   repeat (go_big_quiet_step (fail))
   refine wpQuiet_nil ?_
   intro cY V W aY bK
   obtain⟨g0,g5,e0,e5,zr⟩ :∃g br,(bu 0).1= some ⟨g,0,none⟩∧(bu 5).1= some ⟨br,0,none⟩∧aX g 214 3 aK.cells (V 5) (.slice (bu 5).1 (ad.take k).length (bu 5).2) (ad.take k):=(aY.post 5 (by simp)).2.1 rfl
   obtain⟨a0,_⟩ :(bu 0).1= some ⟨(cY 0).heap.size,0,none⟩∧aC (V 0) (cY 0).heap.size 214 #[]:=(aY.post 0 (by simp)).1 rfl
   obtain⟨g7,e7,u7,yb⟩ :∃g,(bu 7).1= some ⟨g,0,none⟩∧(cY 7).heap.size= g∧aC (V 7) g 214 #[sm,st,cx]:=(aY.post 7 (by simp)).2.2 rfl
   have t0:(cY 0).heap.size= g0:=by rw [a0] at e0;exact congrArg Addr.block (Option.some.inj e0)
   have iw:=(zr.bh (aY.bh 5 (by simp))).base (B':=hF.heap.size) (by rw [← t0];exact (aY.nt 0 (by simp)).size);have aud:=bO.lt;have Ah:=yb.U (aY.bh 7 (by simp)) yb.lt;have Ax:Below hF hF W:=(aY.whole 5 (by simp)).qZ;clear f0 f1 f2 f3 f4;clear iO s1 s2;clear dj dY dV er eA;have cG:Below hF hF W:=ai aw (aY.whole 5 (by simp)).qZ
   replace I:=ai I cG;replace bF:=bF.bh cG;replace aj:=aj.to cG;replace bO:=bO.to cG;replace ae:=ae.to cG;have aq:=ae.aS;replace aO:=aO.to cG
   obtain⟨dj,dY,dV,er,eA⟩:=aO.aS
   clear aY zr yb a0 e0 t0 u7 bK
   generalize bu 5= vl at *
   generalize bu 7= PO at *
   obtain⟨RJ,d5⟩:=vl
   obtain⟨RL,d7⟩:=PO
   simp only at iw e5 e7
   subst e5
   subst e7
   rw [mW.out] at iw
   have afb:Hid (aJ 3 aK.cells W (some ⟨g7,0,none⟩) [(⟨sm,st,cx⟩ :aK)]):=J (fun _=>⟨g7,0,rfl,Ah.lt,fun i y hy j u hu=>by
    have h0:i= 0:=by have:=(List.getElem?_eq_some_iff.1 hy).1;simp at this;omega
    subst h0;simp at hy;subst hy
    rw [Nat.zero_mul,Nat.zero_add]
    exact (Ah.cell _).trans (by simpa [aK.cells] using hu)⟩)
   have aiQ:=iw.xW aO (by decide);have aiR:=iw.xW ae (by decide);have Vh:=bF.apart iw (by decide);have Vx:=iw.lt g5 rfl;have QE:=I.size;have Br:=Ax.size;have LC:=J aj;have LV:=J bO;have aiP:=iw.xW aj (by decide);have sU:=J aO;have jf:=J ae;have mU:=J iw;have eE:=J I;have rq:=J bF;have ael:=J Vh;clear Ah aO ae aj bO iw bF I Vh aq dj dY dV er eA
   haveI:Nonempty (cP (fun _=>True)):=⟨⟨w,trivial⟩⟩
   refine pn fun gr dX=>?_
   refine wpQuiet_nil ?_
   refine wpQuiet_nil ?_
   change wpList _ _ _ (_ ::[]) _ _
   have aeK:Hid (aX hF 214 3 aK.cells W (.slice g5 k d5) (ad.take k)):=mU
   go_wp2_with ((at_builtin;refine kJ rfl _ _ 39 rfl hF.heap.size 214 i0 _ 3 24 Tryz.underlying39 hi dk dx dC rfl (by decide) aK.cells ij wC _ (ad.take k) rfl aeK.out ⟨g7,0,none⟩ 1 ⟨sm,st,cx⟩ rfl afb.out (by have:=mW.out;unfold maxLen;omega) (by have:=mW.out;omega) Br ?_;intro aam om qI uK aiu;clear aiu;obtain⟨asy,auH,rfl,q1,gn,nf⟩:=qI.form ij;clear q1 gn nf;have VU:(ad.take k ++ [(⟨sm,st,cx⟩ :aK)]).length= k + 1:=(by rw [List.length_append,mW.out];rfl);rw [VU] at qI;clear VU))
   have Jk:=LC.out.jO uK (fun e=>aiP (Option.some.inj e));have NF:=LV.out.jO uK (fun e=>by have h9:w.heap.size + 1= g5:=Option.some.inj e;omega);have uA:=sU.out.jO uK (fun e=>aiQ (Option.some.inj e));have ss:=jf.out.jO uK (fun e=>aiR (Option.some.inj e));have Mh:=rq.out.kept uK (fun k ax e=>ael.out k ax e);have zO:Below w w om:=eE.out.grown uK QE (fun q bf=>by have h9:g5= q:=Option.some.inj bf;omega)
   have Vz:=qI.cH uA;have VA:=qI.cH ss;have Vi:=Mh.apart qI (by decide);have Vy:=qI.lt;have aqX:=zO.size;have aqY:=Nat.le_trans Br uK.size;have Vw:=qI.cH Jk;have Uz:=((iJ.out _).2 ⟨zO,Jk,NF,uA⟩);have LC:=J Jk;have LV:=J NF;have aes:=J Vw;have sU:=J uA;have jf:=J ss;have Io:=J qI;have eE:=J zO;have rq:=J Mh
   have aem:=J Vi;have aet:=J Vz;have aeu:=J VA;have RZ:=J Vy;clear uA ss qI Mh zO Vi Vz VA Vy uK Jk NF Vw
   refine yC Uz (dX _ _ ?_)
   clear Uz
   refine pn fun Ex ux=>?_
   refine wpQuiet_nil ?_
   refine wpQuiet_nil ?_
   change wpList _ _ _ (_ ::[]) _ _
   try simp only [Act.put]
   try go_simp
   have yx:=J (qq.out.U eE.out)
   go_wp2_with ((at_builtin;refine La rfl _ _ 39 rfl hF.heap.size 214 i0 _ 3 24 Tryz.underlying39 hi dk dx dC rfl (by decide) aK.cells ij wC _ (ad.take k ++ [(⟨sm,st,cx⟩ :aK)]) rfl Io.out Ml rc rest (by rw [nA.out];rfl) yx.out LL.out (by have h1:=nA.out;have h2:=mW.out;rw [List.length_append,h1,h2];simp only [List.length_cons,List.length_nil];unfold maxLen;omega) (by have h1:=nA.out;have h2:=mW.out;rw [List.length_append,h1,h2];simp only [List.length_cons,List.length_nil];omega) aqY ?_;intro v10 HL xp vZ;rw [← oR.out] at xp;obtain⟨Y,gV,rfl,q1,gn,nf⟩:=xp.form ij;clear q1 gn nf))
   have FJ:=LC.out.jO vZ (fun e=>aes.out _ e.symm rfl);have aio:=LV.out.jO vZ (fun e=>by have h9:=(RZ.out _ e.symm).1;omega);have ec:=sU.out.jO vZ (fun e=>aet.out _ e.symm rfl);have bT:=jf.out.jO vZ (fun e=>aeu.out _ e.symm rfl);have bF:=rq.out.kept vZ (fun k ax e=>aem.out k ax e);have bw:=xp;have I:=eE.out.grown vZ aqX (fun q bf=>by have:=(RZ.out q bf).1;omega)
   clear vZ xp
   refine yC ((iJ.out _).2 ⟨I,FJ,aio,ec⟩) (ux _ _ ?_)
   refine pn fun asr aic=>?_
   refine wpQuiet_nil ?_
   change wpQuiet _ _ _ _ (_ ::[]) _
   try simp only [Act.put]
   try go_simp
   repeat (go_big_quiet_step (fail))
   refine wpQuiet_nil ?_
   change wpList _ _ _ (_ ::[]) _ _
   have aq:=bT.aS
   obtain⟨dj,dY,dV,er,eA⟩:=ec.aS
   have en:=bF.cH ec;have dI:=bw.cH ec;have ahA:=ec.frozen 4
   go_wp2
   clear aq dj dY dV er eA
   refine kG 4 fun IJ jT=>?_
   replace I:=jT.aG I;replace bT:=jT.dJ bT;replace ec:=jT.PV ec;replace bF:=bF.bY jT en;replace bw:=bw.bY jT dI;have aq:=bT.aS
   obtain⟨dj,dY,dV,er,eA⟩:=ec.aS
   clear en dI ahA
   refine yB (aic _ _ ?_)
   refine zC ?_
   refine wpQuiet_nil ?_
   refine wpQuiet_nil ?_
   have en:=bF.cH bT;have dI:=bw.cH bT;have Ce:=bT.frozen 0;have Cf:=bT.frozen 1;have Cg:=bT.frozen 2;have Ch:=bT.frozen 3;have Ci:=bT.frozen 4
   go_wp2
   clear aq dj dY dV er eA
   refine gT 0 fun IK kH=>?_
   replace I:=kH.aG I;replace bT:=kH.iK bT;replace ec:=kH.dJ ec;replace bF:=bF.bY kH en;replace bw:=bw.bY kH dI;have aq:=bT.aS
   refine bodyPost_ret (v:= .agg #[ag,af,sp,.slice bk ws d2,.slice Y (fi ad ⟨sm,st,cx⟩).length gV]) (by simp [results,Tryz.results290,go_sem,aq]) rfl ?_
   exact⟨bk,d2,Y,gV,rfl,⟨bF.base (Nat.le_refl _),bw.base arn,bF.apart bw (by decide)⟩,I⟩
open Go.RowKit Go.G9
theorem Xv (ag af sp:Int) (ak:Option Addr) (c2:Nat) (ws:List Int) (al:Option Addr) (c3:Nat) (ad:List aK) (h2:ws.length≤1048576) (h3:ad.length≤1048576) (n2:ak= none→ws= []∧c2= 0) (n3:al= none→ad= []∧c3= 0) (cm:ws.length≤c2) (dS:ad.length≤c3) (st cx:Int) (aZ:eB ad sp=⟨sp,st,cx⟩) (h0:0≤st) (h1:st≤1000) (w:World) (bm:aJ 1 bU w ak ws) (bl:aJ 3 aK.cells w al ad):
 Calls Tryz.prog 291 #[.agg #[ag,af,sp,.slice ak ws c2,.slice al ad c3]] w fun e ah=>∃bk d2 bo d3,e= .returned (.agg #[ag,af,(0:Int),.slice bk ws d2,.slice bo (fi ad ⟨sp,st + 1,cx⟩).length d3])∧jH w.heap.size ah bk d2 bo d3 ws (fi ad ⟨sp,st + 1,cx⟩)∧Below w w ah:=by
 have ea:=J bm;have cS:=J bl;have iY:=J n2;have iR:=J n3;have wT:=J dS;clear bm bl n2 n3 dS;have dW:=J aZ;clear aZ
 have sC:IntKind.i64.wrap (st + 1)= st + 1:=by rw [IntKind.wrap_i64];omega
 go_in
 go_upto_region 1 with fail
 refine fp fun aH av aj ae=>?_
 have I:=av;have aF:=aj.aS;have aq:=ae.aS;have gv:=ae.lt
 go_wp2_with fail
 refine (vh ag af sp ak ws.length c2 al c3 ad h3 sp ⟨sp,st,cx⟩ dW.out _ (cS.out.U (ai I aw))).mono ?_
 rintro e aQ ⟨rfl,aP⟩
 have ao:=be aH aP;replace I:=ai I ao;replace aj:=aj.to ao;clear aF;have aF:=aj.aS;replace ae:=ae.to ao;clear aq;have aq:=ae.aS;have KS:=ao.size
 go_upto_region 2 with fail
 refine cR fun dE aL bO=>?_
 replace I:=ai I aL;have cj:=bO.cK;clear aF;replace aj:=aj.to aL;have aF:=aj.aS;clear aq;replace ae:=ae.to aL;have aq:=ae.aS;have MX:=bO.frozen 1
 go_upto_region 3 with fail
 clear aF aq cj
 refine kG 1 fun jW lq=>?_
 replace I:=lq.aG I;replace aj:=lq.dJ aj;replace ae:=lq.dJ ae;replace bO:=lq.YA bO;have aF:=aj.aS;have aq:=ae.aS;have cj:=bO.cK;clear MX;have ajK:=bO.lt
 go_wp2_with fail
 refine (Xt ag af sp ak c2 ws al c3 ad h2 h3 iY.out iR.out wT.out sp (st + 1) cx _ (ea.out.U (ai I aw)) (cS.out.U (ai I aw))).mono ?_
 rintro e cf ⟨bk,d2,bo,d3,rfl,dr,cZ⟩
 have bV:=be jW cZ;replace I:=ai I bV;clear aF;replace ae:=ae.to bV;clear aq;have aq:=ae.aS;clear cj;have vp:=I.size;have QG:=bV.size
 go_upto_region 4 with fail
 have eX:=dr.bh (ca cf (.cells #[ag,af,sp,.slice bk ws d2,.slice bo (fi ad ⟨sp,st + 1,cx⟩).length d3] 41));clear dr;have cG:Below cf cf (World.alloc cf (.cells #[ag,af,sp,.slice bk ws d2,.slice bo (fi ad ⟨sp,st + 1,cx⟩).length d3] 41)):=ca cf _
 have aO:=aC.new cf 41 #[ag,af,sp,.slice bk ws d2,.slice bo (fi ad ⟨sp,st + 1,cx⟩).length d3]
 generalize World.alloc cf (.cells #[ag,af,sp,.slice bk ws d2,.slice bo (fi ad ⟨sp,st + 1,cx⟩).length d3] 41)= om at *
 replace I:=ai I cG;have bG:=aO.aS;clear aq;replace ae:=ae.to cG;have aq:=ae.aS;have bF:=eX.fg;have bw:=eX.fF;clear eX;have en:=bF.cH aO;have dI:=bw.cH aO;have qG:=aO.frozen 2
 go_upto_region 5 with fail
 clear aq bG
 refine kG 2 fun nj eU=>?_
 replace I:=eU.aG I;replace ae:=eU.dJ ae;replace aO:=eU.Kt aO;replace bF:=bF.bY eU en;replace bw:=bw.bY eU dI;have aq:=ae.aS;have bG:=aO.aS;clear en dI qG;have en:=bF.cH ae;have dI:=bw.cH ae;have ez:=ae.jh
 go_wp2
 clear aq bG
 refine gT 0 fun ui gf=>?_
 replace I:=gf.aG I;replace ae:=gf.iK ae;replace bF:=bF.bY gf en;replace bw:=bw.bY gf dI;have aq:=ae.aS
 exact hc ⟨bk,d2,bo,d3,rfl,⟨bF.base (by omega),bw.base (by omega),bF.apart bw (by decide)⟩,I⟩ (by simp [results,Tryz.results291,go_sem,aq])
theorem abm {p:Prop} (h:p:=by
 refine gT 0 fun cQ aD=>?_
 replace I:=aD.aG I;replace ae:=aD.iK ae;have aq:=ae.aS
 exact hc ⟨rfl,I⟩ (by simp [results,Tryz.results241,go_sem,aq])):p:=h
theorem aqw (ag af sp:Int) (ak:Option Addr) (c2:Nat) (ws:List Int) (al:Option Addr) (c3:Nat) (ad:List aK) (h2:ws.length≤1048576) (h3:ad.length≤1048576) (n2:ak= none→ws= []∧c2= 0) (n3:al= none→ad= []∧c3= 0) (cm:ws.length≤c2) (dS:ad.length≤c3) (az:mh ⟨ag,af,sp,ws,ad⟩ =false) (w:World) (bm:aJ 1 bU w ak ws) (bl:aJ 3 aK.cells w al ad):
 Calls Tryz.prog 241 #[.agg #[ag,af,sp,.slice ak ws c2,.slice al ad c3]] w fun e ah=>e= .returned (.tuple #[.agg #[(0:Int),(0:Int),(0:Int),.slice none 0 0,.slice none 0 0],false])∧Below w w ah:=by
 have ea:=J bm;have cS:=J bl;clear bm bl n2 n3 dS
 cases hf:gl ag af sp ws ad
 ·have bD:=J hf
  clear hf az
  go_in
  go_upto_region 1 with fail
  refine fp fun aH av aj ae=>?_
  have I:=av;have aF:=aj.aS;have aq:=ae.aS
  go_wp2_with fail
  refine (mI ag af sp ak ws c2 al c3 ad h2 h3 cm _ bD.out _ (ea.out.U (ai I aw)) (cS.out.U (ai I aw))).mono ?_
  rintro e aQ ⟨rfl,aP⟩
  have ao:=be aH aP;replace I:=ai I ao;clear aF;replace ae:=ae.to ao;clear aq;have aq:=ae.aS;have ez:=ae.jh
  go_wp2
  clear aq
  exact abm
 ·have aZ:(sp == 0)= true:=by simpa [mh,eD.ok,hf] using az
  have bD:=J hf;clear hf az
  go_in
  go_upto_region 1 with fail
  refine fp fun aH av aj ae=>?_
  have I:=av;have aF:=aj.aS;have aq:=ae.aS
  go_wp2_with fail
  refine (mI ag af sp ak ws c2 al c3 ad h2 h3 cm _ bD.out _ (ea.out.U (ai I aw)) (cS.out.U (ai I aw))).mono ?_
  rintro e aQ ⟨rfl,aP⟩
  have ao:=be aH aP;replace I:=ai I ao;replace aj:=aj.to ao;clear aF;have aF:=aj.aS;replace ae:=ae.to ao;clear aq;have aq:=ae.aS;have ez:=ae.jh
  go_wp2
  clear aF aq
  exact abm
theorem aci {p:Prop} (h:p:=by
 exact⟨bk,d2,bo,d3,rfl,⟨bF.base (by omega),bw.base (by omega),bF.apart bw (by decide)⟩,I⟩):p:=h
theorem aqx (ag af sp:Int) (ak:Option Addr) (c2:Nat) (ws:List Int) (al:Option Addr) (c3:Nat) (ad:List aK) (h2:ws.length≤1048576) (h3:ad.length≤1048576) (n2:ak= none→ws= []∧c2= 0) (n3:al= none→ad= []∧c3= 0) (cm:ws.length≤c2) (dS:ad.length≤c3) (az:mh ⟨ag,af,sp,ws,ad⟩ =true) (w:World) (bm:aJ 1 bU w ak ws) (bl:aJ 3 aK.cells w al ad):
 Calls Tryz.prog 241 #[.agg #[ag,af,sp,.slice ak ws c2,.slice al ad c3]] w fun e ah=>∃bk d2 bo d3,e= .returned (.tuple #[.agg #[ag,af,(0:Int),.slice bk ws d2,.slice bo (mR ⟨ag,af,sp,ws,ad⟩).ad.length d3],true])∧jH w.heap.size ah bk d2 bo d3 ws (mR ⟨ag,af,sp,ws,ad⟩).ad∧Below w w ah:=by
 have ea:=J bm;have cS:=J bl;have iY:=J n2;have iR:=J n3;have wT:=J dS;clear bm bl n2 n3 dS
 have gd:(⟨ag,af,sp,ws,ad⟩ :eD).ok= true:=by simp only [mh,Bool.and_eq_true] at az;exact az.1
 have aZ:(sp == 0)= false:=by simp only [mh,Bool.and_eq_true,Bool.not_eq_true'] at az;exact az.2
 obtain⟨qh,nb,pH⟩:=Dg gd (beq_eq_false_iff_ne.1 aZ)
 have AF:=(lg.1 gd).t
 obtain⟨av,ao,aL⟩:=vo.1 nb
 have kS:=KJ (xs:=ad) (m:=sp)
 obtain⟨⟨dK,st,cx⟩,kU⟩ :∃x,eB ad sp= x:=⟨_,rfl⟩
 have Fw:tO ⟨ag,af,sp,ws,ad⟩ =⟨sp,st + 1,cx⟩:=by simp [tO,kU]
 have e1:(mR ⟨ag,af,sp,ws,ad⟩).ad= fi ad ⟨sp,st + 1,cx⟩:=by simp [mR,Fw]
 simp only at pH ao aL
 rw [kU] at pH ao aL kS
 simp only at pH ao aL kS AF
 subst kS
 rw [e1]
 have bD:Hid (gl ag af dK ws ad= true):=J gd;have lW:=J kU;clear gd az qh nb av kU Fw e1
 go_in
 go_upto_region 1 with fail
 refine fp fun aH av aj ae=>?_
 have I:=av;have aF:=aj.aS;have aq:=ae.aS;have gv:=ae.lt
 go_wp2_with fail
 refine (mI ag af dK ak ws c2 al c3 ad h2 h3 cm _ bD.out _ (ea.out.U (ai I aw)) (cS.out.U (ai I aw))).mono ?_
 rintro e aQ ⟨rfl,aP⟩
 have ao:=be aH aP;replace I:=ai I ao;replace aj:=aj.to ao;clear aF;have aF:=aj.aS;replace ae:=ae.to ao;clear aq;have aq:=ae.aS
 go_wp2_with fail
 refine (Xv ag af dK ak c2 ws al c3 ad h2 h3 iY.out iR.out cm wT.out st cx lW.out (by omega) (by omega) _ (ea.out.U (ai I aw)) (cS.out.U (ai I aw))).mono ?_
 rintro e bA ⟨bk,d2,bo,d3,rfl,dr,bC⟩
 have aL:=be aQ bC;replace I:=ai I aL;clear aF;replace ae:=ae.to aL;clear aq;have aq:=ae.aS;have KS:=ao.size;have bF:=dr.fg;have bw:=dr.fF;clear dr;have en:=bF.cH ae;have dI:=bw.cH ae;have ez:=ae.jh
 go_wp2
 clear aq
 refine gT 0 fun ui gf=>?_
 replace I:=gf.aG I;replace ae:=gf.iK ae;replace bF:=bF.bY gf en;replace bw:=bw.bY gf dI;have aq:=ae.aS
 refine bodyPost_ret (v:= .tuple #[.agg #[ag,af,(0:Int),.slice bk ws d2,.slice bo (fi ad ⟨dK,st + 1,cx⟩).length d3],true]) (by simp [results,Tryz.results241,go_sem,aq]) rfl ?_
 exact aci
theorem Rb {p:Prop} (h:p:=by
 clear aq;have aq:=ae.aS;have ez:=ae.jh
 go_wp2
 clear aq
 refine gT 0 fun cQ aD=>?_
 replace I:=aD.aG I;replace ae:=aD.iK ae;have aq:=ae.aS
 exact hc ⟨rfl,I⟩ (by simp [results,Tryz.results238,go_sem,aq])):p:=h
theorem aaO {p:Prop} (h:p:=by
 clear aq;have aq:=ae.aS;have ez:=ae.jh
 go_wp2
 clear aF aq
 refine gT 0 fun cQ aD=>?_
 replace I:=aD.aG I;replace ae:=aD.iK ae;have aq:=ae.aS
 exact hc ⟨rfl,I⟩ (by simp [results,Tryz.results238,go_sem,aq])):p:=h
theorem apw (ag af sp:Int) (ak:Option Addr) (c2:Nat) (ws:List Int) (al:Option Addr) (c3:Nat) (ad:List aK) (h2:ws.length≤1048576) (h3:ad.length≤1048576) (n2:ak= none→ws= []∧c2= 0) (n3:al= none→ad= []∧c3= 0) (cm:ws.length≤c2) (dS:ad.length≤c3) (m:Int) (az:nP ⟨ag,af,sp,ws,ad⟩ m= false) (w:World) (bm:aJ 1 bU w ak ws) (bl:aJ 3 aK.cells w al ad):
 Calls Tryz.prog 238 #[.agg #[ag,af,sp,.slice ak ws c2,.slice al ad c3],m] w fun e ah=>e= .returned (.tuple #[.agg #[(0:Int),(0:Int),(0:Int),.slice none 0 0,.slice none 0 0],false])∧Below w w ah:=by
 have ea:=J bm;have cS:=J bl;clear bm bl n2 n3 dS
 have nx:(m == sp)= (sp == m):=by rw [Bool.eq_iff_iff,beq_iff_eq,beq_iff_eq];exact eq_comm
 cases gC:gl ag af sp ws ad
 case false=>
  have bD:=J gC;clear gC;clear az nx
  go_in
  go_upto_region 1 with fail
  refine fp fun aH av aj ae=>?_
  have I:=av;have aF:=aj.aS;have aq:=ae.aS
  go_wp2_with fail
  refine (mI ag af sp ak ws c2 al c3 ad h2 h3 cm _ bD.out _ (ea.out.U (ai I aw)) (cS.out.U (ai I aw))).mono ?_
  rintro e aQ ⟨rfl,aP⟩
  have ao:=be aH aP;replace I:=ai I ao;clear aF;replace ae:=ae.to ao
  exact Rb
 case true=>
  cases gM:eH m
  case false=>
   have bD:=J gC;clear gC;have dQ:=J gM;clear gM;clear az nx
   go_in
   go_upto_region 1 with fail
   refine fp fun aH av aj ae=>?_
   have I:=av;have aF:=aj.aS;have aq:=ae.aS
   go_wp2_with fail
   refine (mI ag af sp ak ws c2 al c3 ad h2 h3 cm _ bD.out _ (ea.out.U (ai I aw)) (cS.out.U (ai I aw))).mono ?_
   rintro e aQ ⟨rfl,aP⟩
   have ao:=be aH aP;replace I:=ai I ao;clear aF;replace ae:=ae.to ao;clear aq;have aq:=ae.aS
   go_wp2_with fail
   refine (iA m _ dQ.out _).mono ?_
   rintro e w0 ⟨rfl,h0⟩
   rw [h0]
   clear h0 w0;have ez:=ae.jh
   go_wp2
   clear aq
   refine gT 0 fun cQ aD=>?_
   replace I:=aD.aG I;replace ae:=aD.iK ae;have aq:=ae.aS
   exact hc ⟨rfl,I⟩ (by simp [results,Tryz.results238,go_sem,aq])
  case true=>
   cases jt:hasB ws m
   case true=>
    have bD:=J gC;clear gC;have dQ:=J gM;clear gM;have jx:=J jt;clear jt;clear az nx
    go_in
    go_upto_region 1 with fail
    refine fp fun aH av aj ae=>?_
    have I:=av;have aF:=aj.aS;have aq:=ae.aS
    go_wp2_with fail
    refine (mI ag af sp ak ws c2 al c3 ad h2 h3 cm _ bD.out _ (ea.out.U (ai I aw)) (cS.out.U (ai I aw))).mono ?_
    rintro e aQ ⟨rfl,aP⟩
    have ao:=be aH aP;replace I:=ai I ao;replace aj:=aj.to ao;clear aF;have aF:=aj.aS;replace ae:=ae.to ao;clear aq;have aq:=ae.aS
    go_wp2_with fail
    refine (iA m _ dQ.out _).mono ?_
    rintro e w0 ⟨rfl,h0⟩
    rw [h0]
    clear h0 w0
    go_wp2_with fail
    refine (zk ak c2 ws m h2 _ jx.out _ (ea.out.U (ai I aw))).mono ?_
    rintro e bA ⟨rfl,bC⟩
    have aL:=be aQ bC;replace I:=ai I aL;clear aF;replace ae:=ae.to aL
    exact Rb
   case false=>
    cases qL:(sp == m)
    case true=>
     have bD:=J gC;clear gC;have dQ:=J gM;clear gM;have jx:=J jt;clear jt;clear az nx
     go_in
     go_upto_region 1 with fail
     refine fp fun aH av aj ae=>?_
     have I:=av;have aF:=aj.aS;have aq:=ae.aS
     go_wp2_with fail
     refine (mI ag af sp ak ws c2 al c3 ad h2 h3 cm _ bD.out _ (ea.out.U (ai I aw)) (cS.out.U (ai I aw))).mono ?_
     rintro e aQ ⟨rfl,aP⟩
     have ao:=be aH aP;replace I:=ai I ao;replace aj:=aj.to ao;clear aF;have aF:=aj.aS;replace ae:=ae.to ao;clear aq;have aq:=ae.aS
     go_wp2_with fail
     refine (iA m _ dQ.out _).mono ?_
     rintro e w0 ⟨rfl,h0⟩
     rw [h0]
     clear h0 w0
     go_wp2_with fail
     refine (zk ak c2 ws m h2 _ jx.out _ (ea.out.U (ai I aw))).mono ?_
     rintro e bA ⟨rfl,bC⟩
     have aL:=be aQ bC;replace I:=ai I aL;replace aj:=aj.to aL;clear aF;have aF:=aj.aS;replace ae:=ae.to aL
     exact aaO
    case false=>
     cases na:oD ag af (eB ad m)
     case false=>
      have bD:=J gC;clear gC;have dQ:=J gM;clear gM;have jx:=J jt;clear jt;have da:=J na;clear na;clear az nx
      go_in
      go_upto_region 1 with fail
      refine fp fun aH av aj ae=>?_
      have I:=av;have aF:=aj.aS;have aq:=ae.aS
      go_wp2_with fail
      refine (mI ag af sp ak ws c2 al c3 ad h2 h3 cm _ bD.out _ (ea.out.U (ai I aw)) (cS.out.U (ai I aw))).mono ?_
      rintro e aQ ⟨rfl,aP⟩
      have ao:=be aH aP;replace I:=ai I ao;replace aj:=aj.to ao;clear aF;have aF:=aj.aS;replace ae:=ae.to ao;clear aq;have aq:=ae.aS
      go_wp2_with fail
      refine (iA m _ dQ.out _).mono ?_
      rintro e w0 ⟨rfl,h0⟩
      rw [h0]
      clear h0 w0
      go_wp2_with fail
      refine (zk ak c2 ws m h2 _ jx.out _ (ea.out.U (ai I aw))).mono ?_
      rintro e bA ⟨rfl,bC⟩
      have aL:=be aQ bC;replace I:=ai I aL;replace aj:=aj.to aL;clear aF;have aF:=aj.aS;replace ae:=ae.to aL;clear aq;have aq:=ae.aS
      go_wp2_with fail
      refine (AR ag af sp ak ws.length c2 al c3 ad h3 m _ da.out _ (cS.out.U (ai I aw))).mono ?_
      rintro e cf ⟨rfl,cZ⟩
      have bV:=be bA cZ;replace I:=ai I bV;clear aF;replace ae:=ae.to bV
      exact Rb
     case true=>
      have su:decide (ws.length= 10)= true:=by simpa [nP,eD.ok,nx,gC,gM,jt,qL,na] using az
      have bD:=J gC;clear gC;have dQ:=J gM;clear gM;have jx:=J jt;clear jt;have da:=J na;clear na
      have cA:((ws.length:Int) == 10)= true:=by have:=of_decide_eq_true su;rw [this];rfl
      clear su;clear az nx
      go_in
      go_upto_region 1 with fail
      refine fp fun aH av aj ae=>?_
      have I:=av;have aF:=aj.aS;have aq:=ae.aS
      go_wp2_with fail
      refine (mI ag af sp ak ws c2 al c3 ad h2 h3 cm _ bD.out _ (ea.out.U (ai I aw)) (cS.out.U (ai I aw))).mono ?_
      rintro e aQ ⟨rfl,aP⟩
      have ao:=be aH aP;replace I:=ai I ao;replace aj:=aj.to ao;clear aF;have aF:=aj.aS;replace ae:=ae.to ao;clear aq;have aq:=ae.aS
      go_wp2_with fail
      refine (iA m _ dQ.out _).mono ?_
      rintro e w0 ⟨rfl,h0⟩
      rw [h0]
      clear h0 w0
      go_wp2_with fail
      refine (zk ak c2 ws m h2 _ jx.out _ (ea.out.U (ai I aw))).mono ?_
      rintro e bA ⟨rfl,bC⟩
      have aL:=be aQ bC;replace I:=ai I aL;replace aj:=aj.to aL;clear aF;have aF:=aj.aS;replace ae:=ae.to aL;clear aq;have aq:=ae.aS
      go_wp2_with fail
      refine (AR ag af sp ak ws.length c2 al c3 ad h3 m _ da.out _ (cS.out.U (ai I aw))).mono ?_
      rintro e cf ⟨rfl,cZ⟩
      have bV:=be bA cZ;replace I:=ai I bV;replace aj:=aj.to bV;clear aF;have aF:=aj.aS;replace ae:=ae.to bV
      exact aaO
theorem apx (ag af sp:Int) (ak:Option Addr) (c2:Nat) (ws:List Int) (al:Option Addr) (c3:Nat) (ad:List aK) (h2:ws.length≤1048576) (h3:ad.length≤1048576) (n2:ak= none→ws= []∧c2= 0) (n3:al= none→ad= []∧c3= 0) (cm:ws.length≤c2) (dS:ad.length≤c3) (m:Int) (az:nP ⟨ag,af,sp,ws,ad⟩ m= true) (w:World) (bm:aJ 1 bU w ak ws) (bl:aJ 3 aK.cells w al ad):
 Calls Tryz.prog 238 #[.agg #[ag,af,sp,.slice ak ws c2,.slice al ad c3],m] w fun e ah=>∃bk d2 bo d3,e= .returned (.tuple #[.agg #[ag,af,sp,.slice bk (ws ++ [m]).length d2,.slice bo ad d3],true])∧jH w.heap.size ah bk d2 bo d3 (ws ++ [m]) ad∧Below w w ah:=by
 obtain⟨i0,hi,dk,dx,dC⟩:=info_parts rI
 have ea:=J bm;have cS:=J bl;have iY:=J n2;have iR:=J n3;clear bm bl n2 n3 dS
 obtain⟨gC,gM,aZ,qL,na,su⟩ :gl ag af sp ws ad= true∧eH m= true∧(m == sp)= false∧hasB ws m= false∧oD ag af (eB ad m)= true∧ws.length≠10:=by
  simpa [nP,eD.ok] using az
 have aZ:(sp == m)= false:=beq_eq_false_iff_ne.2 (fun e=>beq_eq_false_iff_ne.1 aZ e.symm);have cA:((ws.length:Int) == 10)= false:=beq_eq_false_iff_ne.2 (by omega);have pc:ws.length≤10:=(lg.1 (show (⟨ag,af,sp,ws,ad⟩ :eD).ok= true from gC)).l;have bD:=J gC;have dQ:=J gM;have jx:=J qL;have da:=J na;clear gC gM qL na su az
 go_in
 go_upto_region 1 with fail
 refine fp fun aH av aj ae=>?_
 have I:=av;have aF:=aj.aS;have aq:=ae.aS;have gv:=ae.lt
 go_wp2_with fail
 refine (mI ag af sp ak ws c2 al c3 ad h2 h3 cm _ bD.out _ (ea.out.U (ai I aw)) (cS.out.U (ai I aw))).mono ?_
 rintro e aQ ⟨rfl,aP⟩
 have ao:=be aH aP;replace I:=ai I ao;replace aj:=aj.to ao;clear aF;have aF:=aj.aS;replace ae:=ae.to ao;clear aq;have aq:=ae.aS
 go_wp2_with fail
 refine (iA m _ dQ.out _).mono ?_
 rintro e w0 ⟨rfl,h0⟩
 rw [h0]
 clear h0 w0
 go_wp2_with fail
 refine (zk ak c2 ws m h2 _ jx.out _ (ea.out.U (ai I aw))).mono ?_
 rintro e bA ⟨rfl,bC⟩
 have aL:=be aQ bC;replace I:=ai I aL;replace aj:=aj.to aL;clear aF;have aF:=aj.aS;replace ae:=ae.to aL;clear aq;have aq:=ae.aS
 go_wp2_with fail
 refine (AR ag af sp ak ws.length c2 al c3 ad h3 m _ da.out _ (cS.out.U (ai I aw))).mono ?_
 rintro e cf ⟨rfl,cZ⟩
 have bV:=be bA cZ;replace I:=ai I bV;replace aj:=aj.to bV;clear aF;have aF:=aj.aS;replace ae:=ae.to bV;clear aq;have aq:=ae.aS
 go_wp2_with fail
 refine (Hc ag af sp ak c2 ws al c3 ad h2 h3 iY.out iR.out _ (ea.out.U (ai I aw)) (cS.out.U (ai I aw))).mono ?_
 rintro e dE ⟨bk,d2,bo,d3,rfl,dr,ek⟩
 have cG:=be cf ek;replace I:=ai I cG;clear aF;replace ae:=ae.to cG;clear aq;have aq:=ae.aS;have vp:=I.size;have KR:=ao.size;have QF:=aL.size;have QG:=bV.size;have aae:=cG.size
 go_upto_region 4 with fail
 have eX:=dr.bh (ca dE (.cells #[ag,af,sp,.slice bk ws d2,.slice bo ad d3] 41));have fb:Below dE dE (World.alloc dE (.cells #[ag,af,sp,.slice bk ws d2,.slice bo ad d3] 41)):=ca dE _
 have aO:=aC.new dE 41 #[ag,af,sp,.slice bk ws d2,.slice bo ad d3]
 generalize World.alloc dE (.cells #[ag,af,sp,.slice bk ws d2,.slice bo ad d3] 41)= om at *
 replace I:=ai I fb
 obtain⟨dj,dY,dV,er,eA⟩:=aO.aS
 clear aq;replace ae:=ae.to fb;have aq:=ae.aS;have kW:=aO.lt;have bF:=eX.fg;have bw:=eX.fF;have js:=bF.apart bw (by decide);have oG:=bF.lt;have qM:=bF.cH aO
 have sw:∀k,(Value.slice bk ws d2).ownBlock= some k→k≠w.heap.size + 1:=fun k ax e=>by have:=(oG k ax).1;have:=KR;omega
 have hs:=J bF;have jV:=J bw;have cg:=J aO;have bj:=J ae;have oy:=J js;have zS:=J qM;have zT:=J sw;have zR:=J oG;have rp:=J I
 have Gd:cf.heap.size≤om.heap.size:=by omega
 clear dr eX bF bw js qM sw oG;have QS:=er;clear dj dY dV er eA aq
 go_upto_region 5 with ((at_builtin;refine kJ rfl _ _ 38 rfl cf.heap.size 3 i0 _ 1 8 Tryz.underlying38 hi dk dx dC rfl (by decide) bU fZ pd _ ws rfl (hs.out.alloc _) ⟨om.heap.size,0,none⟩ 1 m rfl (aJ.one (f:=bU) m _) (by unfold maxLen;omega) (by omega) (by simp;omega) ?_;intro v9 mP kP lh Al;have ec:=((cg.out.alloc (.cells #[m] 3)).jO lh (fun e=>zS.out _ e.symm rfl));clear Al;obtain⟨Y,gV,rfl,q1,gn,nf⟩:=kP.form fZ;clear q1 gn nf;replace kP:aX cf 3 1 bU mP (.slice Y (ws.length + 1) gV) (ws ++ [m]):=(by rw [List.length_append] at kP;exact kP);have Ji:=ec.frozen 3;have MR:=(ec.cell 3).trans (show _= some (Value.slice bk ws d2) from rfl)))
 have eE:Below w w mP:=(rp.out.alloc (by omega) (.cells #[m] 3)).grown lh (by simp;omega) (fun q bf=>by have:=(zR.out q bf).1;omega);have bT:=(bj.out.alloc (.cells #[m] 3)).jO lh (fun e=>zT.out _ e.symm rfl);have bw:=(jV.out.alloc (.cells #[m] 3)).kept lh (fun k ax e=>oy.out k e.symm ax.symm);have bF:=kP;have qM:=bF.cH ec
 have Nj:=bw.cH ec;clear aO ae aj lh kP Ji MR QS;replace I:=eE;clear eE;have aq:=bT.aS
 obtain⟨dj,dY,dV,er,eA⟩:=ec.aS
 have en:∀k,(Value.slice Y (ws.length + 1) gV).ownBlock= some k→¬k= dE.heap.size:=qM;have dI:∀k,(Value.slice bo ad d3).ownBlock= some k→¬k= dE.heap.size:=Nj;clear aq dj dY dV er eA
 refine kG 3 fun IJ jT=>?_
 replace I:=jT.aG I;replace bT:=jT.dJ bT;replace ec:=jT.Dm ec;replace bF:=bF.bY jT en;replace bw:=bw.bY jT dI;have aq:=bT.aS
 obtain⟨dj,dY,dV,er,eA⟩:=ec.aS
 clear en dI
 have en:∀k,(Value.slice Y (ws.length + 1) gV).ownBlock= some k→¬k= w.heap.size + 1:=fun k ax e=>by have:=(bF.lt k ax).1;omega
 have dI:∀k,(Value.slice bo ad d3).ownBlock= some k→¬k= w.heap.size + 1:=fun k ax e=>by have h:=(bw.lt k ax).1;omega
 have Ce:=bT.frozen 0;have Cf:=bT.frozen 1;have Cg:=bT.frozen 2;have Ch:=bT.frozen 3;have Ci:=bT.frozen 4
 go_wp2
 clear aq dj dY dV er eA
 refine gT 0 fun IK kH=>?_
 replace I:=kH.aG I;replace bT:=kH.iK bT;replace ec:=kH.dJ ec;replace bF:=bF.bY kH en;replace bw:=bw.bY kH dI;have aq:=bT.aS
 refine bodyPost_ret (v:= .tuple #[.agg #[ag,af,sp,.slice Y (ws.length + 1) gV,.slice bo ad d3],true]) (by simp [results,Tryz.results238,go_sem,aq]) rfl ?_
 have Ar:(ws ++ [m]).length= ws.length + 1:=by simp
 rw [Ar]
 exact⟨Y,gV,bo,d3,rfl,⟨by rw [Ar];exact bF.base (by omega),bw.base (by omega),by rw [Ar];exact bF.apart bw (by decide)⟩,I⟩
open Go.RowKit Go.G9
theorem anx {f:eD} {k:Nat} {x y:Int} (ay:f.ws[k]? =some x) (hy:f.ws[ko f k]? =some y):ko f (k + 1)= if (eB f.ad x).de < (eB f.ad y).de then k else ko f k:=by
 simp only [ko,ay,hy]
theorem anw {f:eD}:ko f 1= 0:=by have:=AX f 1 (by omega);omega
theorem Xr (ag af sp:Int) (ak:Option Addr) (c2:Nat) (ws:List Int) (al:Option Addr) (c3:Nat) (ad:List aK) (h2:ws.length≤1048576) (h3:ad.length≤1048576) (n2:ak= none→ws= []∧c2= 0) (n3:al= none→ad= []∧c3= 0) (cm:ws.length≤c2) (dS:ad.length≤c3) (h0:0 < ws.length) (w:World) (bm:aJ 1 bU w ak ws) (bl:aJ 3 aK.cells w al ad):
 Calls Tryz.prog 268 #[.agg #[ag,af,sp,.slice ak ws c2,.slice al ad c3]] w fun e ah=>e= .returned (.int .i64 (ko ⟨ag,af,sp,ws,ad⟩ ws.length))∧Below w w ah:=by
 have ea:=J bm;have cS:=J bl;have iY:=J n2;have iR:=J n3;have wT:=J dS;clear bm bl n2 n3 dS
 obtain⟨du,fg,m0,hA2,uC,_,_⟩:=ea.out.at_ (Below.refl _ _) (k:=0) h0
 subst hA2
 clear iY
 go_in
 go_upto_region 1 with fail
 refine cR fun aH av aj=>?_
 have I:=av;have aF:=aj.aS;have VD:=aj.lt;have cD:=J aj;have px:=J I;clear aj aF
 go_wp2
 go_loopw [3,4] (fun v i wr=>∃k:Nat,1≤k∧k≤ws.length∧i= .int .i64 k∧v= .int .i64 (ko ⟨ag,af,sp,ws,ad⟩ k)∧Below aH aH wr) (fun _ i _=>ws.length - (intOf i).toNat)
 case atStart=>exact⟨1,Nat.le_refl _,h0,rfl,by rw [anw];rfl,Below.refl _ _⟩
 case round=>
  obtain⟨k,uN,ax,rfl,rfl,aE⟩:=hrel
  have fP:=cD.out.U aE cD.out.lt;have aF:=aC.kz (fun K:aB wr.heap.size wr=>(fP.U K.U fP.lt));have g3:=(fP.cell 3).trans (show _= some (.slice (some ⟨du,fg,none⟩) ws c2) from rfl);have qj:=AX ⟨ag,af,sp,ws,ad⟩ k (by omega)
  by_cases bn:k < ws.length
  ·have ay:ws[k]? =some ws[k]:=List.getElem?_eq_getElem bn
   have hy:ws[ko ⟨ag,af,sp,ws,ad⟩ k]? =some ws[ko ⟨ag,af,sp,ws,ad⟩ k]:=List.getElem?_eq_getElem (by omega);have iM:=anx (f:=⟨ag,af,sp,ws,ad⟩) ay hy
   simp only at iM
   generalize ws[k]= x at *
   generalize ws[ko ⟨ag,af,sp,ws,ad⟩ k]= y at *
   generalize ko ⟨ag,af,sp,ws,ad⟩ k= j at *
   obtain⟨⟨dZ,iG,xs⟩,OX⟩ :∃s,eB ad x= s:=⟨_,rfl⟩
   obtain⟨⟨ot,po,ys⟩,OY⟩ :∃s,eB ad y= s:=⟨_,rfl⟩
   rw [OX,OY] at iM
   simp only at iM
   have Sp:=J OX;have Sq:=J OY;have BM:=J iM
   have MI:=fun K:aB wr.heap.size wr=>(ye (ea.out.U (ai (ai px.out aE) K.U)) ay (i:=0) (u:= .int .i64 x) rfl)
   have sl:=fun K:aB wr.heap.size wr=>(ye (ea.out.U (ai (ai px.out aE) K.U)) hy (i:=0) (u:= .int .i64 y) rfl)
   simp only [Nat.mul_one,Nat.add_zero] at MI sl
   have e1:=fun W=>(show (Instr.field 214 (.agg #[dZ,iG,xs]) 1).run Tryz.prog W= .ok (.int .i64 iG) W by kernel_rfl)
   have e2:=fun W=>(show (Instr.field 214 (.agg #[ot,po,ys]) 1).run Tryz.prog W= .ok (.int .i64 po) W by kernel_rfl)
   have CG:decide ((k:Int) < (ws.length:Int))= true:=decide_eq_true (by omega);clear OX OY iM ay hy
   by_cases cA:iG < po
   ·have AE:decide (iG < po)= true:=decide_eq_true cA
    go_wp2
    clear g3
    refine eC (by kernel_rfl) (by kernel_rfl) ?_
    repeat (go_big_quiet_step (fail))
    go_big_quiet_step ((go_at_call 267;exact aB.call _ (by first | exact Nat.le_refl _ | omega) (vh ag af sp (some ⟨du,fg,none⟩) ws.length c2 al c3 ad h3 x ⟨dZ,iG,xs⟩ Sp.out _ (cS.out.U (ai (ai px.out aE) (aB.U _))))))
    repeat (go_big_quiet_step (fail))
    go_big_quiet_step ((go_at_call 267;exact aB.call _ (by first | exact Nat.le_refl _ | omega) (vh ag af sp (some ⟨du,fg,none⟩) ws.length c2 al c3 ad h3 y ⟨ot,po,ys⟩ Sq.out _ (cS.out.U (ai (ai px.out aE) (aB.U _))))))
    repeat (go_big_quiet_step (fail))
    refine wpQuiet_nil ?_
    intro K
    clear aF MI sl e1 e2 AE fP
    go_wp2
    go_roundw
    case rel=>exact⟨k + 1,by omega,by omega,by go_num,by rw [BM.out,if_pos cA],ai aE K.U⟩
    case measure=>simp [intOf];omega
   ·have AE:decide (iG < po)= false:=decide_eq_false cA
    go_wp2
    clear g3
    refine eC (by kernel_rfl) (by kernel_rfl) ?_
    repeat (go_big_quiet_step (fail))
    go_big_quiet_step ((go_at_call 267;exact aB.call _ (by first | exact Nat.le_refl _ | omega) (vh ag af sp (some ⟨du,fg,none⟩) ws.length c2 al c3 ad h3 x ⟨dZ,iG,xs⟩ Sp.out _ (cS.out.U (ai (ai px.out aE) (aB.U _))))))
    repeat (go_big_quiet_step (fail))
    go_big_quiet_step ((go_at_call 267;exact aB.call _ (by first | exact Nat.le_refl _ | omega) (vh ag af sp (some ⟨du,fg,none⟩) ws.length c2 al c3 ad h3 y ⟨ot,po,ys⟩ Sq.out _ (cS.out.U (ai (ai px.out aE) (aB.U _))))))
    repeat (go_big_quiet_step (fail))
    refine wpQuiet_nil ?_
    intro K
    clear aF MI sl e1 e2 AE fP
    go_wp2
    go_roundw
    case rel=>exact⟨k + 1,by omega,by omega,by go_num,by rw [BM.out,if_neg (by omega)],ai aE K.U⟩
    case measure=>simp [intOf];omega
  ·obtain rfl:k= ws.length:=by omega
   have CG:decide ((ws.length:Int) < (ws.length:Int))= false:=decide_eq_false (by omega);clear aF
   go_wp2
   go_ret
   exact⟨rfl,ai px.out aE⟩
def KX (xs:List Int) (k:Nat):lu (Option Addr×Nat) where
 par:=fun n=>match n with
  | 4=>[0]
  | _=>[]
 val:=fun n p=>match n with
  | 0=> .slice p.1 0 0
  | 4=> .slice p.1 k p.2
  | _=>undef
 post:=fun n bu p cY V=>match n with
  | 0=>p.1= some ⟨cY.heap.size,0,none⟩∧aC V cY.heap.size 3 #[]
  | 4=>∃g br,(bu 0).1= some ⟨g,0,none⟩∧p.1= some ⟨br,0,none⟩∧aX g 3 1 bU V (.slice p.1 (xs.take k).length p.2) (xs.take k)
  | _=>True
theorem aaM {p:Prop} (h:p:=by
 change wpList _ _ _ (_ ::[]) _ _
 go_wp2
 first | exact hZ ⟨(some ⟨hU.world.heap.size,0,none⟩,0),rfl,ca _ _,rfl,aC.new _ _ _⟩ | exact hZ ⟨some ⟨hU.world.heap.size,0,none⟩,0,rfl,ca _ _,rfl,aC.new _ _ _⟩):p:=h
theorem abb {p:Prop} (h:p:=by
 first | exact hZ ⟨(some ⟨br,0,none⟩,cO),rfl,eZ,gR.heap.size,br,lY.out,rfl,fz⟩ | exact hZ ⟨some ⟨br,0,none⟩,cO,rfl,eZ,gR.heap.size,br,lY.out,rfl,fz⟩):p:=h
theorem adr {p:Prop} (h:p:=by
 have Uv:Below w w HL:=eE.out.grown vZ Br (fun q bf=>by have h9:g5= q:=Option.some.inj bf;omega)
 refine yC ((mm.out _).2 Uv) (dX _ _ ?_)
 refine zC ?_
 refine wpQuiet_nil ?_
 change wpQuiet _ _ _ _ (_ ::[]) _
 try simp only [Act.put]
 try go_simp
 repeat (go_big_quiet_step (fail))
 refine wpQuiet_nil ?_
 go_wp2
 go_ret
 exact⟨Y,gV,rfl,xp,Uv⟩):p:=h
theorem Xu (A:Option Addr) (c:Nat) (xs:List Int) (bd:xs.length≤1048576) (aG:xs.length≤c) (k:Nat) (ax:k < xs.length) (w:World) (R:aJ 1 bU w A xs):
 Calls Tryz.prog 269 #[.slice A xs c,k] w fun e ah=>∃br cO,e= .returned (.slice br (xs.length - 1) cO)∧aX w 3 1 bU ah (.slice br (xs.length - 1) cO) (xs.take k ++ xs.drop (k + 1))∧Below w w ah:=by
 obtain⟨i0,hi,dk,dx,dC⟩:=info_parts rI
 obtain⟨b,o,m0,aU,dU,_,_⟩:=R.at_ (Below.refl _ _) (k:=0) (by omega)
 subst aU
 have bL:=J R;clear R;have mW:Hid ((xs.take k).length= k):=J (by rw [List.length_take];omega);have nA:Hid ((xs.drop (k + 1)).length= xs.length - (k + 1)):=J (by rw [List.length_drop]);have qt:Hid (aJ 1 bU w (some ⟨b,o,none⟩) (xs.take k)):=J (Dr bL.out k);have BE:Hid ((xs.take k ++ xs.drop (k + 1)).length= xs.length - 1):=J (by rw [List.length_append,List.length_take,List.length_drop];omega)
 by_cases gM:k + 1= c
 ·subst gM
  replace nA:Hid ((xs.drop (k + 1)).length= 0):=J (by have:=nA.out;omega);have qq:Hid (aJ 1 bU w (some ⟨b,o,none⟩) (xs.drop (k + 1))):=J (by rw [List.drop_of_length_le (by omega)];exact aJ.nil)
  go_in
  obtain⟨wO,yL⟩ :∃X:World→Prop,∀V,X V↔(Below w w V):=⟨_,fun _=>Iff.rfl⟩
  have mm:=J yL;clear yL
  haveI:Nonempty (cP wO):=⟨⟨w,((mm.out _).2 ((Below.refl _ _)))⟩⟩
  go_upto_region 1 with fail
  refine HQ (KX xs k) wO [([],0),([1,2,3],4)] [5,6,7,8] [([],[],9,false)] [] [10] (by kernel_rfl) (by kernel_rfl) ((mm.out _).2 ((Below.refl _ _).drew)) (fun W eF h k=>((mm.out _).2 (((mm.out _).1 h).trans (k.mono ((mm.out _).1 h).size)))) ?_
  intro bu
  refine iF (some 5) rfl (.slice (bu 0).1 0 0) rfl fun hH eN=>?_
  change wpQuiet _ _ _ _ ([]) _
  refine wpQuiet_nil ?_
  refine⟨fun hU fO=>?_,eN _ ?_⟩
  ·exact aaM
  simp only [Act.put]
  go_simp
  refine iF (some 9) rfl (.slice (bu 4).1 k (bu 4).2) rfl fun hH eN=>?_
  change wpQuiet _ _ _ _ (_ ::_ ::_ ::[]) _
  repeat (go_big_quiet_step (fail))
  refine wpQuiet_nil ?_
  refine⟨fun hU fO=>?_,eN _ ?_⟩
  ·change wpList _ _ _ (_ ::[]) _ _
   obtain⟨gR,uh,qJ,⟨mA,mB⟩,mC⟩:=fO 0 (by simp [KX])
   have mD:=mB.to mC;have jP:(bu 0).1= some ⟨gR.heap.size,0,none⟩:=mA;have qv:=J (qt.out.U ((mm.out _).1 hU.holds));have qu:=J mD;clear mD mB mA qJ mC fO
   rw [jP]
   have lY:=J jP;clear jP
   go_wp2_with ((at_builtin;refine vu rfl _ _ 38 rfl gR.heap.size 3 i0 _ 1 8 Tryz.underlying38 hi dk dx dC rfl (by decide) bU fZ pd gR.heap.size rfl qu.out (Nat.le_refl _) (some ⟨b,o,none⟩) (k + 1) (xs.take k) k mW.out.symm rfl qv.out (fun h=>by cases h) (by have:=mW.out;unfold maxLen;omega) (by have:=mW.out;omega) ?_;intro br cO ah fz eZ))
   exact abb
  simp only [Act.put]
  go_simp
  refine tM ?_
  change wpQuiet _ _ _ _ (_ ::_ ::_ ::_ ::[]) _
  repeat (go_big_quiet_step (fail))
  refine wpQuiet_nil ?_
  intro cY V W aY bK
  obtain⟨g0,g5,e0,e5,zr⟩ :∃g br,(bu 0).1= some ⟨g,0,none⟩∧(bu 4).1= some ⟨br,0,none⟩∧aX g 3 1 bU (V 4) (.slice (bu 4).1 (xs.take k).length (bu 4).2) (xs.take k):=aY.post 4 (by simp)
  obtain⟨a0,_⟩ :(bu 0).1= some ⟨(cY 0).heap.size,0,none⟩∧aC (V 0) (cY 0).heap.size 3 #[]:=aY.post 0 (by simp)
  have t0:(cY 0).heap.size= g0:=by rw [a0] at e0;exact congrArg Addr.block (Option.some.inj e0)
  have iw:=(zr.bh (aY.bh 4 (by simp))).base (B':=w.heap.size) (by rw [← t0];exact (aY.nt 0 (by simp)).size);have Ax:Below w w W:=(aY.whole 4 (by simp)).qZ;have ao:Below w w W:=ai aw (aY.whole 4 (by simp)).qZ;have I:Below w w W:=ao;clear aY zr a0 e0 t0 bK
  generalize bu 4= vl at *
  obtain⟨RJ,d5⟩:=vl
  simp only at iw e5
  subst e5
  rw [mW.out] at iw
  have Br:=Ax.size;have Vx:=iw.lt g5 rfl;have mU:Hid (aX w 3 1 bU W (.slice g5 k d5) (xs.take k)):=J iw;have eE:=J Ax;clear iw
  refine pn fun gr dX=>?_
  refine wpQuiet_nil ?_
  refine wpQuiet_nil ?_
  change wpList _ _ _ (_ ::[]) _ _
  have yx:=J (qq.out.U eE.out)
  go_wp2_with ((at_builtin;refine La rfl _ _ 38 rfl w.heap.size 3 i0 _ 1 8 Tryz.underlying38 hi dk dx dC rfl (by decide) bU fZ pd _ (xs.take k) rfl mU.out (some ⟨b,o,none⟩) (0) (xs.drop (k + 1)) (by rw [nA.out];rfl) yx.out (fun h=>by cases h) (by have h1:=nA.out;have h2:=mW.out;rw [h1,h2];unfold maxLen;omega) (by have h1:=nA.out;have h2:=mW.out;rw [h1,h2];omega) Br ?_;intro v10 HL xp vZ;obtain⟨Y,gV,az,q1,gn,nf⟩:=xp.form fZ;clear q1 gn nf;rw [BE.out] at az;subst az))
  exact adr
 ·skip
  have qq:Hid (aJ 1 bU w (some ⟨b,o + (k + 1),none⟩) (xs.drop (k + 1))):=J (by have h:=HB bL.out (k + 1);rw [Nat.mul_one] at h;exact h)
  go_in
  obtain⟨wO,yL⟩ :∃X:World→Prop,∀V,X V↔(Below w w V):=⟨_,fun _=>Iff.rfl⟩
  have mm:=J yL;clear yL
  haveI:Nonempty (cP wO):=⟨⟨w,((mm.out _).2 ((Below.refl _ _)))⟩⟩
  go_upto_region 1 with fail
  refine HQ (KX xs k) wO [([],0),([1,2,3],4)] [5,6,7,8] [([],[],9,false)] [] [10] (by kernel_rfl) (by kernel_rfl) ((mm.out _).2 ((Below.refl _ _).drew)) (fun W eF h k=>((mm.out _).2 (((mm.out _).1 h).trans (k.mono ((mm.out _).1 h).size)))) ?_
  intro bu
  refine iF (some 5) rfl (.slice (bu 0).1 0 0) rfl fun hH eN=>?_
  change wpQuiet _ _ _ _ ([]) _
  refine wpQuiet_nil ?_
  refine⟨fun hU fO=>?_,eN _ ?_⟩
  ·exact aaM
  simp only [Act.put]
  go_simp
  refine iF (some 9) rfl (.slice (bu 4).1 k (bu 4).2) rfl fun hH eN=>?_
  change wpQuiet _ _ _ _ (_ ::_ ::_ ::[]) _
  repeat (go_big_quiet_step (fail))
  refine wpQuiet_nil ?_
  refine⟨fun hU fO=>?_,eN _ ?_⟩
  ·change wpList _ _ _ (_ ::[]) _ _
   obtain⟨gR,uh,qJ,⟨mA,mB⟩,mC⟩:=fO 0 (by simp [KX])
   have mD:=mB.to mC;have jP:(bu 0).1= some ⟨gR.heap.size,0,none⟩:=mA;have qv:=J (qt.out.U ((mm.out _).1 hU.holds));have qu:=J mD;clear mD mB mA qJ mC fO
   rw [jP]
   have lY:=J jP;clear jP
   go_wp2_with ((at_builtin;refine vu rfl _ _ 38 rfl gR.heap.size 3 i0 _ 1 8 Tryz.underlying38 hi dk dx dC rfl (by decide) bU fZ pd gR.heap.size rfl qu.out (Nat.le_refl _) (some ⟨b,o,none⟩) c (xs.take k) k mW.out.symm rfl qv.out (fun h=>by cases h) (by have:=mW.out;unfold maxLen;omega) (by have:=mW.out;omega) ?_;intro br cO ah fz eZ))
   exact abb
  simp only [Act.put]
  go_simp
  refine tM ?_
  change wpQuiet _ _ _ _ (_ ::_ ::_ ::_ ::[]) _
  repeat (go_big_quiet_step (fail))
  refine wpQuiet_nil ?_
  intro cY V W aY bK
  obtain⟨g0,g5,e0,e5,zr⟩ :∃g br,(bu 0).1= some ⟨g,0,none⟩∧(bu 4).1= some ⟨br,0,none⟩∧aX g 3 1 bU (V 4) (.slice (bu 4).1 (xs.take k).length (bu 4).2) (xs.take k):=aY.post 4 (by simp)
  obtain⟨a0,_⟩ :(bu 0).1= some ⟨(cY 0).heap.size,0,none⟩∧aC (V 0) (cY 0).heap.size 3 #[]:=aY.post 0 (by simp)
  have t0:(cY 0).heap.size= g0:=by rw [a0] at e0;exact congrArg Addr.block (Option.some.inj e0)
  have iw:=(zr.bh (aY.bh 4 (by simp))).base (B':=w.heap.size) (by rw [← t0];exact (aY.nt 0 (by simp)).size);have Ax:Below w w W:=(aY.whole 4 (by simp)).qZ;have ao:Below w w W:=ai aw (aY.whole 4 (by simp)).qZ;have I:Below w w W:=ao;clear aY zr a0 e0 t0 bK
  generalize bu 4= vl at *
  obtain⟨RJ,d5⟩:=vl
  simp only at iw e5
  subst e5
  rw [mW.out] at iw
  have Br:=Ax.size;have Vx:=iw.lt g5 rfl;have mU:Hid (aX w 3 1 bU W (.slice g5 k d5) (xs.take k)):=J iw;have eE:=J Ax;clear iw
  refine pn fun gr dX=>?_
  refine wpQuiet_nil ?_
  refine wpQuiet_nil ?_
  change wpList _ _ _ (_ ::[]) _ _
  have yx:=J (qq.out.U eE.out)
  go_wp2_with ((at_builtin;refine La rfl _ _ 38 rfl w.heap.size 3 i0 _ 1 8 Tryz.underlying38 hi dk dx dC rfl (by decide) bU fZ pd _ (xs.take k) rfl mU.out (some ⟨b,o + (k + 1),none⟩) (c - (k + 1)) (xs.drop (k + 1)) (by rw [nA.out];rfl) yx.out (fun h=>by cases h) (by have h1:=nA.out;have h2:=mW.out;rw [h1,h2];unfold maxLen;omega) (by have h1:=nA.out;have h2:=mW.out;rw [h1,h2];omega) Br ?_;intro v10 HL xp vZ;obtain⟨Y,gV,az,q1,gn,nf⟩:=xp.form fZ;clear q1 gn nf;rw [BE.out] at az;subst az))
  exact adr
theorem acL {p:Prop} (h:p:=by
 go_in
 go_upto_region 1 with fail
 refine fp fun aH av aj ae=>?_
 have I:=av;have aF:=aj.aS;have aq:=ae.aS;have VD:=aj.lt;have gv:=ae.lt
 go_wp2_with fail
 refine (mI ag af sp ak ws c2 al c3 ad h2 h3 cm _ bD.out _ (ea.out.U (ai I aw)) (cS.out.U (ai I aw))).mono ?_
 rintro e aQ ⟨rfl,aP⟩
 have ao:=be aH aP;replace I:=ai I ao;replace aj:=aj.to ao;clear aF;have aF:=aj.aS;replace ae:=ae.to ao;clear aq;have aq:=ae.aS;have ez:=ae.jh;have Bw:=aj.lt;have rX:=ae.lt
 go_wp2
 clear aF aq
 refine gT 0 fun cQ aD=>?_
 replace I:=aD.aG I;replace aj:=aD.dJ aj;replace ae:=aD.iK ae;have arl:=aD.sz;have aF:=aj.aS;have aq:=ae.aS
 exact hc ⟨rfl,I⟩ (by simp [results,Tryz.results239,go_sem,aq])):p:=h
theorem aqh (ag af sp:Int) (ak:Option Addr) (c2:Nat) (ws:List Int) (al:Option Addr) (c3:Nat) (ad:List aK) (h2:ws.length≤1048576) (h3:ad.length≤1048576) (n2:ak= none→ws= []∧c2= 0) (n3:al= none→ad= []∧c3= 0) (cm:ws.length≤c2) (dS:ad.length≤c3) (az:mK ⟨ag,af,sp,ws,ad⟩ =false) (w:World) (bm:aJ 1 bU w ak ws) (bl:aJ 3 aK.cells w al ad):
 Calls Tryz.prog 239 #[.agg #[ag,af,sp,.slice ak ws c2,.slice al ad c3]] w fun e ah=>e= .returned (.tuple #[.agg #[(0:Int),(0:Int),(0:Int),.slice none 0 0,.slice none 0 0],(0:Int),false])∧Below w w ah:=by
 have ea:=J bm;have cS:=J bl;have iY:=J n2;have iR:=J n3;have wT:=J dS;clear bm bl n2 n3 dS
 cases hf:gl ag af sp ws ad
 ·have bD:=J hf
  clear hf az
  exact acL
 ·cases aZ:(sp == 0)
  case false=>
   have GG:(sp != 0)= true:=by rw [bne,aZ];rfl
   have bD:=J hf;clear hf az aZ
   exact acL
  case true=>
   have rF:ws.length= 0:=by
    exact aco
   have GG:(sp != 0)= false:=by rw [bne,aZ];rfl
   obtain rfl:=List.length_eq_zero_iff.1 rF
   have bD:=J hf;clear hf az aZ rF
   go_in
   go_upto_region 1 with fail
   refine fp fun aH av aj ae=>?_
   have I:=av;have aF:=aj.aS;have aq:=ae.aS;have VD:=aj.lt;have gv:=ae.lt
   go_wp2_with fail
   refine (mI ag af sp ak [] c2 al c3 ad h2 h3 cm _ bD.out _ (ea.out.U (ai I aw)) (cS.out.U (ai I aw))).mono ?_
   rintro e aQ ⟨rfl,aP⟩
   have ao:=be aH aP;replace I:=ai I ao;replace aj:=aj.to ao;clear aF;have aF:=aj.aS;replace ae:=ae.to ao;clear aq;have aq:=ae.aS;have ez:=ae.jh;have Bw:=aj.lt;have rX:=ae.lt
   go_wp2
   clear aF aq
   refine gT 0 fun cQ aD=>?_
   replace I:=aD.aG I;replace aj:=aD.dJ aj;replace ae:=aD.iK ae;have arl:=aD.sz;have aF:=aj.aS;have aq:=ae.aS
   exact hc ⟨rfl,I⟩ (by simp [results,Tryz.results239,go_sem,aq])
open Go.RowKit Go.G9
theorem ams (ag af sp:Int) (ak:Option Addr) (c2:Nat) (ws:List Int) (al:Option Addr) (c3:Nat) (ad:List aK) (h2:ws.length≤1048576) (h3:ad.length≤1048576) (n2:ak= none→ws= []∧c2= 0) (n3:al= none→ad= []∧c3= 0) (cm:ws.length≤c2) (dS:ad.length≤c3) (h0:0 < ws.length) (k:Nat) (ax:ko ⟨ag,af,sp,ws,ad⟩ ws.length= k) (w:World) (bm:aJ 1 bU w ak ws) (bl:aJ 3 aK.cells w al ad):
 Calls Tryz.prog 268 #[.agg #[ag,af,sp,.slice ak ws c2,.slice al ad c3]] w fun e ah=>e= .returned k∧Below w w ah:=by
 subst ax
 exact Xr ag af sp ak c2 ws al c3 ad h2 h3 n2 n3 cm dS h0 w bm bl
theorem aqi (ag af sp:Int) (ak:Option Addr) (c2:Nat) (ws:List Int) (al:Option Addr) (c3:Nat) (ad:List aK) (h2:ws.length≤1048576) (h3:ad.length≤1048576) (n2:ak= none→ws= []∧c2= 0) (n3:al= none→ad= []∧c3= 0) (cm:ws.length≤c2) (dS:ad.length≤c3) (az:mK ⟨ag,af,sp,ws,ad⟩ =true) (m:Int) (hm:sI ⟨ag,af,sp,ws,ad⟩ =some m) (w:World) (bm:aJ 1 bU w ak ws) (bl:aJ 3 aK.cells w al ad):
 Calls Tryz.prog 239 #[.agg #[ag,af,sp,.slice ak ws c2,.slice al ad c3]] w fun e ah=>∃bk d2 bo d3,e= .returned (.tuple #[.agg #[ag,af,m,.slice bk (ws.filter fun x=>!(x == m)).length d2,.slice bo ad d3],m,true])∧jH w.heap.size ah bk d2 bo d3 (ws.filter fun x=>!(x == m)) ad∧Below w w ah:=by
 have ea:=J bm;have cS:=J bl;have iY:=J n2;have iR:=J n3;have wT:=J dS;clear bm bl n2 n3 dS
 obtain⟨gC,aZ,rF⟩ :gl ag af sp ws ad= true∧(sp == 0)= true∧0 < ws.length:=by
  simpa [mK,eD.ok] using az
 have GG:(sp != 0)= false:=by rw [bne,aZ];rfl
 have cA:((ws.length:Int) == 0)= false:=beq_eq_false_iff_ne.2 (by omega);have qO:=AX ⟨ag,af,sp,ws,ad⟩ ws.length rF
 obtain⟨k,ax⟩ :∃k,ko ⟨ag,af,sp,ws,ad⟩ ws.length= k:=⟨_,rfl⟩
 have ay:ws[k]? =some m:=by rw [← ax];exact hm
 rw [ax] at qO
 rw [ahE (lg.1 (show (⟨ag,af,sp,ws,ad⟩ :eD).ok= true from gC)).ee ay]
 have jA:(ws.take k ++ ws.drop (k + 1)).length= ws.length - 1:=by rw [List.length_append,List.length_take,List.length_drop];omega
 rw [jA]
 obtain⟨du,fg,m0,hA2,uC,kV,bq⟩:=ea.out.at_ (Below.refl _ _) (k:=0) rF
 subst hA2
 have bD:=J gC;have fT:=J ax;have cg:=J ay;have RW:=J jA;clear gC ax ay az hm aZ jA iY kV bq;have iY:Hid ((some ⟨du,fg,none⟩ :Option Addr)= none→ws= []∧c2= 0):=J (fun h=>by cases h)
 go_in
 go_upto_region 1 with fail
 refine fp fun aH av aj ae=>?_
 have I:=av;have aF:=aj.aS;have aq:=ae.aS;have gv:=ae.lt
 go_wp2_with fail
 refine (mI ag af sp (some ⟨du,fg,none⟩) ws c2 al c3 ad h2 h3 cm _ bD.out _ (ea.out.U (ai I aw)) (cS.out.U (ai I aw))).mono ?_
 rintro e aQ ⟨rfl,aP⟩
 have ao:=be aH aP;replace I:=ai I ao;replace aj:=aj.to ao;clear aF;have aF:=aj.aS;replace ae:=ae.to ao;clear aq;have aq:=ae.aS
 go_wp2_with fail
 refine (ams ag af sp (some ⟨du,fg,none⟩) c2 ws al c3 ad h2 h3 iY.out iR.out cm wT.out rF k fT.out _ (ea.out.U (ai I aw)) (cS.out.U (ai I aw))).mono ?_
 rintro e bA ⟨rfl,bC⟩
 have aL:=be aQ bC;replace I:=ai I aL;replace aj:=aj.to aL;clear aF;have aF:=aj.aS;replace ae:=ae.to aL;clear aq;have aq:=ae.aS
 go_wp2_with fail
 refine (Hc ag af sp (some ⟨du,fg,none⟩) c2 ws al c3 ad h2 h3 iY.out iR.out _ (ea.out.U (ai I aw)) (cS.out.U (ai I aw))).mono ?_
 rintro e cf ⟨bk,d2,bo,d3,rfl,dr,cZ⟩
 have bV:=be bA cZ;replace I:=ai I bV;replace aj:=aj.to bV;clear aF;have aF:=aj.aS;replace ae:=ae.to bV;clear aq;have aq:=ae.aS;have vp:=I.size;have KS:=ao.size;have QF:=aL.size;have QG:=bV.size
 go_upto_region 5 with fail
 have bw:=dr.fF.bh (ca cf (.cells #[ag,af,sp,.slice bk ws d2,.slice bo ad d3] 41));clear dr;have cG:Below cf cf (World.alloc cf (.cells #[ag,af,sp,.slice bk ws d2,.slice bo ad d3] 41)):=ca cf _
 have aO:=aC.new cf 41 #[ag,af,sp,.slice bk ws d2,.slice bo ad d3]
 generalize World.alloc cf (.cells #[ag,af,sp,.slice bk ws d2,.slice bo ad d3] 41)= om at *
 replace I:=ai I cG;have bG:=aO.aS;clear aF;replace aj:=aj.to cG;have aF:=aj.aS;clear aq;replace ae:=ae.to cG;have aq:=ae.aS;have oC:=ye (ea.out.U I) cg.out (i:=0) (u:= .int .i64 m) rfl
 simp only [Nat.mul_one,Nat.add_zero] at oC
 have qG:=aO.frozen 2;have dI:=bw.cH aO
 go_upto_region 6 with fail
 clear oC;clear aF aq bG
 refine kG 2 fun nj eU=>?_
 replace I:=eU.aG I;replace aj:=eU.dJ aj;replace ae:=eU.dJ ae;replace aO:=eU.Kt aO;replace bw:=bw.bY eU dI;have aF:=aj.aS;have aq:=ae.aS;have bG:=aO.aS;clear dI qG;have arp:=aO.lt
 go_wp2_with fail
 refine (Xu (some ⟨du,fg,none⟩) c2 ws h2 cm k qO _ (ea.out.U (ai I aw))).mono ?_
 rintro e hX ⟨Y,gV,rfl,mX,pE⟩
 have fb:=be nj pE;replace I:=ai I fb;replace bw:=bw.bh fb;replace aj:=aj.to fb;clear aF;have aF:=aj.aS;replace ae:=ae.to fb;clear aq;have aq:=ae.aS;replace aO:=aO.to fb;clear bG;have bG:=aO.aS;have so:=aO.frozen 3
 go_upto_region 7 with fail
 have dI:=bw.cH aO;have xV:=mX.cH aO;clear aF aq bG
 refine kG 3 fun mb eQ=>?_
 replace I:=eQ.aG I;replace aj:=eQ.dJ aj;replace ae:=eQ.dJ ae;replace aO:=eQ.Dm aO;replace bw:=bw.bY eQ dI;replace mX:=mX.bY eQ xV;have aF:=aj.aS;have aq:=ae.aS;have bG:=aO.aS;clear dI xV so
 obtain⟨sQ,FH⟩ :∃X:World→Prop,∀V,X V↔(Below w w V∧aC V (w.heap.size) 41 #[ag,af,sp,.slice (some ⟨du,fg,none⟩) ws c2,.slice al ad c3]∧aC V (cf.heap.size) 41 #[ag,af,m,.slice Y (ws.length - 1) gV,.slice bo ad d3]):=⟨_,fun _=>Iff.rfl⟩
 have lI:=J FH;clear FH
 haveI:Nonempty (cP sQ):=⟨⟨mb,((lI.out _).2 ⟨I,aj,aO⟩)⟩⟩
 clear aF;clear aq;clear bG;have aF:=aC.kz (fun K:cP sQ=>((lI.out _).1 K.holds).2.1);have bG:=aC.kz (fun K:cP sQ=>((lI.out _).1 K.holds).2.2)
 have oC:=fun K:cP sQ=>ye (ea.out.U ((lI.out _).1 K.holds).1) cg.out (i:=0) (u:= .int .i64 m) rfl
 simp only [Nat.mul_one,Nat.add_zero] at oC
 refine HR sQ [([0,1,2,3,4,5],[],6,false)] [] [7,8] (by kernel_rfl) (by kernel_rfl) ((lI.out _).2 ⟨I.drew,aj,aO⟩) ?_
 refine pn fun K gg=>?_
 change wpQuiet _ _ _ _ (_ ::_ ::_ ::_ ::_ ::_ ::[]) _
 repeat (go_big_quiet_step (fail))
 refine wpQuiet_nil ?_
 refine wpQuiet_nil ?_
 change wpList _ _ _ (_ ::[]) _ _
 have fR:=(Below.refl mb.heap.size mb).drew;replace I:Below w w mb.drew:=I.drew;have bT:=ae.to fR;have ec:=aO.to fR;have FJ:=aj.to fR;replace bw:=bw.bh fR;replace mX:=mX.bh fR;clear ae aO aj bG aF fR oC
 generalize mb.drew= Ms at *
 have aq:=bT.aS;have Ce:=bT.frozen 0;have Cf:=bT.frozen 1;have Cg:=bT.frozen 2;have Ch:=bT.frozen 3;have Ci:=bT.frozen 4;have dI:=bw.cH bT;have xV:=mX.cH bT
 go_wp2
 clear aq
 refine gT 0 fun SK pj=>?_
 replace I:=pj.aG I;replace bT:=pj.iK bT;replace FJ:=pj.dJ FJ;replace ec:=pj.dJ ec;replace bw:=bw.bY pj dI;replace mX:=mX.bY pj xV;have aq:=bT.aS
 refine yC ((lI.out _).2 ⟨I,FJ,ec⟩) (gg _ _ ?_)
 refine zC ?_
 refine wpQuiet_nil ?_
 change wpQuiet _ _ _ _ (_ ::_ ::[]) _
 repeat (go_big_quiet_step (fail))
 refine wpQuiet_nil ?_
 go_wp2
 refine bodyPost_ret (v:= .tuple #[.agg #[ag,af,m,.slice Y (ws.length - 1) gV,.slice bo ad d3],m,true]) (by simp [results,Tryz.results239,go_sem,aq]) rfl ?_
 exact⟨Y,gV,bo,d3,rfl,⟨by rw [RW.out];exact mX.base (by omega),bw.base (by omega),by rw [RW.out];exact mX.apart bw (by decide)⟩,I⟩
end Go.Proofs.YtlaaemmmbodaaaaGreatDoor
