/- Parts. -/
import Derived.Test.YtlaaemmmbodaaaaGreatDoorRs3
import Derived.Laws.NewBlocks
import Derived.Lib.AppendZerosOnto
import Derived.Lib.Overlaps
set_option maxHeartbeats 16000000
set_option maxRecDepth 100000
set_option linter.unnecessarySimpa false
set_option linter.unusedSimpArgs false
set_option linter.unusedVariables false
namespace Go.Proofs.YtlaaemmmbodaaaaGreatDoor
open Go.RowKit Go.G9
def ki (os:List Out):Nat→List Int
 | 0=>[]
 | k + 1=>match os[k]? with | some o=>if o.hz then ki os k ++ [o.fU] else ki os k | none=>ki os k
theorem Aa (os:List Out):∀k,(ki os k).length≤k
 | 0=>Nat.le_refl _
 | k + 1=>by
  have:=Aa os k
  unfold ki
  split
  ·split <;> simp <;> omega
  ·omega
def oW (m:cF):List Int:=if pL m then ki m.bt m.bt.length else []
theorem SU {os:List Out} {k:Nat} {o:Out} (ay:os[k]? =some o) (h:o.hz= true):ki os (k + 1)= ki os k ++ [o.fU]:=by simp [ki,ay,h]
theorem SS {os:List Out} {k:Nat} {o:Out} (ay:os[k]? =some o) (h:o.hz= false):ki os (k + 1)= ki os k:=by simp [ki,ay,h]
theorem abP {p:Prop} (h:p:=by
 go_roundw
 case rel=>exact⟨k + 1,by omega,by go_num,by rw [lV.out];exact eX,ze⟩
 case measure=>simp [intOf];omega):p:=h
theorem ako (m:cF) (an ar ak al aA:Option Addr) (c0 au c2 c3 c4:Nat) (h0:m.bx.length≤1048576) (h1:m.bH.length≤1048576) (h2:m.bJ.length≤1048576) (h3:m.bM.length≤1048576) (h4:m.bt.length≤1048576) (w:World) (aW:aJ 7 aM.cells w an m.bx) (aV:aJ 3 aN.cells w ar m.bH) (bm:aJ 1 bU w ak m.bJ) (bl:aJ 3 aK.cells w al m.bM) (bZ:aJ 3 Out.cells w aA m.bt) (dP:m.bx.length≤c0) (eh:m.bH.length≤au) (cm:m.bJ.length≤c2) (dS:m.bM.length≤c3) (gD:m.bt.length≤c4):
 Calls Tryz.prog 176 #[.agg #[.slice an m.bx c0,.slice ar m.bH au,m.de,m.cU,m.dH,.slice ak m.bJ c2,.slice al m.bM c3,.slice aA m.bt c4]] w fun e ah=>∃A c,e= .returned (.tuple #[.slice A (oW m).length c,.bool (pL m)])∧aX w 3 1 bU ah (.slice A (oW m).length c) (oW m)∧Below w w ah:=by
 obtain⟨i0,hi,dk,dx,dC⟩:=info_parts rI
 cases aE:pL m
 ·have bD:=J aE
  have aU:oW m= []:=by simp [oW,aE]
  rw [aU]
  clear aE aU
  go_in
  go_upto_region 1 with fail
  refine cR fun aH av aY=>?_
  replace aW:=aW.U av;replace aV:=aV.U av;replace bm:=bm.U av;replace bl:=bl.U av;replace bZ:=bZ.U av;have I:=av;have cE:=aY.aI
  go_wp2_with fail
  refine (AK m an ar ak al aA c0 au c2 c3 c4 h0 h1 h2 h3 h4 _ bD.out _ (aW.U aw) (aV.U aw) (bm.U aw) (bl.U aw) (bZ.U aw) dP eh cm dS gD).mono ?_
  rintro e aQ ⟨rfl,aP⟩
  have ao:=be aH aP;replace I:=ai I ao;clear cE
  go_wp2
  go_ret2
  exact⟨none,0,rfl,aX.nil,(ai I aw)⟩
 ·have bD:=J aE
  have aU:oW m= ki m.bt m.bt.length:=by simp [oW,aE]
  rw [aU]
  clear aE aU
  go_in
  go_upto_region 1 with fail
  refine cR fun aH av aY=>?_
  replace aW:=aW.U av;replace aV:=aV.U av;replace bm:=bm.U av;replace bl:=bl.U av;replace bZ:=bZ.U av;have I:=av;have cE:=aY.aI
  go_wp2_with fail
  refine (AK m an ar ak al aA c0 au c2 c3 c4 h0 h1 h2 h3 h4 _ bD.out _ (aW.U aw) (aV.U aw) (bm.U aw) (bl.U aw) (bZ.U aw) dP eh cm dS gD).mono ?_
  rintro e aQ ⟨rfl,aP⟩
  have ao:=be aH aP;replace I:=ai I ao;replace bZ:=bZ.U ao;replace aY:=aY.to ao;clear cE;have cE:=aY.aI;have hL:=aX.made (f:=bU) (sz:=1) aQ (B:=aQ.heap.size) (Nat.le_refl _) 3;have ry:=I.size;have wN:=aY.lt
  go_wp2
  clear cE
  go_loopw [4,14] (fun y i wr=>∃k:Nat,k≤m.bt.length∧i= .int .i64 k∧aX aQ 3 1 bU wr y (ki m.bt k)∧Below aQ aQ wr) (fun _ i _=>m.bt.length - (intOf i).toNat)
  case atStart=>exact⟨0,Nat.zero_le _,rfl,hL,ca _ _⟩
  case round=>
   obtain⟨k,ax,rfl,bR,aE⟩:=hrel
   by_cases bn:k < m.bt.length
   ·obtain⟨ey,gN,x,rfl,dU,ay,bq⟩:=bZ.at_ aE bn
    obtain⟨ha,dZ,jn⟩:=x
    have cy:=bq 0 _ rfl;have dD:=bq 1 _ rfl;have di:=bq 2 _ rfl
    simp only [Nat.add_zero] at cy
    have g0:=cy (aB.self _);have g1:=dD (aB.self _);have g2:=di (aB.self _)
    simp only [aB.self] at g0
    simp only [aB.self] at g1
    simp only [aB.self] at g2
    have cg:=J ay;clear ay bq cy dD di
    go_upto_region 7 with fail
    have rz:=bR.alloc (.cells #[ha,dZ,jn] 163);have bp:=aC.new wr 163 #[ha,dZ,jn];have iT:=aE.alloc aE.size (.cells #[ha,dZ,jn] 163)
    generalize wr.alloc (.cells #[ha,dZ,jn] 163)= hF at *
    clear g0 g1 g2 bR;have dj:=(bp.cell 0).trans (show _= some (.int .i64 ha) from rfl);have dV:=(bp.cell 2).trans (show _= some (.bool jn) from rfl)
    cases jn
    ·have cX:=SS cg.out rfl
     exact Rh
    ·have cX:=SU cg.out rfl
     have lV:=J cX;clear cX
     go_wp2_with ((at_builtin;refine kJ rfl _ _ 38 rfl aQ.heap.size 3 i0 _ 1 8 Tryz.underlying38 hi dk dx dC rfl (by decide) bU fZ pd _ (ki m.bt k) rfl (rz.alloc _) ⟨hF.heap.size,0,none⟩ 1 ha rfl (aJ.one _ _) (by have:=Aa m.bt k;unfold maxLen;omega) (by have:=Aa m.bt k;omega) (by have:=iT.size;simp;omega) ?_;intro v4 cf eX fs kC))
     have ze:Below aQ aQ cf:=(iT.alloc iT.size _).grown fs (by have:=iT.size;simp;omega) (fun q bf=>(rz.lt q bf).1)
     exact abP
   ·obtain rfl:k= m.bt.length:=by omega
    obtain⟨Y,gV,rfl,_,_,_⟩:=bR.form fZ
    go_wp2
    go_ret2
    exact⟨Y,gV,rfl,bR.base ry,ai I aE⟩
theorem apt (m:cF) (an ar ak al aA:Option Addr) (c0 au c2 c3 c4:Nat) (h0:m.bx.length≤1048576) (h1:m.bH.length≤1048576) (h2:m.bJ.length≤1048576) (h3:m.bM.length≤1048576) (h4:m.bt.length≤1048576) (w:World) (aW:aJ 7 aM.cells w an m.bx) (aV:aJ 3 aN.cells w ar m.bH) (bm:aJ 1 bU w ak m.bJ) (bl:aJ 3 aK.cells w al m.bM) (bZ:aJ 3 Out.cells w aA m.bt) (dP:m.bx.length≤c0) (eh:m.bH.length≤au) (cm:m.bJ.length≤c2) (dS:m.bM.length≤c3) (gD:m.bt.length≤c4):
 Calls Tryz.prog 192 #[.agg #[.slice an m.bx c0,.slice ar m.bH au,m.de,m.cU,m.dH,.slice ak m.bJ c2,.slice al m.bM c3,.slice aA m.bt c4]] w fun e ah=>∃A c,e= .returned (.tuple #[.slice A (oW m).length c,.bool (pL m)])∧aX w 3 1 bU ah (.slice A (oW m).length c) (oW m)∧Below w w ah:=by
 obtain⟨i0,hi,dk,dx,dC⟩:=info_parts rI
 cases aE:pL m
 ·have bD:=J aE
  have aU:oW m= []:=by simp [oW,aE]
  rw [aU]
  clear aE aU
  go_in
  go_upto_region 1 with fail
  refine cR fun aH av aY=>?_
  replace aW:=aW.U av;replace aV:=aV.U av;replace bm:=bm.U av;replace bl:=bl.U av;replace bZ:=bZ.U av;have I:=av
  obtain⟨eb,ds,du,ew,fm,hJ,ia,fW⟩:=aY.aI
  go_upto_region 2 with fail
  have bR:=aX.made (f:=bU) (sz:=1) aH (B:=aH.heap.size) (Nat.le_refl _) 3;have Cv:=I.size;have eJ:Below aH aH (aH.alloc (.cells #[] 3)):=ca _ _
  generalize FO:aH.alloc (.cells #[] 3)= kr at *
  have fz:=J bR;clear bR;have ao:=be aH eJ;replace I:=ai I ao;replace aW:=aW.U ao;replace aV:=aV.U ao;replace bm:=bm.U ao;replace bl:=bl.U ao;replace bZ:=bZ.U ao;replace aY:=aY.to ao;clear eb ds du ew fm hJ ia fW
  obtain⟨eb,ds,du,ew,fm,hJ,ia,fW⟩:=aY.aI
  go_wp2_with fail
  refine (AP m an ar ak al aA c0 au c2 c3 c4 h0 h1 h2 h3 h4 _ bD.out _ (aW.U aw) (aV.U aw) (bm.U aw) (bl.U aw) (bZ.U aw) dP eh cm dS gD).mono ?_
  rintro e bA ⟨rfl,bC⟩
  have aL:=be kr bC;replace I:=ai I aL;replace aY:=aY.to aL;clear eb ds du ew fm hJ ia fW;have bR:=fz.out.bh aL
  go_wp2
  go_ret2
  exact⟨_,0,rfl,bR.base Cv,(ai I aw)⟩
 ·have bD:=J aE
  have aU:oW m= ki m.bt m.bt.length:=by simp [oW,aE]
  rw [aU]
  clear aE aU
  go_in
  go_upto_region 1 with fail
  refine cR fun aH av aY=>?_
  replace aW:=aW.U av;replace aV:=aV.U av;replace bm:=bm.U av;replace bl:=bl.U av;replace bZ:=bZ.U av;have I:=av
  obtain⟨eb,ds,du,ew,fm,hJ,ia,fW⟩:=aY.aI
  go_upto_region 2 with fail
  have bR:=aX.made (f:=bU) (sz:=1) aH (B:=aH.heap.size) (Nat.le_refl _) 3;have dQ:=J aY;have EY:=J bZ;have yu:=J I;have Cv:=I.size;have eJ:Below aH aH (aH.alloc (.cells #[] 3)):=ca _ _
  generalize FO:aH.alloc (.cells #[] 3)= kr at *
  have fz:=J bR;clear bR;have ao:=be aH eJ;replace aW:=aW.U ao;replace aV:=aV.U ao;replace bm:=bm.U ao;replace bl:=bl.U ao;replace bZ:=bZ.U ao;replace aY:=aY.to ao;clear eb ds du ew fm hJ ia fW
  obtain⟨eb,ds,du,ew,fm,hJ,ia,fW⟩:=aY.aI
  go_wp2_with fail
  refine (AP m an ar ak al aA c0 au c2 c3 c4 h0 h1 h2 h3 h4 _ bD.out _ (aW.U aw) (aV.U aw) (bm.U aw) (bl.U aw) (bZ.U aw) dP eh cm dS gD).mono ?_
  rintro e bA ⟨rfl,bC⟩
  have aL:=be kr bC;replace aY:=aY.to aL;clear eb ds du ew fm hJ ia fW
  obtain⟨eb,ds,du,ew,fm,hJ,ia,fW⟩:=aY.aI
  have bR:=fz.out.bh aL;have ahW:=ai eJ aL
  go_wp2
  clear eb ds du ew fm hJ ia fW aY aW aV bm bl bZ I
  go_loopw [4,5] (fun y i wr=>∃k:Nat,k≤m.bt.length∧i= .int .i64 k∧aX aH 3 1 bU wr y (ki m.bt k)∧Below aH aH wr) (fun _ i _=>m.bt.length - (intOf i).toNat)
  case atStart=>exact⟨0,Nat.zero_le _,rfl,bR,ahW⟩
  case round=>
   clear bR
   obtain⟨k,ax,rfl,bR,aE⟩:=hrel
   have aY:=dQ.out.U aE dQ.out.lt
   by_cases bn:k < m.bt.length
   ·obtain⟨ey,gN,x,uv,dU,ay,bq⟩:=EY.out.at_ aE bn
    obtain⟨ha,dZ,jn⟩:=x
    have fW:=(aY.cell 7).trans (show _= some (.slice aA m.bt c4) from rfl)
    subst uv
    have cy:=bq 0 _ rfl;have dD:=bq 1 _ rfl;have di:=bq 2 _ rfl
    simp only [Nat.add_zero] at cy
    have g0:=cy (aB.self _);have g1:=dD (aB.self _);have g2:=di (aB.self _)
    simp only [aB.self] at g0
    simp only [aB.self] at g1
    simp only [aB.self] at g2
    have cg:=J ay;clear ay bq cy dD di
    cases jn
    ·have cX:=SS cg.out rfl
     have lV:=J cX;clear cX
     go_wp2
     go_roundw
     case rel=>exact⟨k + 1,by omega,by go_num,by rw [lV.out];exact bR,aE⟩
     case measure=>simp [intOf];omega
    ·have cX:=SU cg.out rfl
     have lV:=J cX;clear cX;have rz:=bR;have iT:=aE
     go_wp2_with ((at_builtin;refine kJ rfl _ _ 38 rfl aH.heap.size 3 i0 _ 1 8 Tryz.underlying38 hi dk dx dC rfl (by decide) bU fZ pd _ (ki m.bt k) rfl (rz.alloc _) ⟨wr.heap.size,0,none⟩ 1 ha rfl (aJ.one _ _) (by have:=Aa m.bt k;unfold maxLen;omega) (by have:=Aa m.bt k;omega) (by have:=iT.size;simp;omega) ?_;intro v4 cf eX fs kC))
     have ze:Below aH aH cf:=(iT.alloc iT.size _).grown fs (by have:=iT.size;simp;omega) (fun q bf=>(rz.lt q bf).1)
     exact abP
   ·obtain rfl:k= m.bt.length:=by omega
    obtain⟨Y,gV,rfl,_,_,_⟩:=bR.form fZ
    have fW:=(aY.cell 7).trans (show _= some (.slice aA m.bt c4) from rfl)
    go_wp2
    go_ret2
    exact⟨Y,gV,rfl,bR.base Cv,ai yu.out aE⟩
end Go.Proofs.YtlaaemmmbodaaaaGreatDoor
namespace Go.G9
open Go.RowKit
theorem zB {P:Program} {w:World} {ops:Array Oper} {rest:List Oper} {o:Oper} {a:Act} {Q:Exit→Act→World→Prop} (nw:o.guard= none) (s x:Operand) (t:TypeId)
  (dd:o.op= .call {callee:= .builtin .append,args:=#[s,x],argTypes:=#[t,t]})
  (B:Nat) (e:TypeId) (i:TypeInfo) (z:Value) (sz bytes:Nat) (cA:P.underlying t= some (.slice e)) (hi:P.info? e= some i) (cb:i.zero= some z)
  (uU:i.size= sz) (uD:i.bytes= bytes) (vf:z.cells.size= sz) (eW:0 < sz) {T:Type} (f:T→List Value) (hf:∀y,(f y).length= sz) (kl:∀y u,u ∈ f y→u.oneCell'= true)
  (g:Nat) (aZ:a.eval s= .slice g 0 0) (ck:aC w g e #[]) (nU:B≤g) (ak:Option Addr) (c2:Nat) (ys:List T) (ay:a.eval x= .slice ak ys c2) (bN:aJ sz f w ak ys) (aU:ak= none→ys= []∧c2= 0)
  (h63:ys.length≤maxLen) (uE:ys.length * bytes≤140737488355328)
  (h:∀br cO ah,aX B e sz f ah (.slice (some ⟨br,0,none⟩) ys cO) ys→Below w w ah→wpList P ops Q rest (a.put o.dst (.slice (some ⟨br,0,none⟩) ys cO)) ah):wpList P ops Q (o ::rest) a w:=by
 cases ak with
 | some iZ=>exact aaE nw s x t dd B e i z sz bytes cA hi cb uU uD vf eW f hf kl g aZ ck nU iZ c2 ys ay bN h63 uE (fun br cO ah h1 h2 _=>h br cO ah h1 h2)
 | none=>
  obtain⟨rfl,rfl⟩:=aU rfl
  have bR:aX B e sz f w (.slice g 0 0) ([]:List T):=aX.De (xs:=[]) (cap:=0) ck nU (Nat.le_refl _) (Nat.zero_le _) (by simp) (fun i x ay=>by simp at ay) hf
  exact wpList_append_own_none nw s x t dd B e i sz cA hi (.slice g 0 0) 0 [] aZ bR ay (h g 0 w bR (Below.refl _ _))
end Go.G9
namespace Go.Proofs.YtlaaemmmbodaaaaGreatDoor
open Go.RowKit Go.G9
theorem Qk (x:aM):(aM.cells x).length= 7:=rfl
theorem aoP (x:aM):∀u,u ∈ aM.cells x→u.oneCell'= true:=by
 intro u hu
 simp only [aM.cells,List.mem_cons,List.not_mem_nil,or_false] at hu
 rcases hu with rfl | rfl | rfl | rfl | rfl | rfl | rfl <;> rfl
open Go.RowKit Go.G9
theorem agr (A:Option Addr) (c:Nat) (xs:List Int) (bd:xs.length≤1048576) (aU:A= none→xs= []∧c= 0) (w:World) (bN:aJ 1 bU w A xs):
 Calls Tryz.prog 245 #[.slice A xs c] w fun e ah=>∃gK cO,e= .returned (.slice gK xs cO)∧aX w 3 1 bU ah (.slice gK xs cO) xs∧Below w w ah:=by
 obtain⟨i0,hi,dk,dx,dC⟩:=info_parts rI
 exact adf
theorem ij (x:aK):(aK.cells x).length= 3:=rfl
theorem wC (x:aK):∀u,u ∈ aK.cells x→u.oneCell'= true:=by
 intro u hu
 simp only [aK.cells,List.mem_cons,List.not_mem_nil,or_false] at hu
 rcases hu with rfl | rfl | rfl <;> rfl
structure jH (B:Nat) (w:World) (bk:Option Addr) (d2:Nat) (bo:Option Addr) (d3:Nat) (ws:List Int) (ad:List aK):Prop where
 fg:aX B 3 1 bU w (.slice bk ws.length d2) ws
 fF:aX B 214 3 aK.cells w (.slice bo ad.length d3) ad
 ap:∀k,(Value.slice bk ws.length d2).ownBlock= some k→some k≠(Value.slice bo ad.length d3).ownBlock
theorem jH.bh {B:Nat} {w ah:World} {bk:Option Addr} {d2:Nat} {bo:Option Addr} {d3:Nat} {ws:List Int} {ad:List aK} (h:jH B w bk d2 bo d3 ws ad) (aE:Below w w ah):jH B ah bk d2 bo d3 ws ad:=⟨h.fg.bh aE,h.fF.bh aE,h.ap⟩
theorem jH.base {B B':Nat} {w:World} {bk:Option Addr} {d2:Nat} {bo:Option Addr} {d3:Nat} {ws:List Int} {ad:List aK} (h:jH B w bk d2 bo d3 ws ad) (aE:B'≤B):jH B' w bk d2 bo d3 ws ad:=⟨h.fg.base aE,h.fF.base aE,h.ap⟩
theorem Hl (ag af sp:Int) (ak:Option Addr) (c2:Nat) (ws:List Int) (al:Option Addr) (c3:Nat) (ad:List aK) (h2:ws.length≤1048576) (h3:ad.length≤1048576) (n2:ak= none→ws= []∧c2= 0) (n3:al= none→ad= []∧c3= 0) (w:World) (bm:aJ 1 bU w ak ws) (bl:aJ 3 aK.cells w al ad):
 Calls Tryz.prog 166 #[.agg #[ag,af,sp,.slice ak ws c2,.slice al ad c3]] w fun e ah=>∃bk d2 g3 d3,e= .returned (.agg #[ag,af,sp,.slice bk ws d2,.slice (some ⟨g3,0,none⟩) ad d3])∧jH w.heap.size ah bk d2 (some ⟨g3,0,none⟩) d3 ws ad∧Below w w ah:=by
 obtain⟨i0,hi,dk,dx,dC⟩:=info_parts AL
 have ea:=J bm;have cS:=J bl;have iY:=J n2;have iR:=J n3;clear bm bl n2 n3
 go_in
 go_upto_region 1 with fail
 refine fp fun aH av aj ae=>?_
 have I:=av;have aF:=aj.aS;have aq:=ae.aS;have gv:=ae.lt
 go_wp2_with fail
 refine (agr ak c2 ws h2 iY.out _ (ea.out.U (ai I aw))).mono ?_
 rintro e aQ ⟨bk,d2,rfl,bF,aP⟩
 have ao:=be aH aP;replace I:=ai I ao;replace aj:=aj.to ao;clear aF;have aF:=aj.aS;replace ae:=ae.to ao;clear aq;have aq:=ae.aS;have asZ:=aj.frozen 3;have Bw:=aj.lt;have rX:=ae.lt
 go_upto_region 2 with fail
 clear aF aq
 refine kG 3 fun jW lq=>?_
 replace I:=lq.aG I;replace aj:=lq.Dm aj;replace ae:=lq.dJ ae;replace bF:=bF.bY lq (fun k ax=>by first | exact en k ax | (have:=bF.lt k ax;omega));have aF:=aj.aS;have aq:=ae.aS
 have js:∀k,(Value.slice bk ws d2).ownBlock= some k→k < jW.heap.size:=fun k ax=>(bF.lt k ax).2
 have Bw:=aj.lt;have rX:=ae.lt;have oy:=J js;clear js;have aeZ:=J (fun e=>(cS.out.U (ai I (ca jW (.cells #[] e)))):∀e:TypeId,aJ 3 aK.cells (jW.alloc (.cells #[] e)) al ad);have rE:=iR.out
 go_upto_region 3 with ((at_builtin;refine zB rfl _ _ 39 rfl jW.heap.size 214 i0 _ 3 24 Tryz.underlying39 hi dk dx dC rfl (by decide) aK.cells ij wC jW.heap.size rfl (aC.new _ _ _) (Nat.le_refl _) al c3 ad rfl (aeZ.out _) rE (by unfold maxLen;omega) (by omega) ?_;intro g3 d3 bA bw bC;have Gg:Below jW jW bA:=ai (ca _ _) bC;have Nq:=aj.to Gg;have nT:=Nq.frozen 4;have ahr:=(Nq.cell 4).trans (show _= some (Value.slice al ad c3) from rfl)))
 clear Nq nT ahr rE;have aL:=be jW bC;replace I:=ai I aL;replace bF:=bF.bh aL;replace aj:=aj.to aL;clear aF;have aF:=aj.aS;replace ae:=ae.to aL;clear aq;have aq:=ae.aS;have yZ:=(bw.lt g3 rfl).1;clear aF aq
 refine kG 4 fun wX gJ=>?_
 replace I:=gJ.aG I;replace aj:=gJ.PV aj;replace ae:=gJ.dJ ae;replace bF:=bF.bY gJ (fun k ax=>by first | exact en k ax | (have:=bF.lt k ax;omega));replace bw:=bw.bY gJ (fun k ax=>by first | exact dI k ax | (have:=bw.lt k ax;omega))
 have aF:=aj.aS;have aq:=ae.aS;have ez:=ae.jh
 go_wp2
 clear aF aq
 refine gT 0 fun cQ aD=>?_
 replace I:=aD.aG I;replace ae:=aD.iK ae;replace bF:=bF.bY aD (fun k ax=>by first | exact en k ax | (have:=bF.lt k ax;omega));replace bw:=bw.bY aD (fun k ax=>by first | exact dI k ax | (have:=bw.lt k ax;omega));have aq:=ae.aS
 exact hc ⟨bk,d2,g3,d3,rfl,⟨bF.base (by omega),bw.base (by omega),fun k ax e=>by have h5:=oy.out k ax;have h6:k= g3:=Option.some.inj e;omega⟩,I⟩ (by simp [results,Tryz.results166,go_sem,aq])
end Go.Proofs.YtlaaemmmbodaaaaGreatDoor
namespace Go.G9
open Go.RowKit
theorem arY {P:Program} {w:World} {ops:Array Oper} {rest:List Oper} {o:Oper} {a:Act} {Q:Exit→Act→World→Prop} (nw:o.guard= none) (s x:Operand) (t:TypeId)
  (dd:o.op= .call {callee:= .builtin .append,args:=#[s,x],argTypes:=#[t,t]})
  (B:Nat) (e:TypeId) (i:TypeInfo) (z:Value) (sz bytes:Nat) (cA:P.underlying t= some (.slice e)) (hi:P.info? e= some i) (cb:i.zero= some z)
  (uU:i.size= sz) (uD:i.bytes= bytes) (vf:z.cells.size= sz) (eW:0 < sz) {T:Type} (f:T→List Value) (hf:∀y,(f y).length= sz) (kl:∀y u,u ∈ f y→u.oneCell'= true)
  (g:Nat) (aZ:a.eval s= .slice g 0 0) (ck:aC w g e #[]) (nU:B≤g) (ak:Option Addr) (c2:Nat) (ys:List T) (ay:a.eval x= .slice ak ys c2) (bN:aJ sz f w ak ys) (aU:ak= none→ys= []∧c2= 0)
  (h63:ys.length≤maxLen) (uE:ys.length * bytes≤140737488355328)
  (h:∀br cO ah,aX B e sz f ah (.slice (some ⟨br,0,none⟩) ys cO) ys→Below w w ah→(br= g∨w.heap.size≤br)→wpList P ops Q rest (a.put o.dst (.slice (some ⟨br,0,none⟩) ys cO)) ah):wpList P ops Q (o ::rest) a w:=by
 cases ak with
 | some iZ=>exact aaE nw s x t dd B e i z sz bytes cA hi cb uU uD vf eW f hf kl g aZ ck nU iZ c2 ys ay bN h63 uE (fun br cO ah h1 h2 h3=>h br cO ah h1 h2 h3)
 | none=>
  obtain⟨rfl,rfl⟩:=aU rfl
  have bR:aX B e sz f w (.slice g 0 0) ([]:List T):=aX.De (xs:=[]) (cap:=0) ck nU (Nat.le_refl _) (Nat.zero_le _) (by simp) (fun i x ay=>by simp at ay) hf
  exact wpList_append_own_none nw s x t dd B e i sz cA hi (.slice g 0 0) 0 [] aZ bR ay (h g 0 w bR (Below.refl _ _) (.inl rfl))
end Go.G9
namespace Go.Proofs.YtlaaemmmbodaaaaGreatDoor
open Go.RowKit Go.G9
def XC (ws:List Int) (ad:List aK):lu (Option Addr×Nat) where
 par:=fun n=>match n with
  | 12=>[9]
  | _=>[]
 val:=fun n p=>match n with
  | 8=> .slice p.1 ws.length p.2
  | 9=> .slice p.1 0 0
  | 12=> .slice p.1 ad.length p.2
  | _=>undef
 post:=fun n bu p cY V=>match n with
  | 8=>aX cY.heap.size 3 1 bU V (.slice p.1 ws.length p.2) ws
  | 9=>p.1= some ⟨cY.heap.size,0,none⟩∧aC V cY.heap.size 214 #[]
  | 12=>∃g br,(bu 9).1= some ⟨g,0,none⟩∧p.1= some ⟨br,0,none⟩∧(br= g∨cY.heap.size≤br)∧aX g 214 3 aK.cells V (.slice p.1 ad.length p.2) ad
  | _=>True
theorem Hc (ag af sp:Int) (ak:Option Addr) (c2:Nat) (ws:List Int) (al:Option Addr) (c3:Nat) (ad:List aK) (h2:ws.length≤1048576) (h3:ad.length≤1048576) (n2:ak= none→ws= []∧c2= 0) (n3:al= none→ad= []∧c3= 0) (w:World) (bm:aJ 1 bU w ak ws) (bl:aJ 3 aK.cells w al ad):
 Calls Tryz.prog 183 #[.agg #[ag,af,sp,.slice ak ws c2,.slice al ad c3]] w fun e ah=>∃bk d2 bo d3,e= .returned (.agg #[ag,af,sp,.slice bk ws d2,.slice bo ad d3])∧jH w.heap.size ah bk d2 bo d3 ws ad∧Below w w ah:=by
 obtain⟨i0,hi,dk,dx,dC⟩:=info_parts AL
 have ea:=J bm;have cS:=J bl;have iY:=J n2;have iR:=J n3;clear bm bl n2 n3
 go_in
 go_upto_region 1 with fail
 refine fp fun aH av aj ae=>?_
 have I:=av;have aF:=aj.aS;have aq:=ae.aS;have gv:=ae.lt;have rE:=iR.out
 obtain⟨tP,yM⟩ :∃X:World→Prop,∀V,X V↔(Below w w V∧aC V (w.heap.size) 41 #[ag,af,sp,.slice ak ws c2,.slice al ad c3]):=⟨_,fun _=>Iff.rfl⟩
 have iI:=J yM;clear yM
 haveI:Nonempty (cP tP):=⟨⟨aH,((iI.out _).2 ⟨I,aj⟩)⟩⟩
 clear aF;clear aq;have aF:=aC.kz (fun K:cP tP=>((iI.out _).1 K.holds).2)
 go_wp2
 refine Bv (XC ws ad) tP [([0,1,2,3,4,5,6,7],8),([],9),([10,11],12)] [13] [([],14)] [] (by kernel_rfl) (by kernel_rfl) ((iI.out _).2 ⟨I.drew,aj⟩) (fun W eF h k=>((iI.out _).2 ⟨((iI.out _).1 h).1.trans (k.mono ((iI.out _).1 h).1.size),((iI.out _).1 h).2.U k ((iI.out _).1 h).2.lt⟩)) ?_
 intro bu
 refine iF (some 11) rfl (.slice (bu 8).1 ws.length (bu 8).2) rfl fun hH eN=>?_
 change wpQuiet _ _ _ _ (_ ::_ ::_ ::_ ::_ ::_ ::_ ::_ ::[]) _
 repeat (go_big_quiet_step (fail))
 refine wpQuiet_nil ?_
 refine⟨fun k fO=>?_,eN _ ?_⟩
 ·change wpList _ _ _ (_ ::[]) _ _
  go_wp2_with fail
  refine (amd ak c2 ws h2 iY.out _ (ea.out.U ((iI.out _).1 k.holds).1)).mono ?_
  rintro e mP ⟨bk,d2,rfl,bF,fR⟩
  go_wp2
  exact hZ ⟨(bk,d2),rfl,fR,bF⟩
 simp only [Act.put]
 go_simp
 refine iF (some 12) rfl (.slice (bu 9).1 0 0) rfl fun hH eN=>?_
 change wpQuiet _ _ _ _ ([]) _
 refine wpQuiet_nil ?_
 refine⟨fun k fO=>?_,eN _ ?_⟩
 ·change wpList _ _ _ (_ ::[]) _ _
  go_wp2
  exact hZ ⟨(some ⟨k.world.heap.size,0,none⟩,0),rfl,ca _ _,rfl,aC.new _ _ _⟩
 simp only [Act.put]
 go_simp
 refine iF (some 15) rfl (.slice (bu 12).1 ad.length (bu 12).2) rfl fun hH eN=>?_
 change wpQuiet _ _ _ _ (_ ::_ ::[]) _
 repeat (go_big_quiet_step (fail))
 refine wpQuiet_nil ?_
 refine⟨fun k fO=>?_,eN _ ?_⟩
 ·change wpList _ _ _ (_ ::[]) _ _
  obtain⟨gR,uh,qJ,⟨mA,mB⟩,mC⟩:=fO 9 (by simp [XC])
  have mD:=mB.to mC;have jP:(bu 9).1= some ⟨gR.heap.size,0,none⟩:=mA;have qv:=J (cS.out.U ((iI.out _).1 k.holds).1);have qu:=J mD;clear mD mB mA qJ mC fO
  rw [jP]
  have lY:=J jP;clear jP
  go_wp2_with ((at_builtin;refine arY rfl _ _ 39 rfl gR.heap.size 214 i0 _ 3 24 Tryz.underlying39 hi dk dx dC rfl (by decide) aK.cells ij wC gR.heap.size rfl qu.out (Nat.le_refl _) al c3 ad rfl qv.out rE (by unfold maxLen;omega) (by omega) ?_;intro br cO ah fz eZ uJ))
  first | exact hZ ⟨(some ⟨br,0,none⟩,cO),rfl,eZ,gR.heap.size,br,lY.out,rfl,uJ,fz⟩ | exact hZ ⟨some ⟨br,0,none⟩,cO,rfl,eZ,gR.heap.size,br,lY.out,rfl,uJ,fz⟩
 simp only [Act.put]
 go_simp
 refine tM ?_
 change wpQuiet _ _ _ _ (_ ::[]) _
 repeat (go_big_quiet_step (fail))
 refine wpQuiet_nil ?_
 intro cY V W aY bK
 have Nz:aX (cY 8).heap.size 3 1 bU (V 8) (.slice (bu 8).1 ws.length (bu 8).2) ws:=aY.post 8 (by simp)
 obtain⟨g,br,e9,e12,yV,nu⟩ :∃g br,(bu 9).1= some ⟨g,0,none⟩∧(bu 12).1= some ⟨br,0,none⟩∧(br= g∨(cY 12).heap.size≤br)∧aX g 214 3 aK.cells (V 12) (.slice (bu 12).1 ad.length (bu 12).2) ad:=aY.post 12 (by simp)
 obtain⟨TW,th⟩ :(bu 9).1= some ⟨(cY 9).heap.size,0,none⟩∧aC (V 9) (cY 9).heap.size 214 #[]:=aY.post 9 (by simp)
 have Fv:(cY 9).heap.size= g:=by rw [TW] at e9;exact congrArg Addr.block (Option.some.inj e9)
 have lh:g < (V 9).heap.size:=Fv ▸ th.lt;have Zf:=(aY.nt 8 (by simp)).size;have Zg:=(aY.nt 9 (by simp)).size;have a1:=aY.apart 8 (by simp) 9 (by simp) (by decide);have a2:=aY.apart 8 (by simp) 12 (by simp) (by decide);have bF:=(Nz.bh (aY.bh 8 (by simp))).base (B':=aH.heap.size) Zf;have bw:=(nu.bh (aY.bh 12 (by simp))).base (B':=aH.heap.size) (by rw [← Fv];exact Zg)
 have js:∀k,(Value.slice (bu 8).1 ws.length (bu 8).2).ownBlock= some k→some k≠(Value.slice (bu 12).1 ad.length (bu 12).2).ownBlock:=fun k ax e=>by
  have h5:=Nz.lt k ax
  rw [e12] at e
  have h6:k= br:=Option.some.inj e;have h10:=nu.lt br (by rw [e12];rfl)
  rcases yV with h | h <;> rcases a1 with h1 | h1 <;> rcases a2 with h2 | h2 <;> omega
 have oy:=J js;clear aF;have aL:Below aH aH W:=ai aw (aY.whole 8 (by simp)).qZ;replace I:=ai I aL;replace aj:=aj.to aL;replace ae:=ae.to aL;have aq:=ae.aS;clear aY Nz nu th js bK a1 a2 Zf Zg lh Fv e9 TW e12 yV
 generalize bu 8= anJ at *
 generalize bu 12= anI at *
 obtain⟨bk,d2⟩:=anJ
 obtain⟨bo,d3⟩:=anI
 refine gZ fun gr dX=>?_
 change wpQuiet _ _ _ _ ([]) _
 refine wpQuiet_nil ?_
 change wpList _ _ _ (_ ::[]) _ _
 have ez:=ae.jh
 go_wp2
 clear aq
 refine gT 0 fun cQ aD=>?_
 replace I:=aD.aG I;replace aj:=aD.dJ aj;replace ae:=aD.iK ae;replace bF:=bF.bY aD (fun k ax=>by first | exact en k ax | (have:=bF.lt k ax;omega));replace bw:=bw.bY aD (fun k ax=>by first | exact dI k ax | (have:=bw.lt k ax;omega));have aq:=ae.aS
 refine hh (((iI.out _).2 ⟨I,aj⟩)) (dX _ _ ?_)
 refine mg ?_
 change wpQuiet _ _ _ _ ([]) _
 refine wpQuiet_nil ?_
 go_wp2
 exact hc ⟨bk,d2,bo,d3,rfl,⟨bF.base (by omega),bw.base (by omega),oy.out⟩,I⟩ (by simp [results,Tryz.results183,go_sem,aq])
end Go.Proofs.YtlaaemmmbodaaaaGreatDoor
namespace Go.G9
open Go.RowKit
theorem KB {P:Program} (w:World) (TJ aqr ty elem:TypeId) (i:TypeInfo) (g o m TI agu:Nat) (a:Addr) (Zk apz:Nat) (cur:Array Value) (t:TypeId) (cs:List Value)
  (hu:P.underlying TJ= some (.slice elem)) (hi:P.info? elem= some i) (ck:aC w g t cur) (hm:Nat.min Zk TI= m) (bd:cs.length= m * i.size)
  (AD:∀j v,cs[j]? =some v→w.cell? (a.add j)= some v) (xx:o + cs.length≤cur.size) (h1:∀v ∈ cs,v.oneCell'= true):
  (Builtin.copy_ #[TJ,aqr] ty #[.slice (some ⟨g,o,none⟩) TI agu,.slice (some a) Zk apz]).run P w =
   .ok (goInt m) (w.setRow g (cur.toList.take o ++ cs ++ cur.toList.drop (o + cs.length)).toArray):=by
 have aT:=run_loadCells_list (P:=P) w a cs AD;have iM:=run_storeCells_at (P:=P) g o t cs 0 cur w ck (by simpa using xx) h1
 simp [Builtin.copy_,run_underlying hu,Builtin.lenOf,Builtin.firstCells,sizeOf,typeInfo,hi,hm,← bd,aT,iM]
theorem Lb {P:Program} (w:World) {ops:Array Oper} {rest:List Oper} {o:Oper} {a:Act} {Q:Exit→Act→World→Prop} (nw:o.guard= none) (d s:Operand) (t fo:TypeId)
  (dd:o.op= .call {callee:= .builtin .copy,args:=#[d,s],argTypes:=#[t,fo]}) (v u:Value) (bS:a.eval d= v) (aZ:a.eval s= u) {lT:Value} {ah:World}
  (bz:(Builtin.copy_ #[t,fo] o.type #[v,u]).run P w= .ok lT ah) (h:wpList P ops Q rest (a.put o.dst lT) ah):wpList P ops Q (o ::rest) a w:=
 wpList_plain nw fun _ gg=>by
  unfold Oper.wp execOp
  simp only [dd,resolve,invoke,builtin,Sem.run_bind,Sem.run_pure,Result.andThen_ok,List.map_toArray,List.map_cons,List.map_nil,bS,aZ,bz]
  exact gg _ _ h
theorem alO {T:Type} {sz:Nat} {f:T→List Value} (hf:∀y,(f y).length= sz) (xs:List T) (i:Nat) (hi:i≤xs.length) (s:T) (cur yH:List Value) (N:Nat) (aT:cur.length= N * sz) (eO:xs.length + 1≤N)
  (qi:cur.take (i * sz)= (xs.take i).flatMap f) (h2:yH= cur.take (i * sz) ++ f s ++ (xs.drop i).flatMap f ++ cur.drop ((xs.length + 1) * sz)):
  yH.length= N * sz∧yH.take ((xs.length + 1) * sz)= (xs.take i ++ s ::xs.drop i).flatMap f:=by
 have e1:((xs.drop i).flatMap f).length= (xs.length - i) * sz:=by rw [mc hf];simp
 have e2:((xs.take i).flatMap f).length= i * sz:=by rw [mc hf,List.length_take,Nat.min_eq_left hi]
 have e3:(xs.length + 1) * sz= i * sz + sz + (xs.length - i) * sz:=by
  conv=>lhs;rw [show xs.length + 1= i + 1 + (xs.length - i) by omega,Nat.add_mul,Nat.add_mul,Nat.one_mul]
 have e4:(xs.length + 1) * sz≤N * sz:=Nat.mul_le_mul_right sz eO
 have e5:(cur.take (i * sz) ++ f s ++ (xs.drop i).flatMap f).length= (xs.length + 1) * sz:=by
  rw [qi];simp only [List.length_append,e1,e2,hf];omega
 refine⟨?_,?_⟩
 ·rw [h2,List.length_append,e5,List.length_drop,aT];omega
 ·rw [h2,List.take_left' e5,qi]
  simp
theorem WW {T:Type} {B sz:Nat} {f:T→List Value} {e:TypeId} (hf:∀y,(f y).length= sz) (xs:List T) (i:Nat) (hi:i≤xs.length) (s:T) (cur yH:List Value) (N g:Nat) (W:World) (aT:cur.length= N * sz) (eO:xs.length + 1≤N) (aii:N≤maxLen)
  (qi:cur.take (i * sz)= (xs.take i).flatMap f) (h2:yH= cur.take (i * sz) ++ f s ++ (xs.drop i).flatMap f ++ cur.drop ((xs.length + 1) * sz)) (bp:aC W g e yH.toArray) (nU:B≤g):
  aX B e sz f W (.slice g (xs.length + 1) N) (xs.take i ++ s ::xs.drop i):=by
 obtain⟨h3,h4⟩:=alO hf xs i hi s cur yH N aT eO qi h2
 have hlen:(xs.take i ++ s ::xs.drop i).length= xs.length + 1:=by simp;omega
 unfold aX
 rw [hlen]
 refine⟨by rw [mc hf,hlen],.inr ⟨g,N,yH.toArray,rfl,nU,bp,eO,aii,by simp [h3],?_⟩⟩
 simpa using h4
theorem Nc {T:Type} {sz:Nat} {f:T→List Value} (hf:∀y,(f y).length= sz):∀(xs:List T) (k:Nat),(xs.take k).flatMap f= (xs.flatMap f).take (k * sz)
 | [],k=>by simp
 | x ::xs,0=>by simp
 | x ::xs,k + 1=>by
  have eP:=Nc hf xs k
  have ax:(k + 1) * sz= sz + k * sz:=by rw [Nat.succ_mul];omega
  simp only [List.take_succ_cons,List.flatMap_cons]
  rw [eP,ax,List.take_append,hf,List.take_of_length_le (l:=f x) (by rw [hf];omega)]
  congr 2
  omega
theorem aX.parts {T:Type} {B sz:Nat} {f:T→List Value} {e:TypeId} {w:World} {g n c:Nat} {xs:List T} (h:aX B e sz f w (.slice g n c) xs):
  n= xs.length∧B≤g∧xs.length≤c∧c≤maxLen∧∃cur:Array Value,aC w g e cur∧cur.size= c * sz∧cur.toList.take (xs.length * sz)= xs.flatMap f:=by
 rcases h.2 with ⟨h0,_⟩ | ⟨br,cap,cur,az,bp,dM,mG,jQ,hM,wi⟩
 ·cases h0
 ·injection az with e1 e2 e3
  cases e1;subst e3
  exact⟨e2,bp,mG,jQ,cur,dM,hM,wi⟩
theorem aC.shape {w:World} {g:Nat} {t:TypeId} {cs:Array Value} (h:aC w g t cs):w.shape? g= some (t,cs.size):=by
 unfold aC at h
 simp [World.shape?,h]
end Go.G9
namespace Go.Proofs.YtlaaemmmbodaaaaGreatDoor
open Go.RowKit Go.G9
theorem acX {p:Prop} (h:p:=by
 go_in
 go_wp2_with ((at_builtin;refine kJ rfl _ _ 39 rfl B 214 i0 _ 3 24 Tryz.underlying39 hi dk dx dC rfl (by decide) aK.cells ij wC _ xs rfl dp.out ⟨jj,0,none⟩ 1 s rfl BK.out (by unfold maxLen;omega) (by omega) nV ?_;intro v4 cf eX fs kC))
 have rD:w.grownBy cf (some g):=fs;clear fs kC;have UR:=eX
 obtain⟨br,cap,cs,rfl,_,_,_,_,_,_⟩:=eX.whole ij (by simp)
 go_wp2
 go_ret
 have aT:(xs ++ [s]).length= xs.length + 1:=by simp
 rw [aT] at UR
 exact⟨br,cap,by rw [aT];rfl,UR,rD⟩):p:=h
theorem alK (B:Nat) (g c:Nat) (xs:List aK) (bd:xs.length≤1048575) (s:aK) (jj:Nat) (w:World) (nV:B≤w.heap.size)
  (bR:aX B 214 3 aK.cells w (.slice g xs c) xs) (ic:aC w jj 214 (aK.cells s).toArray):
 Calls Tryz.prog 331 #[.slice g xs c,.int .i64 (xs.length:Int),.slice jj 1 1] w fun e ah=>
  ∃br cO,e= .returned (.slice (some ⟨br,0,none⟩) (xs.length + 1) cO)∧aX B 214 3 aK.cells ah (.slice (some ⟨br,0,none⟩) (xs.length + 1) cO) (xs ++ [s])∧w.grownBy ah (some g):=by
 obtain⟨i0,hi,dk,dx,dC⟩:=info_parts AL
 have UU:aJ 3 aK.cells w (some ⟨jj,0,none⟩) [s]:=fun _=>⟨jj,0,rfl,ic.lt,fun i y hy j u hu=>by
  have h0:i= 0:=by have:=(List.getElem?_eq_some_iff.1 hy).1;simp at this;omega
  subst h0;simp at hy;subst hy
  rw [Nat.zero_mul,Nat.zero_add]
  exact (ic.cell _).trans (by simpa using hu)⟩
 have Vq:xs.length≤c:=bR.parts.2.2.1;have BK:=J UU;have dp:=J bR;clear UU ic bR
 by_cases oF:c= xs.length
 ·subst oF
  exact acX
 ·skip
  exact acX
theorem aqE:∀w,(Go.sizeOf 214).run Tryz.prog w= .ok 3 w:=fun _=>by kernel_rfl
theorem alM (B:Nat) (g c:Nat) (xs:List aK) (bd:xs.length≤1048575) (i:Nat) (Og:i < xs.length) (OP:xs.length + 1≤c) (s:aK) (jj:Nat) (w:World) (eg:jj≠g)
  (bR:aX B 214 3 aK.cells w (.slice g xs c) xs) (ic:aC w jj 214 (aK.cells s).toArray):
 Calls Tryz.prog 331 #[.slice g xs c,.int .i64 (i:Int),.slice jj 1 1] w fun e ah=>
  ∃br cO,e= .returned (.slice (some ⟨br,0,none⟩) (xs.length + 1) cO)∧aX B 214 3 aK.cells ah (.slice (some ⟨br,0,none⟩) (xs.length + 1) cO) (xs.take i ++ s ::xs.drop i)∧w.grownBy ah (some g):=by
 obtain⟨i0,hi,dk,dx,dC⟩:=info_parts AL
 obtain⟨_,nU,_,jQ,cur,bp,hM,xC⟩:=bR.parts
 have atJ:c≤9223372036854775807:=jQ
 have qi:cur.toList.take (i * 3)= (xs.take i).flatMap aK.cells:=by
  rw [Nc ij,← xC,List.take_take]
  congr 1;omega
 have AD:∀j v,((xs.drop i).flatMap aK.cells)[j]? =some v→w.cell? (Addr.add ⟨g,i * 3,none⟩ j)= some v:=fun j v az=>by
  have h1:=Ui ij xs i j v az
  rw [← xC,List.getElem?_take] at h1
  split at h1
  ·have e:Addr.add ⟨g,i * 3,none⟩ j=⟨g,i * 3 + j,none⟩:=by unfold Addr.add;split <;> simp_all
   rw [e,bp.cell]
   simpa using h1
  ·cases h1
 have oH:((xs.drop i).flatMap aK.cells).length= (xs.length - i) * 3:=by rw [mc ij];simp
 have FE:∀v ∈ (xs.drop i).flatMap aK.cells,v.oneCell'= true:=fun u hu=>by obtain⟨y,_,hy⟩:=List.mem_flatMap.1 hu;exact wC y u hy
 have Wh:∀zl MC,(callFunc 341 #[.slice jj 1 1,.slice (some ⟨g,(i + 1) * 3,none⟩) zl MC]).run Tryz.prog w= .ok (.value (.bool false)) w:=fun zl MC=>by
  rw [run_callFunc_extern Tryz.func341 (by kernel_rfl) (by kernel_rfl) (by kernel_rfl) (e:=Extern.SlicesOverlaps.overlaps #[39,39] #[4]) (by kernel_rfl),
   Lib.run_overlaps_apart w 39 4 214 Tryz.underlying39 3 aqE ⟨jj,0,none⟩ ⟨g,(i + 1) * 3,none⟩ 1 1 zl MC eg _ _ _ _ ic.shape bp.shape (by rw [hM];omega) (ic.frozen 0) (ic.frozen _)]
  rfl
 have qh:∀ty qD eY,(Builtin.copy_ #[39,39] ty #[.slice (some ⟨g,(i + 1) * 3,none⟩) (xs.length - i) qD,.slice (some ⟨g,i * 3,none⟩) (xs.length + 1 - i) eY]).run Tryz.prog w.drew= .ok (goInt ((xs.length - i:Nat):Int)) (w.drew.setRow g (cur.toList.take ((i + 1) * 3) ++ (xs.drop i).flatMap aK.cells ++ cur.toList.drop ((i + 1) * 3 + ((xs.drop i).flatMap aK.cells).length)).toArray):=fun ty qD eY=>
  KB w.drew _ _ ty 214 i0 g ((i + 1) * 3) (xs.length - i) (xs.length - i) qD ⟨g,i * 3,none⟩ (xs.length + 1 - i) eY cur 214 ((xs.drop i).flatMap aK.cells) Tryz.underlying39 hi bp (by simp only [Nat.min_def];split <;> omega) (by rw [oH,dx]) AD (by rw [oH,hM];omega) FE
 obtain⟨au,gM⟩ :∃au,au= (cur.toList.take ((i + 1) * 3) ++ (xs.drop i).flatMap aK.cells ++ cur.toList.drop ((i + 1) * 3 + ((xs.drop i).flatMap aK.cells).length)):=⟨_,rfl⟩
 rw [← gM] at qh
 have jA:cur.toList.length= c * 3:=by rw [Array.length_toList];exact hM
 have wb:au.length= c * 3:=by
  rw [gM];simp only [List.length_append,List.length_take,List.length_drop,oH,jA];omega
 have yK:aC (w.drew.setRow g au.toArray) g 214 au.toArray:=(show aC w.drew g 214 cur from bp).setRow;have fY:w.grownBy (w.drew.setRow g au.toArray) (some g):=pC (lz (Below.refl _ _).drew (some g)) FC;have UZ:aC (w.drew.setRow g au.toArray) jj 214 (aK.cells s).toArray:=(fY.block jj ic.lt (fun e=>eg (Option.some.inj e))).trans ic
 generalize w.drew.setRow g au.toArray= lM at *
 have nb:∀ty qD,(Builtin.copy_ #[39,39] ty #[.slice (some ⟨g,i * 3,none⟩) (xs.length + 1 - i) qD,.slice jj 1 1]).run Tryz.prog lM= .ok (goInt 1) (lM.setRow g (au.take (i * 3) ++ aK.cells s ++ au.drop (i * 3 + (aK.cells s).length)).toArray):=fun ty qD=>by
  have h:=KB (P:=Tryz.prog) lM 39 39 ty 214 i0 g (i * 3) 1 (xs.length + 1 - i) qD ⟨jj,0,none⟩ 1 1 au.toArray 214 (aK.cells s) Tryz.underlying39 hi yK (by simp only [Nat.min_def];split <;> omega) (by rw [dx];rfl)
   (fun j v bI=>by
    have e:Addr.add ⟨jj,0,none⟩ j=⟨jj,j,none⟩:=by unfold Addr.add;split <;> simp_all
    rw [e,UZ.cell];simpa using bI) (by rw [ij,List.size_toArray,wb];omega) (fun v az=>wC s v az)
  simpa using h
 obtain⟨c2,jt⟩ :∃c2,c2= au.take (i * 3) ++ aK.cells s ++ au.drop (i * 3 + (aK.cells s).length):=⟨_,rfl⟩
 rw [← jt] at nb
 have ji:c2= cur.toList.take (i * 3) ++ aK.cells s ++ (xs.drop i).flatMap aK.cells ++ cur.toList.drop ((xs.length + 1) * 3):=by
  have t1:(cur.toList.take ((i + 1) * 3)).length= (i + 1) * 3:=by rw [List.length_take,jA];omega
  have a1:au.take (i * 3)= cur.toList.take (i * 3):=by
   rw [gM,List.append_assoc,List.take_append,t1,List.take_take,show min (i * 3) ((i + 1) * 3)= i * 3 by omega,show i * 3 - (i + 1) * 3= 0 by omega,List.take_zero,List.append_nil]
  have a2:au.drop (i * 3 + (aK.cells s).length)= (xs.drop i).flatMap aK.cells ++ cur.toList.drop ((xs.length + 1) * 3):=by
   rw [ij,show i * 3 + 3= (i + 1) * 3 by omega,gM,List.append_assoc,List.drop_left' t1,oH,show (i + 1) * 3 + (xs.length - i) * 3= (xs.length + 1) * 3 by omega]
  rw [jt,a1,a2,List.append_assoc,List.append_assoc,List.append_assoc]
 have hS:aC (lM.setRow g c2.toArray) g 214 c2.toArray:=yK.setRow;have GD:=WW (B:=B) ij xs i (by omega) s cur.toList c2 c g _ jA OP jQ qi ji hS nU;have gY:w.grownBy (lM.setRow g c2.toArray) (some g):=pC fY FC;have Ep:=J GD;have tT:=J gY;clear GD gY hS ji jt UZ yK wb gM AD qi xC FE oH fY jA
 have bE:¬(c= i):=by omega
 have aP:¬(c= i + 1):=by omega
 have Ej:=J qh;have Ek:=J nb;have yw:=J Wh;clear qh nb Wh bR bp ic
 haveI:Nonempty (cP (fun _:World=>True)):=⟨⟨w,trivial⟩⟩
 go_in
 go_wp2_with (simp only [yw.out])
 refine oP (fun _=>True) [([0,1,2,3,4,5,6,7],8)] [] (by kernel_rfl) (by kernel_rfl) trivial ?_
 refine gZ fun K gg=>?_
 change wpQuiet _ _ _ _ (_ ::_ ::_ ::_ ::_ ::_ ::_ ::_ ::[]) _
 repeat (go_big_quiet_step (fail))
 refine wpQuiet_nil ?_
 change wpList _ _ _ (_ ::[]) _ _
 go_wp2_with (with_reducible refine Lb _ rfl _ _ 39 39 rfl _ _ rfl rfl (Ej.out _ _ _) ?_)
 refine hh (C:=fun _:World=>True) trivial (gg _ _ ?_)
 refine mg ?_
 refine wpQuiet_nil ?_
 go_wp2_with (with_reducible refine Lb _ rfl _ _ 39 39 rfl _ _ rfl rfl (Ek.out _ _) ?_)
 go_wp2
 go_ret
 exact⟨g,c,rfl,Ep.out,tT.out⟩
theorem alL (B:Nat) (g:Nat) (xs:List aK) (bd:xs.length≤1048575) (i:Nat) (Og:i < xs.length) (s:aK) (jj:Nat) (w:World) (nV:B≤w.heap.size)
  (bR:aX B 214 3 aK.cells w (.slice g xs xs) xs) (ic:aC w jj 214 (aK.cells s).toArray):
 Calls Tryz.prog 331 #[.slice g xs xs,.int .i64 (i:Int),.slice jj 1 1] w fun e ah=>
  ∃br cO,e= .returned (.slice (some ⟨br,0,none⟩) (xs.length + 1) cO)∧aX B 214 3 aK.cells ah (.slice (some ⟨br,0,none⟩) (xs.length + 1) cO) (xs.take i ++ s ::xs.drop i)∧w.grownBy ah (some g):=by
 obtain⟨i0,hi,dk,dx,dC⟩:=info_parts AL
 obtain⟨_,nU,_,jQ,cur,bp,hM,xC⟩:=bR.parts
 have Wi:cur.toList.take (i * 3)= (xs.take i).flatMap aK.cells:=by
  rw [Nc ij,← xC,List.take_take]
  congr 1;omega
 have AD:∀(W:World),aC W g 214 cur→∀j v,((xs.drop i).flatMap aK.cells)[j]? =some v→W.cell? (Addr.add ⟨g,i * 3,none⟩ j)= some v:=fun W bK j v az=>by
  have h1:=Ui ij xs i j v az
  rw [← xC,List.getElem?_take] at h1
  split at h1
  ·have e:Addr.add ⟨g,i * 3,none⟩ j=⟨g,i * 3 + j,none⟩:=by unfold Addr.add;split <;> simp_all
   rw [e,bK.cell]
   simpa using h1
  ·cases h1
 have oH:((xs.drop i).flatMap aK.cells).length= (xs.length - i) * 3:=by rw [mc ij];simp
 have CB:((xs.take i).flatMap aK.cells).length= i * 3:=by rw [mc ij,List.length_take,Nat.min_eq_left (by omega)]
 have FE:∀v ∈ (xs.drop i).flatMap aK.cells,v.oneCell'= true:=fun u hu=>by obtain⟨y,_,hy⟩:=List.mem_flatMap.1 hu;exact wC y u hy
 have hold:(Builtin.firstCells i0.size i (.slice g i xs.length)).run Tryz.prog w.drew= .ok ((xs.take i).flatMap aK.cells).toArray w.drew:=by
  rw [dx]
  exact run_firstCells_some w.drew 3 i ⟨g,0,none⟩ i xs.length ((xs.take i).flatMap aK.cells) CB (fun j v bI=>by
   have e:Addr.add ⟨g,0,none⟩ j=⟨g,j,none⟩:=by unfold Addr.add;split <;> simp_all
   rw [e,(show aC w.drew g 214 cur from bp).cell]
   rw [← Wi,List.getElem?_take] at bI
   split at bI
   ·simpa using bI
   ·cases bI)
 have CF:(xs.length:Int) + 1 - (i:Int)= ((xs.length + 1 - i:Nat):Int):=by omega
 have Oh:i + (xs.length + 1 - i)= xs.length + 1:=by omega
 obtain⟨G,bW⟩ :∃G,G= grownCap w (xs.length + 1) xs.length 214:=⟨_,rfl⟩
 obtain⟨z,cb⟩ :∃z:Value,z= .agg #[(0:Int),(0:Int),(0:Int)]:=⟨_,rfl⟩
 rw [← cb] at dk
 have JK:z.cells.size= 3:=by rw [cb];rfl
 obtain⟨mZ,Jn⟩ :∃mZ:Array Value,mZ= ((xs.take i).flatMap aK.cells).toArray ++ Builtin.zeroCells z.cells (xs.length + 1 - i) ++ Builtin.zeroCells z.cells (G - (xs.length + 1)):=⟨_,rfl⟩
 have ahY:xs.length + 1≤G:=by rw [bW];exact grownCap_ge w _ _ _
 have UK:G≤maxLen:=by rw [bW];exact grownCap_le_maxLen w _ _ _ (by unfold maxLen;omega)
 have atA:G≤9223372036854775807:=UK
 have JD:∀ty,(Builtin.append_ #[39,3] ty #[.slice g i xs.length,.int .i64 ((xs.length:Int) + 1 - (i:Int))]).run Tryz.prog w= .ok (.slice w.heap.size (xs.length + 1) G) (w.drew.alloc (.cells mZ 214)):=fun ty=>by
  have h:=Lib.run_append_grow_zeros w 39 3 ty 214 i0 z .i64 .i64 Tryz.underlying39 Tryz.underlying3 hi dk (some ⟨g,0,none⟩) i xs.length ((xs.take i).flatMap aK.cells) hold (xs.length + 1 - i) (by omega) (by omega) (by omega) (by omega) (by rw [dC];omega) (by rw [dC,Oh];exact growslice_fits (by omega) (by omega))
  rw [Oh,← bW,← Jn] at h
  rw [CF]
  exact h
 have NB:mZ.size= G * 3:=by
  rw [Jn]
  simp only [Array.size_append,List.size_toArray,size_zeroCells,JK,CB]
  omega
 have Jo:mZ.toList.length= G * 3:=by rw [Array.length_toList];exact NB
 have qi:mZ.toList.take (i * 3)= (xs.take i).flatMap aK.cells:=by
  rw [Jn]
  simp only [Array.toList_append,List.append_assoc]
  exact List.take_left' CB
 have Co:aC (w.drew.alloc (.cells mZ 214)) w.heap.size 214 mZ:=aC.new w.drew 214 mZ;have FG:Below w w (w.drew.alloc (.cells mZ 214)):=(Below.refl _ _).drew.alloc (Nat.le_refl _) _;have NG:=ic.to FG;have Ju:=bp.to FG;have aja:=bp.lt;have ajW:=ic.lt
 obtain⟨N,eO⟩ :∃N,N= w.heap.size:=⟨_,rfl⟩
 rw [← eO] at JD Co aja ajW
 clear Jn hold Oh CF bp ic
 obtain⟨lM,Ct⟩ :∃lM,lM= w.drew.alloc (.cells mZ 214):=⟨_,rfl⟩
 rw [← Ct] at JD Co FG NG Ju
 have qh:∀ty qD,(Builtin.copy_ #[39,39] ty #[.slice (some ⟨N,i * 3,none⟩) (xs.length + 1 - i) qD,.slice jj 1 1]).run Tryz.prog lM= .ok (goInt 1) (lM.setRow N (mZ.toList.take (i * 3) ++ aK.cells s ++ mZ.toList.drop (i * 3 + (aK.cells s).length)).toArray):=fun ty qD=>by
  have h:=KB (P:=Tryz.prog) lM 39 39 ty 214 i0 N (i * 3) 1 (xs.length + 1 - i) qD ⟨jj,0,none⟩ 1 1 mZ 214 (aK.cells s) Tryz.underlying39 hi Co (by simp only [Nat.min_def];split <;> omega) (by rw [dx];rfl)
   (fun j v bI=>by
    have e:Addr.add ⟨jj,0,none⟩ j=⟨jj,j,none⟩:=by unfold Addr.add;split <;> simp_all
    rw [e,NG.cell];simpa using bI) (by rw [ij,NB];omega) (fun v az=>wC s v az)
  simpa using h
 obtain⟨au,gM⟩ :∃au,au= mZ.toList.take (i * 3) ++ aK.cells s ++ mZ.toList.drop (i * 3 + (aK.cells s).length):=⟨_,rfl⟩
 rw [← gM] at qh
 have wb:au.length= G * 3:=by
  rw [gM];simp only [List.length_append,List.length_take,List.length_drop,ij,Jo];omega
 have yK:aC (lM.setRow N au.toArray) N 214 au.toArray:=Co.setRow;have fY:lM.grownBy (lM.setRow N au.toArray) (some N):=FC;have Od:aC (lM.setRow N au.toArray) g 214 cur:=(fY.block g Ju.lt (fun e=>by have:=Option.some.inj e;omega)).trans Ju
 obtain⟨jW,Va⟩ :∃jW,jW= lM.setRow N au.toArray:=⟨_,rfl⟩
 rw [← Va] at qh yK fY Od
 have nb:∀ty qD eY,(Builtin.copy_ #[39,39] ty #[.slice (some ⟨N,(i + 1) * 3,none⟩) (xs.length - i) qD,.slice (some ⟨g,i * 3,none⟩) (xs.length - i) eY]).run Tryz.prog jW.drew= .ok (goInt ((xs.length - i:Nat):Int)) (jW.drew.setRow N (au.take ((i + 1) * 3) ++ (xs.drop i).flatMap aK.cells ++ au.drop ((i + 1) * 3 + ((xs.drop i).flatMap aK.cells).length)).toArray):=fun ty qD eY=>by
  have h:=KB (P:=Tryz.prog) jW.drew 39 39 ty 214 i0 N ((i + 1) * 3) (xs.length - i) (xs.length - i) qD ⟨g,i * 3,none⟩ (xs.length - i) eY au.toArray 214 ((xs.drop i).flatMap aK.cells) Tryz.underlying39 hi yK (by simp only [Nat.min_def];split <;> omega) (by rw [oH,dx]) (AD _ Od) (by rw [oH,List.size_toArray,wb];omega) FE
  simpa using h
 obtain⟨c2,jt⟩ :∃c2,c2= au.take ((i + 1) * 3) ++ (xs.drop i).flatMap aK.cells ++ au.drop ((i + 1) * 3 + ((xs.drop i).flatMap aK.cells).length):=⟨_,rfl⟩
 rw [← jt] at nb
 have ji:c2= mZ.toList.take (i * 3) ++ aK.cells s ++ (xs.drop i).flatMap aK.cells ++ mZ.toList.drop ((xs.length + 1) * 3):=by
  have t1:(mZ.toList.take (i * 3) ++ aK.cells s).length= (i + 1) * 3:=by rw [List.length_append,List.length_take,Jo,ij];omega
  have a1:au.take ((i + 1) * 3)= mZ.toList.take (i * 3) ++ aK.cells s:=by
   rw [gM,List.take_left' t1]
  have a2:au.drop ((i + 1) * 3 + ((xs.drop i).flatMap aK.cells).length)= mZ.toList.drop ((xs.length + 1) * 3):=by
   rw [oH,← List.drop_drop,gM,List.drop_left' t1,List.drop_drop,ij]
   congr 1;omega
  rw [jt,a1,a2]
 have hS:aC (jW.drew.setRow N c2.toArray) N 214 c2.toArray:=(show aC jW.drew N 214 au.toArray from yK).setRow;have GD:=WW (B:=B) ij xs i (by omega) s mZ.toList c2 G N _ Jo ahY UK qi ji hS (by omega)
 have gY:w.grownBy (jW.drew.setRow N c2.toArray) (some g):=by
  have h1:Below w w jW:=(Ni (fY) (eO ▸ (show N≤lM.heap.size from Nat.le_of_lt Co.lt)) (fun k ax=>by have:=Option.some.inj ax;omega):Below w lM jW) |> FG.trans;have h2:Below w w (jW.drew.setRow N c2.toArray):=h1.drew.trans (Ni (FC (w:=jW.drew)) (by have:=h1.size;show w.heap.size≤jW.heap.size;exact this) (fun k ax=>by have:=Option.some.inj ax;omega))
  exact lz h2 _
 have Ep:=J GD;have tT:=J gY
 have uN:¬(G= i):=by omega
 have lC:¬(G= i + 1):=by omega
 have ajl:¬(xs.length= i):=by omega
 have CN:(xs.length:Int) < (xs.length:Int) + 1:=by omega
 have Ej:=J qh;have Ek:=J nb;have afd:=J JD;clear qh nb JD GD gY hS ji jt Od fY yK wb gM NG Ju FG Co qi Jo NB cb JK AD xC Wi FE oH CB bR Ct Va bW eO
 haveI:Nonempty (cP (fun _:World=>True)):=⟨⟨w,trivial⟩⟩
 go_in
 go_wp2_with (first
  | (at_builtin;refine Lib.wpList_append_run _ rfl _ _ _ _ rfl _ _ rfl rfl _ _ (afd.out _) ?_)
  | (with_reducible refine Lb _ rfl _ _ 39 39 rfl _ _ rfl rfl (Ej.out _ _) ?_))
 refine oP (fun _=>True) [([0,1,2,3,4,5,6,7],8)] [] (by kernel_rfl) (by kernel_rfl) trivial ?_
 refine gZ fun K gg=>?_
 change wpQuiet _ _ _ _ (_ ::_ ::_ ::_ ::_ ::_ ::_ ::_ ::[]) _
 repeat (go_big_quiet_step (fail))
 refine wpQuiet_nil ?_
 change wpList _ _ _ (_ ::[]) _ _
 go_wp2_with (with_reducible refine Lb _ rfl _ _ 39 39 rfl _ _ rfl rfl (Ek.out _ _ _) ?_)
 refine hh (C:=fun _:World=>True) trivial (gg _ _ ?_)
 refine mg ?_
 refine wpQuiet_nil ?_
 go_wp2
 go_ret
 exact⟨N,G,rfl,Ep.out,tT.out⟩
theorem WV (B:Nat) (g c:Nat) (xs:List aK) (bd:xs.length≤1048575) (i:Nat) (hi:i≤xs.length) (s:aK) (jj:Nat) (w:World) (nV:B≤w.heap.size) (eg:jj≠g)
  (bR:aX B 214 3 aK.cells w (.slice g xs c) xs) (ic:aC w jj 214 (aK.cells s).toArray):
 Calls Tryz.prog 331 #[.slice g xs c,.int .i64 (i:Int),.slice jj 1 1] w fun e ah=>
  ∃br cO,e= .returned (.slice (some ⟨br,0,none⟩) (xs.length + 1) cO)∧aX B 214 3 aK.cells ah (.slice (some ⟨br,0,none⟩) (xs.length + 1) cO) (xs.take i ++ s ::xs.drop i)∧w.grownBy ah (some g):=by
 by_cases h1:i= xs.length
 ·subst h1
  rw [List.take_length,List.drop_length]
  exact alK B g c xs bd s jj w nV bR ic
 ·by_cases h2:xs.length + 1≤c
  ·exact alM B g c xs bd i (by omega) h2 s jj w eg bR ic
  ·have h3:=bR.parts.2.2.1
   obtain rfl:c= xs.length:=by omega
   exact alL B g xs bd i (by omega) s jj w nV bR ic
open Go.RowKit Go.G9
theorem jE (x:aN):(aN.cells x).length= 3:=rfl
theorem tz (x:aN):∀u,u ∈ aN.cells x→u.oneCell'= true:=by
 intro u hu
 simp only [aN.cells,List.mem_cons,List.not_mem_nil,or_false] at hu
 rcases hu with rfl | rfl | rfl <;> rfl
def iV {T:Type} (o:Option (List T)):List T:=o.getD []
theorem Uk {T V:Type} {sz:Nat} {f:T→List V} (hf:∀y,(f y).length= sz) {y:T} {u:V} {i:Nat} (hi:i < sz):∀(xs:List T) (j:Nat) (x:T),xs[j]? =some x→f y= (f x).set i u→(xs.set j y).flatMap f= (xs.flatMap f).set (j * sz + i) u
 | [],j,x,h,_=>by simp at h
 | z ::xs,0,x,h,hy=>by
  simp at h;subst h
  simp only [List.set_cons_zero,List.flatMap_cons,Nat.zero_mul,Nat.zero_add]
  rw [List.set_append_left _ _ (by rw [hf];exact hi),hy]
 | z ::xs,j + 1,x,h,hy=>by
  have eP:=Uk hf hi xs j x (by simpa using h) hy
  simp only [List.set_cons_succ,List.flatMap_cons]
  rw [eP,List.set_append_right _ _ (by rw [hf,Nat.succ_mul];omega),hf]
  congr 1
  congr 1
  rw [Nat.succ_mul];omega
theorem Ba {T:Type} {B:Nat} {e:TypeId} {sz:Nat} {f:T→List Value} {w:World} {g n c:Nat} {xs:List T} (h:aX B e sz f w (.slice g n c) xs) (hf:∀y,(f y).length= sz) {j i:Nat} {x y:T} {u:Value} (ay:xs[j]? =some x) (hi:i < sz) (hy:f y= (f x).set i u):aX B e sz f (w.setCell ⟨g,j * sz + i,none⟩ u) (.slice g n c) (xs.set j y):=by
 unfold aX at h ⊢
 rw [List.length_set,Uk hf hi xs j x ay hy]
 exact Yq h rfl
theorem AZ {T:Type} {B:Nat} {e:TypeId} {sz:Nat} {f:T→List Value} {w:World} {g n c:Nat} {xs:List T} (h:aX B e sz f w (.slice g n c) xs) (hf:∀y,(f y).length= sz) {j i:Nat} (bI:j < xs.length) (hi:i < sz):w.frozen? ⟨g,j * sz + i,none⟩ =false:=by
 refine (Yp h rfl ?_).2
 rw [mc hf]
 have:(j + 1) * sz≤xs.length * sz:=Nat.mul_le_mul_right _ bI
 rw [Nat.succ_mul] at this
 omega
theorem qm {T:Type} {sz:Nat} {f:T→List Value} {B:Nat} {e:TypeId} {w:World} {g n c:Nat} {xs:List T} (h:aX B e sz f w (.slice g n c) xs) (hf:∀y,(f y).length= sz) {j:Nat} {x:T} (ay:xs[j]? =some x) {i:Nat} {u:Value} (hu:(f x)[i]? =some u):w.cell? ⟨g,j * sz + i,none⟩ =some u:=by
 obtain⟨gK,cO,gy,_,bN,_⟩:=h.form hf
 injection gy with e1 _ _
 subst e1
 obtain⟨si,auq,y,e9,_,hy,aG⟩:=bN.at_ (Below.refl _ _) (k:=j) (List.getElem?_eq_some_iff.1 ay).1
 cases e9
 obtain rfl:x= y:=Option.some.inj (ay.symm.trans hy)
 have:=aG i u hu (aB.self _)
 simp only [aB.self,Nat.zero_add] at this
 exact this
theorem vu {P:Program} {w:World} {ops:Array Oper} {rest:List Oper} {o:Oper} {a:Act} {Q:Exit→Act→World→Prop} (nw:o.guard= none) (s x:Operand) (t:TypeId)
  (dd:o.op= .call {callee:= .builtin .append,args:=#[s,x],argTypes:=#[t,t]})
  (B:Nat) (e:TypeId) (i:TypeInfo) (z:Value) (sz bytes:Nat) (cA:P.underlying t= some (.slice e)) (hi:P.info? e= some i) (cb:i.zero= some z)
  (uU:i.size= sz) (uD:i.bytes= bytes) (vf:z.cells.size= sz) (eW:0 < sz) {T:Type} (f:T→List Value) (hf:∀y,(f y).length= sz) (kl:∀y u,u ∈ f y→u.oneCell'= true)
  (g:Nat) (aZ:a.eval s= .slice g 0 0) (ck:aC w g e #[]) (nU:B≤g) (ak:Option Addr) (c2:Nat) (ys:List T) (n:Nat) (bd:n= ys.length) (ay:a.eval x= .slice ak n c2) (bN:aJ sz f w ak ys) (aU:ak= none→ys= []∧c2= 0)
  (h63:ys.length≤maxLen) (uE:ys.length * bytes≤140737488355328)
  (h:∀br cO ah,aX B e sz f ah (.slice (some ⟨br,0,none⟩) ys cO) ys→Below w w ah→wpList P ops Q rest (a.put o.dst (.slice (some ⟨br,0,none⟩) n cO)) ah):wpList P ops Q (o ::rest) a w:=by
 subst bd
 exact zB nw s x t dd B e i z sz bytes cA hi cb uU uD vf eW f hf kl g aZ ck nU ak c2 ys ay bN aU h63 uE h
def lR (rs:List aM) (qs:List aN):Bool:=dF rs qs && jC rs qs
theorem Rj {p:Prop} (h:p:=by
 rintro e bg ⟨rfl,bE⟩
 have av:=be w bE;have I:Below w w bg:=av
 go_wp2
 go_ret
 exact⟨rfl,(ai I aw)⟩):p:=h
theorem AS (an:Option Addr) (c0:Nat) (rs:List aM) (h0:rs.length≤1048576) (ga:rs.length≤c0) (ar:Option Addr) (au:Nat) (qs:List aN) (h1:qs.length≤1048576) (v:Bool) (az:lR rs qs= v) (w:World) (aW:aJ 7 aM.cells w an rs) (aV:aJ 3 aN.cells w ar qs):Calls Tryz.prog 262 #[.slice an rs c0,.slice ar qs au] w fun e ah=>e= .returned (.bool v)∧Below w w ah:=by
 subst az
 cases aR:dF rs qs
 ·have ei:=J aR
  have e:lR rs qs= false:=by simp [lR,aR]
  rw [e]
  clear aR e
  go_in
  go_wp2_with fail
  refine (nr an c0 rs h0 ga ar au qs h1 _ ei.out _ (aW.U aw) (aV.U aw)).mono ?_
  exact Rj
 ·by_cases iz:qs.length= 0
  ·have ei:=J aR
   have e:lR rs qs= false:=by rw [lR,JX iz,Bool.and_false]
   rw [e]
   clear aR e
   obtain rfl:=List.length_eq_zero_iff.1 iz
   clear iz
   go_in
   go_wp2_with fail
   refine (nr an c0 rs h0 ga ar au [] h1 _ ei.out _ (aW.U aw) (aV.U aw)).mono ?_
   exact Rj
  ·obtain⟨j,bI⟩ :∃j,qs.length= j + 1:=⟨qs.length - 1,by omega⟩
   obtain⟨ey,gN,q,rfl,_,bf,_⟩:=aV.at_ (Below.refl _ _) (k:=j) (by omega)
   obtain⟨t,cA⟩:=oi aR bf
   have e:lR rs qs= kn t q:=by rw [lR,aR,xR bI bf cA];rfl
   rw [e]
   obtain⟨qr,cp,dy⟩:=q
   have ei:=J aR;have dc:=J bf;have bP:=J cA;have eI:=J bI
   have ie:j≤1048576:=by omega
   clear aR bf cA e iz
   obtain⟨v,az⟩ :∃v,kn t ⟨qr,cp,dy⟩ =v:=⟨_,rfl⟩
   have bD:=J az
   rw [az]
   clear az;have da:=J (fun W (h:aJ 7 aM.cells W an rs) (dv:aJ 3 aN.cells W (some ⟨ey,gN,none⟩) qs)=>nr an c0 rs h0 ga (some ⟨ey,gN,none⟩) au qs h1 _ ei.out W h dv)
   rw [bI] at da ⊢
   clear bI
   go_in
   go_wp2_with fail
   refine (da.out _ (aW.U aw) (aV.U aw)).mono ?_
   rintro e bg ⟨rfl,bE⟩
   have av:=be w bE;have I:Below w w bg:=av;replace aW:=aW.U av;replace aV:=aV.U av
   obtain⟨_,_,y,e9,fR,hy,dh⟩:=aV.at_ (Below.refl _ _) (k:=j) (by have:=eI.out;omega)
   cases e9
   obtain rfl:(⟨qr,cp,dy⟩ :aN)= y:=Option.some.inj (dc.out.symm.trans hy)
   clear hy;have cy:=dh 0 _ rfl;have dD:=dh 1 _ rfl;have di:=dh 2 _ rfl
   simp only [Nat.add_zero] at cy
   have g0:=cy (aB.self _);have g1:=dD (aB.self _);have g2:=di (aB.self _)
   simp only [aB.self] at g0
   simp only [aB.self] at g1
   simp only [aB.self] at g2
   clear dh cy dD di
   go_wp2_with fail
   refine (vi an c0 rs h0 ⟨qr,cp,dy⟩ t bP.out v bD.out _ (aW.U aw)).mono ?_
   rintro e aQ ⟨rfl,aP⟩
   have ao:=be bg aP;replace I:=ai I ao
   go_wp2
   go_ret
   exact⟨rfl,(ai I aw)⟩
theorem XZ {rs:List aM} {qs:List aN} {id mem:Int} (h:dF rs qs= false):jD rs qs id mem= none:=by simp [jD,h]
theorem Ya {rs:List aM} {qs:List aN} {id mem:Int} (h:eH mem= false):jD rs qs id mem= none:=by simp [jD,h]
theorem Yb {rs:List aM} {qs:List aN} {id mem:Int} (h:hasB (ht rs qs) id= false):jD rs qs id mem= none:=by simp [jD,h]
theorem Yc {rs:List aM} {qs:List aN} {id mem:Int} (h:dF rs qs= true) (h2:eH mem= true) (h3:hasB (ht rs qs) id= true):jD rs qs id mem= some (qs ++ [⟨id,mem,false⟩]):=by simp [jD,h,h2,h3]
theorem adP {p:Prop} (h:p:=by
 clear aR
 go_in
 go_wp2_with fail
 refine (nr an c0 rs h0 ga ar au qs h1 _ ei.out _ (aW.U aw) (aV.U aw)).mono ?_
 rintro e bg ⟨rfl,bE⟩
 have av:=be w bE;have I:Below w w bg:=av
 go_wp2
 go_ret2
 exact⟨none,0,rfl,aX.nil,(ai I aw)⟩):p:=h
theorem adW {p:Prop} (h:p:=by
 rintro e bg ⟨rfl,bE⟩
 have av:=be w bE;have I:Below w w bg:=av
 go_wp2_with fail
 refine (iN mem _ dQ.out _).mono ?_
 rintro e w0 ⟨rfl,h0⟩
 rw [h0]
 clear h0 w0
 go_wp2
 go_ret2
 exact⟨none,0,rfl,aX.nil,(ai I aw)⟩):p:=h
theorem aaL {p:Prop} (h:p:=by
 rintro e bA ⟨rfl,bC⟩
 have aL:=be aQ bC;replace I:=ai I aL;replace aV:=aV.U aL;clear yE;have aU:=tV.out;have gh:=J (fun e u=>(aV.U (ca bA (.cells #[] e))):∀(e:TypeId) (u:Unit),aJ 3 aN.cells (bA.alloc (.cells #[] e)) ar qs);have tF:=I.size
 go_wp2_with ((first
  | (at_builtin;refine zB rfl _ _ 37 rfl bA.heap.size 115 i0 _ 3 24 Tryz.underlying37 hi dk dx dC rfl (by decide) aN.cells jE tz bA.heap.size rfl (aC.new _ _ _) (Nat.le_refl _) ar au qs rfl (gh.out _ ()) aU (by unfold maxLen;omega) (by omega) ?_;intro br cO ng fz eZ;have nY:Below bA bA ng:=ai (ca _ _) eZ;have QD:=nY.size;clear aU)
  | (at_builtin;refine kJ rfl _ _ 37 rfl bA.heap.size 115 i0 _ 3 24 Tryz.underlying37 hi dk dx dC rfl (by decide) aN.cells jE tz _ qs rfl (fz.alloc _) ⟨ng.heap.size,0,none⟩ 1 ⟨id,mem,false⟩ rfl (aJ.one (f:=aN.cells) ⟨id,mem,false⟩ _) (by unfold maxLen;omega) (by omega) (by simp;omega) ?_;intro v4 cf eX fs kC)))
 have gu:Below bA bA cf:=(nY.alloc (by omega) _).grown fs (by simp;omega) (fun q bf=>(fz.lt q bf).1)
 obtain⟨Y,gV,rfl,_,_,_⟩:=eX.form jE
 go_wp2
 go_ret2
 exact⟨Y,gV,rfl,eX.base (by omega),ai I gu⟩):p:=h
theorem WK (an:Option Addr) (c0:Nat) (rs:List aM) (h0:rs.length≤1048576) (ga:rs.length≤c0) (ar:Option Addr) (au:Nat) (qs:List aN) (h1:qs.length≤1048576) (aU:ar= none→qs= []∧au= 0) (id mem:Int) (w:World) (aW:aJ 7 aM.cells w an rs) (aV:aJ 3 aN.cells w ar qs):Calls Tryz.prog 254 #[.slice an rs c0,.slice ar qs au,id,mem] w fun e ah=>∃A c,e= .returned (.tuple #[.slice A (iV (jD rs qs id mem)).length c,.bool (jD rs qs id mem).isSome])∧aX w 115 3 aN.cells ah (.slice A (iV (jD rs qs id mem)).length c) (iV (jD rs qs id mem))∧Below w w ah:=by
 obtain⟨i0,hi,dk,dx,dC⟩:=info_parts sE
 have tV:=J aU;clear aU
 cases aR:dF rs qs
 ·have ei:=J aR
  rw [XZ aR]
  exact adP
 cases hm:eH mem
 ·have ei:=J aR;have dQ:=J hm
  rw [Ya hm]
  clear aR hm
  go_in
  go_wp2_with fail
  refine (nr an c0 rs h0 ga ar au qs h1 _ ei.out _ (aW.U aw) (aV.U aw)).mono ?_
  exact adW
 have ju:(ht rs qs).length≤1048576:=Nat.le_trans (XL rs qs) h0
 cases aZ:hasB (ht rs qs) id
 ·have ei:=J aR;have dQ:=J hm;have dW:=J aZ
  rw [Yb aZ]
  clear aR hm aZ
  go_in
  go_wp2_with fail
  refine (nr an c0 rs h0 ga ar au qs h1 _ ei.out _ (aW.U aw) (aV.U aw)).mono ?_
  rintro e bg ⟨rfl,bE⟩
  have av:=be w bE;have I:Below w w bg:=av;replace aW:=aW.U av;replace aV:=aV.U av
  go_wp2_with fail
  refine (iN mem _ dQ.out _).mono ?_
  rintro e w0 ⟨rfl,h0⟩
  rw [h0]
  clear h0 w0
  go_wp2_with fail
  refine (Py an c0 rs h0 ar au qs h1 ei.out _ (aW.U aw) (aV.U aw)).mono ?_
  rintro e aQ ⟨pr,c5,rfl,iw,aP⟩
  have ao:=be bg aP;replace I:=ai I ao;have yE:=iw.fk (hf:=fZ);clear iw
  go_wp2_with fail
  refine (Ac pr c5 (ht rs qs) id ju _ dW.out _ (yE.U aw)).mono ?_
  rintro e bA ⟨rfl,bC⟩
  have aL:=be aQ bC;replace I:=ai I aL
  go_wp2
  go_ret2
  exact⟨none,0,rfl,aX.nil,(ai I aw)⟩
 ·have ei:=J aR;have dQ:=J hm;have dW:=J aZ
  rw [Yc aR hm aZ]
  clear aR hm aZ
  go_in
  go_wp2_with fail
  refine (nr an c0 rs h0 ga ar au qs h1 _ ei.out _ (aW.U aw) (aV.U aw)).mono ?_
  rintro e bg ⟨rfl,bE⟩
  have av:=be w bE;have I:Below w w bg:=av;replace aW:=aW.U av;replace aV:=aV.U av
  go_wp2_with fail
  refine (iN mem _ dQ.out _).mono ?_
  rintro e w0 ⟨rfl,h0⟩
  rw [h0]
  clear h0 w0
  go_wp2_with fail
  refine (Py an c0 rs h0 ar au qs h1 ei.out _ (aW.U aw) (aV.U aw)).mono ?_
  rintro e aQ ⟨pr,c5,rfl,iw,aP⟩
  have ao:=be bg aP;replace I:=ai I ao;replace aV:=aV.U ao;have yE:=iw.fk (hf:=fZ);clear iw
  go_wp2_with fail
  refine (Ac pr c5 (ht rs qs) id ju _ dW.out _ (yE.U aw)).mono ?_
  exact aaL
end Go.Proofs.YtlaaemmmbodaaaaGreatDoor
namespace Go.G9
open Go.RowKit
theorem aC.jO {w ah:World} {g:Nat} {row:Option Nat} {t:TypeId} {cs:Array Value} (h:aC w g t cs) (ck:w.grownBy ah row) (eg:some g≠row):aC ah g t cs:=(ck.block g h.lt eg).trans h
open Go.RowKit
theorem aX.xW {T:Type} {B sz:Nat} {f:T→List Value} {e t:TypeId} {w:World} {g n c p:Nat} {xs:List T} {cs:Array Value} (h:aX B e sz f w (.slice g n c) xs) (aE:aC w p t cs) (eg:t≠e):p≠g:=by
 rintro rfl
 obtain⟨_,_,_,_,cur,bp,_⟩:=h.parts
 unfold aC at aE bp
 rw [aE] at bp
 injection bp with h1
 injection h1 with _ h2 _
 exact eg h2
theorem aX.pf {T:Type} {B sz:Nat} {f:T→List Value} {e t:TypeId} {w:World} {v:Value} {p:Nat} {xs:List T} {cs:Array Value} (h:aX B e sz f w v xs) (aE:aC w p t cs) (eg:t≠e):∀k,v.ownBlock= some k→k≠p:=by
 rintro k ax rfl
 rcases h.2 with ⟨rfl,_⟩ | ⟨g,cap,cur,rfl,bp,dM,r⟩
 ·cases ax
 ·have a1:g= k:=Option.some.inj ax
  subst a1
  unfold aC at aE
  rw [aE] at dM
  injection dM with h1
  injection h1 with _ h2 _
  exact eg h2
theorem aX.cH {T:Type} {B sz:Nat} {f:T→List Value} {e t:TypeId} {w:World} {v:Value} {p:Nat} {xs:List T} {cs:Array Value} (h:aX B e sz f w v xs) (aE:aC w p t cs) (eg:t≠e:=by decide):∀k,v.ownBlock= some k→k≠p:=h.pf aE eg
theorem aX.apart {T SJ:Type} {B B' sz aqU:Nat} {f:T→List Value} {aF:SJ→List Value} {e gy:TypeId} {w:World} {v lT:Value} {xs:List T} {ys:List SJ} (h:aX B e sz f w v xs) (dv:aX B' gy aqU aF w lT ys) (eg:e≠gy):∀k,v.ownBlock= some k→some k≠lT.ownBlock:=by
 intro k ax e1
 rcases h.2 with ⟨rfl,_⟩ | ⟨g,cap,cur,rfl,bp,dM,r⟩
 ·cases ax
 ·rcases dv.2 with ⟨rfl,_⟩ | ⟨br,MB,asN,rfl,hK,VJ,fS⟩
  ·cases e1
  ·have a1:g= k:=Option.some.inj ax
   have a2:k= br:=Option.some.inj e1
   subst a1;subst a2
   rw [dM] at VJ
   injection VJ with h1
   injection h1 with _ h2 _
   exact eg h2
end Go.G9
namespace Go.Proofs.YtlaaemmmbodaaaaGreatDoor
open Go.RowKit Go.G9
theorem aqB {xs:List aK} {s x:aK} {k:Nat} (ax:k < xs.length) (h1:∀i y,i < k→xs[i]? =some y→y.mem < s.mem) (ay:xs[k]? =some x) (h2:¬x.mem < s.mem) (h3:x.mem= s.mem):fi xs s= xs.set k s:=by
 rw [Dx (k:=k) (by omega) h1 (fun y hy=>by rw [ay] at hy;cases hy;exact h2),ay]
 simp only [h3,if_true]
 rw [List.set_eq_take_append_cons_drop,if_pos ax]
theorem ZE {xs:List aK} {s:aK} {k:Nat} (ax:k≤xs.length) (h1:∀i y,i < k→xs[i]? =some y→y.mem < s.mem) (h2:∀x,xs[k]? =some x→¬x.mem < s.mem) (h3:∀x,xs[k]? =some x→x.mem≠s.mem):fi xs s= xs.take k ++ s ::xs.drop k:=by
 rw [Dx ax h1 h2]
 cases ay:xs[k]? with
 | none=>simp only [List.drop_of_length_le (List.getElem?_eq_none_iff.1 ay)]
 | some x=>simp only [if_neg (h3 x ay)]
theorem adI {p:Prop} (h:p:=by
 rintro e QK ⟨br,cO,rfl,gW,fY⟩
 have FK:=DZ.out.jO fY (by intro e;exact Au (Option.some.inj e));have ajG:=gW.xW FK (by decide);have gY:=pC (lz sS.out (some g)) fY;clear Ig DZ Iw yw sS fY
 go_wp2
 refine yB (dX _ _ ?_)
 refine pn fun Ex ux=>?_
 refine wpQuiet_nil ?_
 change wpQuiet _ _ _ _ (_ ::_ ::[]) _
 repeat (go_big_quiet_step (fail))
 refine wpQuiet_nil ?_
 change wpList _ _ _ (_ ::[]) _ _
 have ahL:=FK.frozen 4;have ahq:=(FK.cell 4).trans (show _= some (.slice g ad c) from rfl);have DY:=J (FK.gI 4 (.slice br (ad.length + 1) cO));have mU:=J (gW.kept (kO (j:=4) (qe QK (some p)) (.slice br (ad.length + 1) cO)) (fun q bf e=>by have h1:br= q:=Option.some.inj bf;have h2:q= p:=Option.some.inj e;omega))
 have aez:=J gY;have aeA:=J (kO (j:=4) (qe QK (some p)) (.slice br (ad.length + 1) cO));clear FK gW gY
 go_wp2
 refine yB (ux _ _ ?_)
 refine zC ?_
 refine wpQuiet_nil ?_
 refine wpQuiet_nil ?_
 go_wp2
 have hle:(fi ad s).length= ad.length + 1:=by rw [cC.out,List.length_append,List.length_cons,List.length_take,List.length_drop];omega
 refine⟨rfl,Value.tuple #[],by simp [results,Tryz.results307,go_sem],rfl,br,cO,QK,aez.out,aeA.out,?_,?_,ajG⟩
 ·rw [hle];exact DY.out
 ·have h:=mU.out
  rw [hle,cC.out,es];exact h):p:=h
theorem ZF (B p:Nat) (ag af sp:Int) (tH:Value) (g c:Nat) (ad:List aK) (bd:ad.length≤1048575) (sm st cx:Int) (s:aK) (es:s=⟨sm,st,cx⟩) (w:World) (Nn:B≤p) (nV:B≤w.heap.size) (Au:p≠g)
  (aj:aC w p 41 #[ag,af,sp,tH,.slice g ad c]) (bR:aX B 214 3 aK.cells w (.slice g ad c) ad):
 Calls Tryz.prog 307 #[.pointer (some ⟨p,0,none⟩),.agg #[sm,st,cx]] w fun e ah=>e= .returned (.tuple #[])∧∃br cO bg,w.grownBy bg (some g)∧bg.grownBy ah (some p)∧aC ah p 41 #[ag,af,sp,tH,.slice (some ⟨br,0,none⟩) (fi ad s).length cO]∧aX B 214 3 aK.cells ah (.slice (some ⟨br,0,none⟩) (fi ad s).length cO) (fi ad s)∧p≠br:=by
 have LB:=J aj;have jI:=J bR;have OI:=aj.lt;clear aj bR
 go_in
 go_upto_region 1 with fail
 have oF:Below w w (w.alloc (.cells #[sm,st,cx] 214)):=ca w _;have bO:=aC.new w 214 #[sm,st,cx];have aj:=LB.out.U oF LB.out.lt;have bR:=jI.out.bh oF
 obtain⟨w0,rF⟩ :∃w0,w0= w.alloc (.cells #[sm,st,cx] 214):=⟨_,rfl⟩
 rw [← rF] at oF bO aj bR
 have dW:=J bO;have cD:=J aj;have dp:=J bR;clear bO aj bR LB jI
 generalize w.alloc (.cells #[sm,st,cx] 214)= HS at *
 subst rF
 go_wp2
 go_loopw [4] (fun i wr=>∃k:Nat,k≤ad.length∧i= .int .i64 k∧(∀j x,j < k→ad[j]? =some x→x.mem < s.mem)∧Below w0 w0 wr) (fun i _=>ad.length - (intOf i).toNat)
 case atStart=>exact⟨0,Nat.zero_le _,rfl,fun j x h=>absurd h (by omega),Below.refl _ _⟩
 case round=>
  obtain⟨k,ax,rfl,aT,aE⟩:=hrel
  have cJ:=J aT;clear aT;have fP:=cD.out.U aE cD.out.lt;have gX:=dW.out.U aE dW.out.lt;have hOr:=dp.out.bh aE
  have c4:=fun K:aB wr.heap.size wr=>((fP.U K.U fP.lt).cell 4).trans (show _= some (.slice g ad c) from rfl)
  have cj:=aC.jN (fun K:aB wr.heap.size wr=>(gX.U K.U gX.lt));have kx:=J fP;have lJ:=J gX;have mV:=J hOr;clear fP gX hOr
  by_cases bn:k < ad.length
  ·obtain⟨⟨dZ,iG,zD⟩,ay⟩ :∃x,ad[k]? =some x:=⟨_,List.getElem?_eq_getElem bn⟩
   have dj:=fun K:aB wr.heap.size wr=>qm (mV.out.bh K.U) ij ay (i:=0) (u:= .int .i64 dZ) rfl
   simp only [Nat.add_zero] at dj
   have cg:=J ay;clear ay;have CG:decide ((k:Int) < (ad.length:Int))= true:=decide_eq_true (by omega)
   by_cases hm:dZ < sm
   ·go_wp2
    refine eC (by kernel_rfl) (by kernel_rfl) ?_
    repeat (go_big_quiet_step ((fail)))
    refine wpQuiet_nil ?_
    intro K
    clear c4 cj dj
    go_wp2
    go_roundw
    case rel=>exact⟨k + 1,by omega,by go_num,fun j y bI hy=>by
     by_cases e:j= k
     ·subst e;rw [cg.out] at hy;cases hy;rw [es];exact hm
     ·exact cJ.out j y (by omega) hy,ai aE K.U⟩
    case measure=>simp [intOf];omega
   ·have CH:decide (dZ < sm)= false:=decide_eq_false hm
    go_wp2
    refine eC (by kernel_rfl) (by kernel_rfl) ?_
    repeat (go_big_quiet_step ((fail)))
    refine wpQuiet_nil ?_
    intro K
    clear c4 cj dj CH;have eZ:=ai aE K.U;have fP:=kx.out.U K.U kx.out.lt;have gX:=lJ.out.U K.U lJ.out.lt;have hOr:=mV.out.bh K.U;clear kx lJ mV
    generalize K.world= nh at *
    have c4:=fun K:aB nh.heap.size nh=>((fP.U K.U fP.lt).cell 4).trans (show _= some (.slice g ad c) from rfl)
    have cj:=aC.jN (fun K:aB nh.heap.size nh=>(gX.U K.U gX.lt))
    have dj:=fun K:aB nh.heap.size nh=>qm (hOr.bh K.U) ij cg.out (i:=0) (u:= .int .i64 dZ) rfl
    simp only [Nat.add_zero] at dj
    have kx:=J fP;have lJ:=J gX;have mV:=J hOr;clear fP gX hOr
    by_cases he:dZ= sm
    ·go_wp2
     refine eC (by kernel_rfl) (by kernel_rfl) ?_
     repeat (go_big_quiet_step ((fail)))
     refine wpQuiet_nil ?_
     intro K
     clear c4 cj dj;have aiC:=ai eZ K.U;have fP:=kx.out.U K.U kx.out.lt;have gX:=lJ.out.U K.U lJ.out.lt;have hOr:=mV.out.bh K.U;clear kx lJ mV
     generalize K.world= wn at *
     have c4:=fun K:aB wn.heap.size wn=>((fP.U K.U fP.lt).cell 4).trans (show _= some (.slice g ad c) from rfl)
     have cj:=aC.jN (fun K:aB wn.heap.size wn=>(gX.U K.U gX.lt));have kx:=J fP;have mV:=J hOr;clear fP gX hOr
     go_wp2
     refine HP 7 (by kernel_rfl) (by kernel_rfl) ?_
     change wpQuiet _ _ _ _ (_ ::_ ::_ ::_ ::_ ::_ ::_ ::[]) _
     repeat (go_big_quiet_step (fail))
     refine wpQuiet_nil ?_
     intro K
     change wpList _ _ _ (_ ::[]) _ _
     clear c4 cj;have bC:=ai aiC K.U;have fP:=kx.out.U K.U kx.out.lt;have hOr:=mV.out.bh K.U;clear kx mV
     generalize K.world= hF at *
     have z0:=AZ hOr ij (j:=k) (i:=0) bn (by decide);have ch:=AZ hOr ij (j:=k) (i:=1) bn (by decide);have z2:=AZ hOr ij (j:=k) (i:=2) bn (by decide);have kK:=qm hOr ij cg.out (i:=0) (u:= .int .i64 dZ) rfl;have yn:=qm hOr ij cg.out (i:=1) (u:= .int .i64 iG) rfl;have kt:=qm hOr ij cg.out (i:=2) (u:= .int .i64 zD) rfl
     simp only [Nat.add_zero] at z0 kK
     have e1:fi ad s= ad.set k s:=aqB bn (fun j y bI hy=>cJ.out j y bI hy) cg.out (by rw [es];show¬dZ < sm;omega) (by rw [es];exact he);have gW:=Ba hOr ij (y:=⟨sm,iG,zD⟩) (u:= .int .i64 sm) (i:=0) cg.out (by decide) rfl;have oY:=Ba gW ij (j:=k) (x:=⟨sm,iG,zD⟩) (y:=⟨sm,st,zD⟩) (u:= .int .i64 st) (i:=1) (by rw [List.getElem?_set_self bn]) (by decide) rfl
     have nu:=Ba oY ij (j:=k) (x:=⟨sm,st,zD⟩) (y:=⟨sm,st,cx⟩) (u:= .int .i64 cx) (i:=2) (by rw [List.getElem?_set_self (by rw [List.length_set];exact bn)]) (by decide) rfl
     simp only [List.set_set,Nat.add_zero] at nu
     rw [← es,← e1] at nu
     have UD:=((fP.vU (p:=⟨g,k * 3,none⟩) Au (.int .i64 sm)).vU (p:=⟨g,k * 3 + 1,none⟩) Au (.int .i64 st)).vU (p:=⟨g,k * 3 + 2,none⟩) Au (.int .i64 cx);have yV:=pC (lz (ai oF bC) (some g)) (kO (j:=k * 3 + 2) (kO (j:=k * 3 + 1) (kO (j:=k * 3) (qe hF (some g)) (.int .i64 sm)) (.int .i64 st)) (.int .i64 cx));have jV:=J nu
     have aex:=J UD;have aeB:=J yV;have cC:=J e1;clear gW oY nu UD yV e1 hOr fP
     go_wp2
     refine⟨rfl,Value.tuple #[],by simp [results,Tryz.results307,go_sem],rfl,g,c,_,aeB.out,qe _ _,?_,?_,Au⟩
     ·have hle:(fi ad s).length= ad.length:=by rw [cC.out,List.length_set]
      rw [hle];exact aex.out
     ·have hle:(fi ad s).length= ad.length:=by rw [cC.out,List.length_set]
      have h:=jV.out
      rw [hle];exact h
    ·have uH:(dZ == sm)= false:=beq_eq_false_iff_ne.2 he
     go_wp2
     refine eC (by kernel_rfl) (by kernel_rfl) ?_
     repeat (go_big_quiet_step ((fail)))
     refine wpQuiet_nil ?_
     intro K
     clear c4 cj dj uH CG;have Gg:=ai eZ K.U;have fP:=kx.out.U K.U kx.out.lt;have gX:=lJ.out.U K.U lJ.out.lt;have hOr:=mV.out.bh K.U;clear kx lJ mV
     generalize K.world= wn at *
     have e1:fi ad s= ad.take k ++ s ::ad.drop k:=ZE ax (fun j y bI hy=>cJ.out j y bI hy) (fun y hy=>by rw [cg.out] at hy;cases hy;rw [es];show¬dZ < sm;omega) (fun y hy=>by rw [cg.out] at hy;cases hy;rw [es];exact he);have Ge:=ai oF Gg
     haveI:Nonempty (cP (fun V=>aC V p 41 #[ag,af,sp,tH,.slice g ad c]∧aC V w.heap.size 214 #[sm,st,cx])):=⟨⟨wn,fP,gX⟩⟩
     haveI:Nonempty (cP (fun _=>True)):=⟨⟨wn,trivial⟩⟩
     have c4:=fun K:cP (fun V=>aC V p 41 #[ag,af,sp,tH,.slice g ad c]∧aC V w.heap.size 214 #[sm,st,cx])=>(K.holds.1.cell 4).trans (show _= some (.slice g ad c) from rfl)
     have cj:=aC.jN (fun K:cP (fun V=>aC V p 41 #[ag,af,sp,tH,.slice g ad c]∧aC V w.heap.size 214 #[sm,st,cx])=>K.holds.2);have kx:=J fP;have lJ:=J gX;have mV:=J hOr;have cC:=J e1;clear fP gX hOr e1
     go_wp2
     refine HR (fun V=>aC V p 41 #[ag,af,sp,tH,.slice g ad c]∧aC V w.heap.size 214 #[sm,st,cx]) [([1,2,3,4,5,6],[0],7,false),([],[],8,true),([],[9,10],11,true)] [] [] (by kernel_rfl) (by kernel_rfl) ⟨kx.out,lJ.out⟩ ?_
     refine pn fun K gg=>?_
     change wpQuiet _ _ _ _ (_ ::_ ::_ ::_ ::_ ::_ ::[]) _
     repeat (go_big_quiet_step (fail))
     refine wpQuiet_nil ?_
     change wpQuiet _ _ _ _ (_ ::[]) _
     repeat (go_big_quiet_step (fail))
     refine wpQuiet_nil ?_
     change wpList _ _ _ (_ ::[]) _ _
     clear c4 cj;have fP:aC wn.drew p 41 #[ag,af,sp,tH,.slice g ad c]:=kx.out;have gX:aC wn.drew w.heap.size 214 #[sm,st,cx]:=lJ.out;have hOr:=mV.out.bh (Below.refl _ wn).drew;have cZ:Below w w wn.drew:=Ge.drew;clear kx lJ mV
     generalize wn.drew= wd at *
     have Ig:=J (aC.new wd 214 #[sm,st,cx]);have DZ:=J (fP.alloc (.cells #[sm,st,cx] 214));have Iw:=J (gX.alloc (.cells #[sm,st,cx] 214));have yw:=J (hOr.alloc (.cells #[sm,st,cx] 214));have sS:=J (ai cZ (ca wd (.cells #[sm,st,cx] 214)))
     have nw:=(hOr.lt g rfl).2;clear fP gX hOr
     go_wp2
     refine yC ⟨DZ.out,Iw.out⟩ (gg _ _ ?_)
     refine pn fun gr dX=>?_
     refine wpQuiet_nil ?_
     refine wpQuiet_nil ?_
     change wpList _ _ _ (_ ::[]) _ _
     go_wp2_with fail
     refine (WV B g c ad bd k (by omega) ⟨sm,st,cx⟩ wd.heap.size _ (by have:=sS.out.size;omega) (by omega) yw.out Ig.out).mono ?_
     exact adI
  ·obtain rfl:k= ad.length:=by omega
   go_wp2
   refine eC (by kernel_rfl) (by kernel_rfl) ?_
   repeat (go_big_quiet_step ((fail)))
   refine wpQuiet_nil ?_
   intro K
   clear c4 cj;have eZ:=ai aE K.U;have fP:=kx.out.U K.U kx.out.lt;have gX:=lJ.out.U K.U lJ.out.lt;have hOr:=mV.out.bh K.U;clear kx lJ mV
   generalize K.world= nh at *
   have c4:=fun K:aB nh.heap.size nh=>((fP.U K.U fP.lt).cell 4).trans (show _= some (.slice g ad c) from rfl)
   have cj:=aC.jN (fun K:aB nh.heap.size nh=>(gX.U K.U gX.lt));have kx:=J fP;have lJ:=J gX;have mV:=J hOr;clear fP gX hOr
   go_wp2
   refine eC (by kernel_rfl) (by kernel_rfl) ?_
   repeat (go_big_quiet_step ((fail)))
   refine wpQuiet_nil ?_
   intro K
   clear c4 cj;have Gg:=ai eZ K.U;have fP:=kx.out.U K.U kx.out.lt;have gX:=lJ.out.U K.U lJ.out.lt;have hOr:=mV.out.bh K.U;clear kx lJ mV
   generalize K.world= wn at *
   have e1:fi ad s= ad.take ad.length ++ s ::ad.drop ad.length:=ZE (Nat.le_refl _) (fun j y bI hy=>cJ.out j y bI hy) (fun y hy=>by have:=(List.getElem?_eq_some_iff.1 hy).1;omega) (fun y hy=>by have:=(List.getElem?_eq_some_iff.1 hy).1;omega);have Ge:=ai oF Gg
   obtain⟨k,Jy⟩ :∃k,k= ad.length:=⟨_,rfl⟩
   haveI:Nonempty (cP (fun V=>aC V p 41 #[ag,af,sp,tH,.slice g ad c]∧aC V w.heap.size 214 #[sm,st,cx])):=⟨⟨wn,fP,gX⟩⟩
   haveI:Nonempty (cP (fun _=>True)):=⟨⟨wn,trivial⟩⟩
   have c4:=fun K:cP (fun V=>aC V p 41 #[ag,af,sp,tH,.slice g ad c]∧aC V w.heap.size 214 #[sm,st,cx])=>(K.holds.1.cell 4).trans (show _= some (.slice g ad c) from rfl)
   have cj:=aC.jN (fun K:cP (fun V=>aC V p 41 #[ag,af,sp,tH,.slice g ad c]∧aC V w.heap.size 214 #[sm,st,cx])=>K.holds.2);have kx:=J fP;have lJ:=J gX;have mV:=J hOr;have cC:=J e1;clear fP gX hOr e1
   go_wp2
   refine HR (fun V=>aC V p 41 #[ag,af,sp,tH,.slice g ad c]∧aC V w.heap.size 214 #[sm,st,cx]) [([1,2,3,4,5,6],[0],7,false),([],[],8,true),([],[9,10],11,true)] [] [] (by kernel_rfl) (by kernel_rfl) ⟨kx.out,lJ.out⟩ ?_
   refine pn fun K gg=>?_
   change wpQuiet _ _ _ _ (_ ::_ ::_ ::_ ::_ ::_ ::[]) _
   repeat (go_big_quiet_step (fail))
   refine wpQuiet_nil ?_
   change wpQuiet _ _ _ _ (_ ::[]) _
   repeat (go_big_quiet_step (fail))
   refine wpQuiet_nil ?_
   change wpList _ _ _ (_ ::[]) _ _
   clear c4 cj;have fP:aC wn.drew p 41 #[ag,af,sp,tH,.slice g ad c]:=kx.out;have gX:aC wn.drew w.heap.size 214 #[sm,st,cx]:=lJ.out;have hOr:=mV.out.bh (Below.refl _ wn).drew;have cZ:Below w w wn.drew:=Ge.drew;clear kx lJ mV
   generalize wn.drew= wd at *
   have Ig:=J (aC.new wd 214 #[sm,st,cx]);have DZ:=J (fP.alloc (.cells #[sm,st,cx] 214));have Iw:=J (gX.alloc (.cells #[sm,st,cx] 214));have yw:=J (hOr.alloc (.cells #[sm,st,cx] 214));have sS:=J (ai cZ (ca wd (.cells #[sm,st,cx] 214)))
   have nw:=(hOr.lt g rfl).2;clear fP gX hOr
   go_wp2
   refine yC ⟨DZ.out,Iw.out⟩ (gg _ _ ?_)
   refine pn fun gr dX=>?_
   refine wpQuiet_nil ?_
   refine wpQuiet_nil ?_
   change wpList _ _ _ (_ ::[]) _ _
   go_wp2_with fail
   refine (WV B g c ad bd ad.length (Nat.le_refl _) ⟨sm,st,cx⟩ wd.heap.size _ (by have:=sS.out.size;omega) (by omega) yw.out Ig.out).mono ?_
   exact adI
open Go.RowKit Go.G9
theorem Nd {f:eD} (h:f.ok= true):f.ws.length≤10∧f.ad.length≤99:=by
 have H:=lg.1 h
 refine⟨H.l,Pw (N:=99) (lo:=0) H.ord fun x ay=>?_⟩
 have:=vo.1 (H.ok x ay);have:=rH.1 this.1
 omega
def asg (sp st cx:Int):lu Nat where
 par:=fun _=>[]
 val:=fun n p=>match n with
  | 7=> .agg #[.int .i64 sp,.int .i64 st,.int .i64 cx]
  | 8=> .pointer (some ⟨p,0,none⟩)
  | _=>undef
 post:=fun n _ p cY V=>match n with
  | 8=>cY.heap.size= p∧aC V p 214 #[.int .i64 0,.int .i64 0,.int .i64 0]
  | _=>True
theorem Rk {p:Prop} (h:p:=by
 change wpList _ _ _ (_ ::[]) _ _
 go_wp2
 exact hZ ⟨k.world.heap.size,rfl,ca _ _,rfl,aC.new _ _ _⟩):p:=h
theorem aaH (B p:Nat) (ag af sp:Int) (ak:Option Addr) (xU IW:Nat) (g c:Nat) (ad:List aK) (bd:ad.length≤1048575) (st cx:Int) (aZ:eB ad sp=⟨sp,st,cx⟩) (h0:0≤st) (h1:st≤1000) (w:World) (Nn:B≤p) (nV:B≤w.heap.size)
  (aj:aC w p 41 #[ag,af,sp,.slice ak xU IW,.slice g ad c]) (bR:aX B 214 3 aK.cells w (.slice g ad c) ad):
 Calls Tryz.prog 308 #[.pointer (some ⟨p,0,none⟩)] w fun e ah=>e= .returned (.tuple #[])∧∃br cO bg,w.grownBy bg (some g)∧bg.grownBy ah (some p)∧aC ah p 41 #[ag,af,(0:Int),.slice ak xU IW,.slice (some ⟨br,0,none⟩) (fi ad ⟨sp,st + 1,cx⟩).length cO]∧aX B 214 3 aK.cells ah (.slice (some ⟨br,0,none⟩) (fi ad ⟨sp,st + 1,cx⟩).length cO) (fi ad ⟨sp,st + 1,cx⟩)∧p≠br:=by
 have OI:=aj.lt;have Au:=bR.xW aj (by decide);have cD:=J aj;have dp:=J bR;have dW:=J aZ;clear aj bR aZ
 go_in
 obtain⟨wO,yL⟩ :∃X:World→Prop,∀V,X V↔(Below w w V):=⟨_,fun _=>Iff.rfl⟩
 have mm:=J yL;clear yL
 haveI:Nonempty (cP wO):=⟨⟨w,((mm.out _).2 ((Below.refl _ _)))⟩⟩
 obtain⟨c0,au,c2,c3,c4⟩:=aC.kz (fun K:cP wO=>(cD.out.U ((mm.out _).1 K.holds) cD.out.lt))
 go_wp2
 refine Bv (asg sp st cx) wO [([0,1,2,3,4,5,6],7),([],8)] [] [([],9)] [] (by kernel_rfl) (by kernel_rfl) ((mm.out _).2 ((Below.refl _ _).drew)) (fun W eF h k=>((mm.out _).2 (((mm.out _).1 h).trans (k.mono ((mm.out _).1 h).size)))) ?_
 intro bu
 refine iF (some 10) rfl (.agg #[sp,st,cx]) rfl fun hH eN=>?_
 change wpQuiet _ _ _ _ (_ ::_ ::_ ::_ ::_ ::_ ::_ ::[]) _
 repeat (go_big_quiet_step (fail))
 refine wpQuiet_nil ?_
 refine⟨fun k fO=>?_,eN _ ?_⟩
 ·change wpList _ _ _ (_ ::[]) _ _
  go_wp2_with fail
  refine (yi ag af sp ak xU IW (some ⟨g,0,none⟩) c ad (by omega) sp ⟨sp,st,cx⟩ dW.out _ (dp.out.bh ((mm.out _).1 k.holds)).fk).mono ?_
  rintro e mP ⟨rfl,fR⟩
  go_wp2
  exact hZ ⟨0,rfl,fR,trivial⟩
 simp only [Act.put]
 go_simp
 refine iF (some 2) rfl (.pointer (some ⟨bu 8,0,none⟩)) rfl fun hH eN=>?_
 change wpQuiet _ _ _ _ ([]) _
 refine wpQuiet_nil ?_
 refine⟨fun k fO=>?_,eN _ ?_⟩
 ·exact Rk
 simp only [Act.put]
 go_simp
 refine tM ?_
 change wpQuiet _ _ _ _ ([]) _
 refine wpQuiet_nil ?_
 intro cY V W aY bK
 clear c0 au c2 c3 c4
 obtain⟨uK,bW⟩ :(cY 8).heap.size= bu 8∧aC (V 8) (bu 8) 214 #[(0:Int),(0:Int),(0:Int)]:=aY.post 8 (by simp)
 have auk:w.heap.size≤bu 8:=uK ▸ (aY.nt 8 (by simp)).size;have xo:=bW.U (aY.bh 8 (by simp)) bW.lt;have ao:Below w w W:=ai aw (aY.whole 8 (by simp)).qZ;have I:Below w w W:=ao;clear aY bW uK bK
 generalize bu 8= q at *
 have fA:=xo.cK
 refine gZ fun gr dX=>?_
 change wpQuiet _ _ _ _ ([]) _
 refine wpQuiet_nil ?_
 change wpList _ _ _ (_ ::[]) _ _
 obtain⟨ata,ahx,atb⟩:=xo.nT
 go_wp2
 clear fA
 refine sP 0 fun wX gJ=>?_
 replace I:=gJ.aG I;replace xo:=gJ.vP xo;have fA:=xo.cK
 refine hh (((mm.out _).2 I)) (dX _ _ ?_)
 refine mg ?_
 change wpQuiet _ _ _ _ ([]) _
 refine wpQuiet_nil ?_
 have sC:IntKind.i64.wrap (st + 1)= st + 1:=by rw [IntKind.wrap_i64];omega
 have ahx:=xo.frozen 1
 go_upto_region 2 with fail
 clear fA
 refine kG 1 fun nj eU=>?_
 replace I:=eU.aG I;replace xo:=eU.YA xo;have fA:=xo.cK;have UE:=cD.out.U I cD.out.lt;have eX:=dp.out.bh I;have Wm:=I.size;have aey:=J UE;have la:=J eX;clear UE eX
 go_wp2_with fail
 refine (ZF B p ag af sp (.slice ak xU IW) g c ad bd sp (st + 1) cx _ rfl _ Nn (by omega) Au aey.out la.out).mono ?_
 rintro e dE ⟨rfl,br,cO,bg,fY,gY,Jj,uy,OH⟩
 have ahL:=Jj.frozen 2;have ahq:=(Jj.cell 2).trans (show _= some (.int .i64 sp) from rfl);have DY:=J (Jj.gI 2 (.int .i64 0));have mU:=J (uy.kept (kO (j:=2) (qe dE (some p)) (.int .i64 0)) (fun k ax e=>by have h1:br= k:=Option.some.inj ax;have h2:k= p:=Option.some.inj e;omega));have tS:=J (pC (lz I (some g)) fY);have tT:=J (kO (j:=2) gY (.int .i64 0))
 clear Jj uy fY gY fA
 go_wp2
 exact⟨rfl,Value.tuple #[],by simp [results,Tryz.results308,go_sem],rfl,br,cO,bg,tS.out,tT.out,DY.out,mU.out,OH⟩
theorem alC (ag af sp:Int) (ak:Option Addr) (c2:Nat) (ws:List Int) (al:Option Addr) (c3:Nat) (ad:List aK) (h2:ws.length≤1048576) (h3:ad.length≤1048576) (n2:ak= none→ws= []∧c2= 0) (n3:al= none→ad= []∧c3= 0) (cm:ws.length≤c2) (az:mh ⟨ag,af,sp,ws,ad⟩ =false) (w:World) (bm:aJ 1 bU w ak ws) (bl:aJ 3 aK.cells w al ad):
 Calls Tryz.prog 261 #[.agg #[ag,af,sp,.slice ak ws c2,.slice al ad c3]] w fun e ah=>e= .returned (.tuple #[.agg #[(0:Int),(0:Int),(0:Int),.slice none 0 0,.slice none 0 0],false])∧Below w w ah:=by
 have ea:=J bm;have cS:=J bl;clear bm bl n2 n3
 cases hf:gl ag af sp ws ad
 ·have bD:=J hf
  clear hf az
  go_in
  go_upto_region 1 with fail
  refine fp fun aH av aj ae=>?_
  have I:=av;have aF:=aj.aS;have aq:=ae.aS
  go_wp2_with fail
  refine (mH ag af sp ak ws c2 al c3 ad h2 h3 cm _ bD.out _ (ea.out.U (ai I aw)) (cS.out.U (ai I aw))).mono ?_
  rintro e aQ ⟨rfl,aP⟩
  have ao:=be aH aP;replace I:=ai I ao;clear aF;replace ae:=ae.to ao;clear aq;have aq:=ae.aS;have ez:=ae.jh
  go_wp2
  clear aq
  refine gT 0 fun cQ aD=>?_
  replace I:=aD.aG I;replace ae:=aD.iK ae;have aq:=ae.aS
  exact hc ⟨rfl,I⟩ (by simp [results,Tryz.results261,go_sem,aq])
 ·have aZ:(sp == 0)= true:=by simpa [mh,eD.ok,hf] using az
  have bD:=J hf;clear hf az
  go_in
  go_upto_region 1 with fail
  refine fp fun aH av aj ae=>?_
  have I:=av;have aF:=aj.aS;have aq:=ae.aS
  go_wp2_with fail
  refine (mH ag af sp ak ws c2 al c3 ad h2 h3 cm _ bD.out _ (ea.out.U (ai I aw)) (cS.out.U (ai I aw))).mono ?_
  rintro e aQ ⟨rfl,aP⟩
  have ao:=be aH aP;replace I:=ai I ao;replace aj:=aj.to ao;clear aF;have aF:=aj.aS;replace ae:=ae.to ao;clear aq;have aq:=ae.aS;have ez:=ae.jh
  go_wp2
  clear aF aq
  refine gT 0 fun cQ aD=>?_
  replace I:=aD.aG I;replace ae:=aD.iK ae;have aq:=ae.aS
  exact hc ⟨rfl,I⟩ (by simp [results,Tryz.results261,go_sem,aq])
theorem alD (ag af sp:Int) (ak:Option Addr) (c2:Nat) (ws:List Int) (al:Option Addr) (c3:Nat) (ad:List aK) (h2:ws.length≤1048576) (h3:ad.length≤1048576) (n2:ak= none→ws= []∧c2= 0) (n3:al= none→ad= []∧c3= 0) (cm:ws.length≤c2) (az:mh ⟨ag,af,sp,ws,ad⟩ =true) (w:World) (bm:aJ 1 bU w ak ws) (bl:aJ 3 aK.cells w al ad):
 Calls Tryz.prog 261 #[.agg #[ag,af,sp,.slice ak ws c2,.slice al ad c3]] w fun e ah=>∃bk d2 bo d3,e= .returned (.tuple #[.agg #[ag,af,(0:Int),.slice bk ws d2,.slice bo (mR ⟨ag,af,sp,ws,ad⟩).ad.length d3],true])∧jH w.heap.size ah bk d2 bo d3 ws (mR ⟨ag,af,sp,ws,ad⟩).ad∧Below w w ah:=by
 have ea:=J bm;have cS:=J bl;have iY:=J n2;have iR:=J n3;clear bm bl n2 n3
 have gd:(⟨ag,af,sp,ws,ad⟩ :eD).ok= true:=by simp only [mh,Bool.and_eq_true] at az;exact az.1
 have aZ:(sp == 0)= false:=by simp only [mh,Bool.and_eq_true,Bool.not_eq_true'] at az;exact az.2
 have hlen:=Nd gd
 obtain⟨qh,nb,pH⟩:=Dg gd (beq_eq_false_iff_ne.1 aZ)
 have AF:=(lg.1 gd).t
 obtain⟨av,ao,aL⟩:=vo.1 nb
 have kS:=KJ (xs:=ad) (m:=sp)
 obtain⟨⟨dK,st,cx⟩,kU⟩ :∃x,eB ad sp= x:=⟨_,rfl⟩
 have Fw:tO ⟨ag,af,sp,ws,ad⟩ =⟨sp,st + 1,cx⟩:=by simp [tO,kU]
 have e1:(mR ⟨ag,af,sp,ws,ad⟩).ad= fi ad ⟨sp,st + 1,cx⟩:=by simp [mR,Fw]
 simp only at pH ao aL
 rw [kU] at pH ao aL kS
 simp only at pH ao aL kS AF
 subst kS
 rw [e1]
 have bD:Hid (gl ag af dK ws ad= true):=J gd;have lW:=J kU
 have OS:ad.length≤1048575:=by simp only at hlen;omega
 clear gd az qh nb av kU Fw e1 hlen
 go_in
 go_upto_region 1 with fail
 refine fp fun aH av aj ae=>?_
 have I:=av;have aF:=aj.aS;have aq:=ae.aS;have gv:=ae.lt
 go_wp2_with fail
 refine (mH ag af dK ak ws c2 al c3 ad h2 h3 cm _ bD.out _ (ea.out.U (ai I aw)) (cS.out.U (ai I aw))).mono ?_
 rintro e aQ ⟨rfl,aP⟩
 have ao:=be aH aP;replace I:=ai I ao;replace aj:=aj.to ao;clear aF;have aF:=aj.aS;replace ae:=ae.to ao;clear aq;have aq:=ae.aS
 go_wp2_with fail
 refine (Hl ag af dK ak c2 ws al c3 ad h2 h3 iY.out iR.out _ (ea.out.U (ai I aw)) (cS.out.U (ai I aw))).mono ?_
 rintro e bA ⟨bk,d2,g3,d3,rfl,dr,bC⟩
 have aL:=be aQ bC;replace I:=ai I aL;clear aF;replace ae:=ae.to aL;clear aq;have aq:=ae.aS
 go_upto_region 4 with fail
 have eX:=dr.bh (ca bA (.cells #[ag,af,dK,.slice bk ws d2,.slice g3 ad d3] 41));have jA:=(dr.fF.lt g3 rfl)
 have jt:=fun k ax=>(dr.fg.lt k ax).2
 have nv:aQ.heap.size≤bA.heap.size:=bC.size;have aeq:=J jt;clear dr jt;have bV:Below bA bA (World.alloc bA (.cells #[ag,af,dK,.slice bk ws d2,.slice g3 ad d3] 41)):=ca bA _
 have aO:=aC.new bA 41 #[ag,af,dK,.slice bk ws d2,.slice g3 ad d3]
 generalize World.alloc bA (.cells #[ag,af,dK,.slice bk ws d2,.slice g3 ad d3] 41)= cf at *
 replace I:=ai I bV;have bG:=aO.aS;clear aq;replace ae:=ae.to bV;have aq:=ae.aS;have kW:=aO.lt;have wG:=ao.size;have cg:=J aO;have dp:=J eX;clear aO eX bG
 go_wp2_with fail
 refine (aaH aQ.heap.size bA.heap.size ag af dK bk ws.length d2 g3 d3 ad OS st cx lW.out (by omega) (by omega) _ (by omega) (by omega) cg.out dp.out.fF).mono ?_
 rintro e dE ⟨rfl,g5,c5,hX,fY,gY,kQ,uy,OH⟩
 have cM:=(ae.jO fY (by intro e;have:=Option.some.inj e;omega)).jO gY (by intro e;have:=Option.some.inj e;omega);have oY:=(dp.out.fg.kept fY (fun k ax e=>dp.out.ap k ax (by rw [e];rfl))).kept gY (fun k ax e=>by have h1:=aeq.out k ax;have h2:k= bA.heap.size:=Option.some.inj e;omega);have wR:Below w w dE:=(I.grown fY (by omega) (fun k ax=>by have:=Option.some.inj ax;omega)).grown gY (by have:=fY.size;omega) (fun k ax=>by have:=Option.some.inj ax;omega)
 have mU:=J uy;have hs:=J oY;clear uy oY fY gY OH ae aq aj;replace I:=wR;clear wR;have aq:=cM.aS;have bG:=kQ.aS;have atd:=cM.frozen 0;have ate:=cM.frozen 1;have atf:=cM.frozen 2;have atg:=cM.frozen 3;have ath:=cM.frozen 4;have bF:=hs.out;have bw:=mU.out
 go_wp2
 clear aq bG
 refine gT 0 fun cQ aD=>?_
 replace I:=aD.aG I;replace cM:=aD.iK cM;replace bF:=bF.bY aD (fun k ax=>by first | exact en k ax | (have:=bF.lt k ax;omega));replace bw:=bw.bY aD (fun k ax=>by first | exact dI k ax | (have:=bw.lt k ax;omega));have aq:=cM.aS
 refine bodyPost_ret (v:= .tuple #[.agg #[ag,af,(0:Int),.slice bk ws d2,.slice g5 (fi ad ⟨dK,st + 1,cx⟩).length c5],true]) (by simp [results,Tryz.results261,go_sem,aq]) rfl ?_
 exact⟨bk,d2,some ⟨g5,0,none⟩,c5,rfl,⟨bF.base (by omega),bw.base (by omega),bF.apart bw (by decide)⟩,I⟩
open Go.RowKit Go.G9
def aqL (ag af sp st cx:Int) (ws:List Int) (ad:List aK):lu ((Option Addr×Nat)×Nat×Nat) where
 par:=fun _=>[]
 val:=fun n p=>match n with
  | 1=> .agg #[.int .i64 ag,.int .i64 af,.int .i64 sp,.slice p.1.1 ws.length p.1.2,.slice (some ⟨p.2.1,0,none⟩) ad.length p.2.2]
  | 5=> .agg #[.int .i64 sp,.int .i64 st,.int .i64 cx]
  | 6=> .pointer (some ⟨p.2.1,0,none⟩)
  | 7=> .pointer (some ⟨p.2.1,0,none⟩)
  | _=>undef
 post:=fun n _ p cY V=>match n with
  | 1=>jH cY.heap.size V p.1.1 p.1.2 (some ⟨p.2.1,0,none⟩) p.2.2 ws ad
  | 6=>cY.heap.size= p.2.1∧aC V p.2.1 41 #[.int .i64 0,.int .i64 0,.int .i64 0,.slice none 0 0,.slice none 0 0]
  | 7=>cY.heap.size= p.2.1∧aC V p.2.1 214 #[.int .i64 0,.int .i64 0,.int .i64 0]
  | _=>True
theorem alv (ag af sp:Int) (ak:Option Addr) (c2:Nat) (ws:List Int) (al:Option Addr) (c3:Nat) (ad:List aK) (h2:ws.length≤1048576) (h3:ad.length≤1048576) (n2:ak= none→ws= []∧c2= 0) (n3:al= none→ad= []∧c3= 0) (cm:ws.length≤c2) (n:Int) (az:oj ⟨ag,af,sp,ws,ad⟩ n= false) (w:World) (bm:aJ 1 bU w ak ws) (bl:aJ 3 aK.cells w al ad):
 Calls Tryz.prog 260 #[.agg #[ag,af,sp,.slice ak ws c2,.slice al ad c3],n] w fun e ah=>e= .returned (.tuple #[.agg #[(0:Int),(0:Int),(0:Int),.slice none 0 0,.slice none 0 0],(0:Int),false])∧Below w w ah:=by
 have ea:=J bm;have cS:=J bl;clear bm bl n2 n3
 cases hf:gl ag af sp ws ad
 ·have bD:=J hf
  clear hf az
  go_in
  go_upto_region 1 with fail
  refine fp fun aH av aj ae=>?_
  have I:=av;have aF:=aj.aS;have aq:=ae.aS
  go_wp2_with fail
  refine (mH ag af sp ak ws c2 al c3 ad h2 h3 cm _ bD.out _ (ea.out.U (ai I aw)) (cS.out.U (ai I aw))).mono ?_
  rintro e aQ ⟨rfl,aP⟩
  have ao:=be aH aP;replace I:=ai I ao;clear aF;replace ae:=ae.to ao;clear aq;have aq:=ae.aS;have ez:=ae.jh
  go_wp2
  clear aq
  refine gT 0 fun cQ aD=>?_
  replace I:=aD.aG I;replace ae:=aD.iK ae;have aq:=ae.aS
  exact hc ⟨rfl,I⟩ (by simp [results,Tryz.results260,go_sem,aq])
 ·cases aZ:(sp == 0)
  case true=>
   have bD:=J hf;clear hf az
   go_in
   go_upto_region 1 with fail
   refine fp fun aH av aj ae=>?_
   have I:=av;have aF:=aj.aS;have aq:=ae.aS
   go_wp2_with fail
   refine (mH ag af sp ak ws c2 al c3 ad h2 h3 cm _ bD.out _ (ea.out.U (ai I aw)) (cS.out.U (ai I aw))).mono ?_
   rintro e aQ ⟨rfl,aP⟩
   have ao:=be aH aP;replace I:=ai I ao;replace aj:=aj.to ao;clear aF;have aF:=aj.aS;replace ae:=ae.to ao;clear aq;have aq:=ae.aS;have ez:=ae.jh
   go_wp2
   clear aF aq
   refine gT 0 fun cQ aD=>?_
   replace I:=aD.aG I;replace ae:=aD.iK ae;have aq:=ae.aS
   exact hc ⟨rfl,I⟩ (by simp [results,Tryz.results260,go_sem,aq])
  case false=>
   have hi:fc n 1 3600= false:=by simpa [oj,eD.ok,hf,aZ] using az
   have bD:=J hf;have hP:=J hi;clear hf az hi
   go_in
   go_upto_region 1 with fail
   refine fp fun aH av aj ae=>?_
   have I:=av;have aF:=aj.aS;have aq:=ae.aS
   go_wp2_with fail
   refine (mH ag af sp ak ws c2 al c3 ad h2 h3 cm _ bD.out _ (ea.out.U (ai I aw)) (cS.out.U (ai I aw))).mono ?_
   rintro e aQ ⟨rfl,aP⟩
   have ao:=be aH aP;replace I:=ai I ao;replace aj:=aj.to ao;clear aF;have aF:=aj.aS;replace ae:=ae.to ao;clear aq;have aq:=ae.aS
   go_wp2_with fail
   refine (je n 1 3600 _ hP.out _).mono ?_
   rintro e w0 ⟨rfl,h0⟩
   rw [h0]
   clear h0 w0;have ez:=ae.jh
   go_wp2
   clear aF aq
   refine gT 0 fun cQ aD=>?_
   replace I:=aD.aG I;replace ae:=aD.iK ae;have aq:=ae.aS
   exact hc ⟨rfl,I⟩ (by simp [results,Tryz.results260,go_sem,aq])
theorem adh {p:Prop} (h:p:=by
 have e0:(rW ⟨ag,af,dK,ws,ad⟩ n).cU= (⟨ag,af,dK,ws,ad⟩ :eD).af:=by rw [DS.out];exact uI
 have e2:wD ⟨ag,af,dK,ws,ad⟩ n=⟨ag,af,dK,ws,fi ad ⟨dK,st,cx + u⟩⟩:=by simp only [wD];rw [DS.out]
 rw [jw,if_pos e0,e2]
 refine⟨rfl,?_⟩
 have e3:tO ⟨ag,af,dK,ws,fi ad ⟨dK,st,cx + u⟩⟩ =⟨dK,st + 1,cx + u⟩:=by simp only [tO];rw [Iv.out]
 simp only [mR];rw [e3]):p:=h
theorem abg {p:Prop} (h:p:=by
 have e0:¬(rW ⟨ag,af,dK,ws,ad⟩ n).cU= (⟨ag,af,dK,ws,ad⟩ :eD).af:=by rw [DS.out];exact uI
 rw [jw,if_neg e0]
 refine⟨rfl,?_⟩
 simp only [wD];rw [DS.out]):p:=h
theorem alw (ag af sp:Int) (ak:Option Addr) (c2:Nat) (ws:List Int) (al:Option Addr) (c3:Nat) (ad:List aK) (h2:ws.length≤1048576) (h3:ad.length≤1048576) (n2:ak= none→ws= []∧c2= 0) (n3:al= none→ad= []∧c3= 0) (cm:ws.length≤c2) (n:Int) (az:oj ⟨ag,af,sp,ws,ad⟩ n= true) (w:World) (bm:aJ 1 bU w ak ws) (bl:aJ 3 aK.cells w al ad):
 Calls Tryz.prog 260 #[.agg #[ag,af,sp,.slice ak ws c2,.slice al ad c3],n] w fun e ah=>∃bk d2 bo d3,e= .returned (.tuple #[.agg #[ag,af,.int .i64 (jw ⟨ag,af,sp,ws,ad⟩ n).sp,.slice bk ws d2,.slice bo (jw ⟨ag,af,sp,ws,ad⟩ n).ad.length d3],.int .i64 (tC ⟨ag,af,sp,ws,ad⟩ n),true])∧jH w.heap.size ah bk d2 bo d3 ws (jw ⟨ag,af,sp,ws,ad⟩ n).ad∧Below w w ah:=by
 have ea:=J bm;have cS:=J bl;have iY:=J n2;have iR:=J n3;clear bm bl n2 n3
 obtain⟨gd,qR,oa,sB⟩:=HH az
 have aZ:(sp == 0)= false:=beq_eq_false_iff_ne.2 qR;have hlen:=Nd gd
 obtain⟨qh,nb,pH⟩:=Dg gd qR
 have AF:=(lg.1 gd).t;have uS:=(lg.1 gd).s
 obtain⟨av,ao,aL⟩:=vo.1 nb
 have kS:=KJ (xs:=ad) (m:=sp);have At:=(lg.1 gd).ord
 obtain⟨⟨dK,st,cx⟩,kU⟩ :∃x,eB ad sp= x:=⟨_,rfl⟩
 simp only at pH ao aL At
 rw [kU] at pH ao aL kS
 simp only at pH ao aL kS AF uS
 have OT:=kU
 subst kS
 obtain⟨u,hu⟩ :∃u,u= (if n < af - cx then n else af - cx):=⟨_,rfl⟩
 have Af:tC ⟨ag,af,dK,ws,ad⟩ n= u:=by simp [tC,kU,hu]
 have ajV:0≤u∧u≤af - cx:=by rw [hu];split <;> omega
 have Fq:rW ⟨ag,af,dK,ws,ad⟩ n=⟨dK,st,cx + u⟩:=by simp [rW,kU,Af]
 rw [Af]
 have bD:Hid (gl ag af dK ws ad= true):=J gd;have hP:Hid (fc n 1 3600= true):=J (rH.2 ⟨oa,sB⟩);have lW:=J kU;have DS:=J Fq;have LX:=J hu
 have OS:ad.length≤1048574:=by simp only at hlen;omega
 have GH:(fi ad ⟨dK,st,cx + u⟩).length≤1048575:=by have:=Qs ad ⟨dK,st,cx + u⟩;omega
 have GI:eB (fi ad ⟨dK,st,cx + u⟩) dK=⟨dK,st,cx + u⟩:=by rw [Dy dK At,if_pos rfl]
 have Iv:=J GI;have LW:=J GH;clear gd az qh nb av kU hlen OT At Fq GI GH qR hu Af oa sB
 go_in
 go_upto_region 1 with fail
 refine fp fun aH av aj ae=>?_
 have I:=av;have aF:=aj.aS
 obtain⟨z0,ch,z2,z3,z4⟩:=ae.aS
 have gv:=ae.lt
 go_wp2_with fail
 refine (mH ag af dK ak ws c2 al c3 ad h2 h3 cm _ bD.out _ (ea.out.U (ai I aw)) (cS.out.U (ai I aw))).mono ?_
 rintro e aQ ⟨rfl,aP⟩
 have ao:=be aH aP;replace I:=ai I ao;replace aj:=aj.to ao;clear aF;have aF:=aj.aS;replace ae:=ae.to ao;clear z0 ch z2 z3 z4
 obtain⟨z0,ch,z2,z3,z4⟩:=ae.aS
 go_wp2_with fail
 refine (je n 1 3600 _ hP.out _).mono ?_
 rintro e w0 ⟨rfl,h0⟩
 rw [h0]
 clear h0 w0;have wG:=ao.size
 go_upto_region 3 with fail
 have aia:=I
 obtain⟨Ls,Ux⟩ :∃X:World→Prop,∀V,X V↔(Below w w V∧aC V (w.heap.size) 41 #[ag,af,dK,.slice ak ws c2,.slice al ad c3]):=⟨_,fun _=>Iff.rfl⟩
 have rZ:=J Ux;clear Ux
 haveI:Nonempty (cP Ls):=⟨⟨aQ,((rZ.out _).2 ⟨I,aj⟩)⟩⟩
 clear aF;clear z0 ch z2 z3 z4;have aF:=aC.kz (fun K:cP Ls=>((rZ.out _).1 K.holds).2)
 go_wp2
 refine Bv (aqL ag af dK st cx ws ad) Ls [([0],1),([2,3,4],5),([],6),([],7)] [] [([],8),([],9)] [] (by kernel_rfl) (by kernel_rfl) ((rZ.out _).2 ⟨I.drew,aj⟩) (fun W eF h k=>((rZ.out _).2 ⟨((rZ.out _).1 h).1.trans (k.mono ((rZ.out _).1 h).1.size),((rZ.out _).1 h).2.U k ((rZ.out _).1 h).2.lt⟩)) ?_
 intro bu
 refine iF (some 25) rfl (.agg #[ag,af,dK,.slice (bu 1).1.1 ws.length (bu 1).1.2,.slice (some ⟨(bu 1).2.1,0,none⟩) ad.length (bu 1).2.2]) rfl fun hH eN=>?_
 change wpQuiet _ _ _ _ (_ ::[]) _
 repeat (go_big_quiet_step (fail))
 refine wpQuiet_nil ?_
 refine⟨fun k fO=>?_,eN _ ?_⟩
 ·change wpList _ _ _ (_ ::[]) _ _
  go_wp2_with fail
  refine (Hl ag af dK ak c2 ws al c3 ad h2 h3 iY.out iR.out _ (ea.out.U ((rZ.out _).1 k.holds).1) (cS.out.U ((rZ.out _).1 k.holds).1)).mono ?_
  rintro e mP ⟨bk,d2,g3,d3,rfl,dr,fR⟩
  go_wp2
  exact hZ ⟨((bk,d2),g3,d3),rfl,fR,dr⟩
 simp only [Act.put]
 go_simp
 refine iF (some 29) rfl (.agg #[dK,st,cx]) rfl fun hH eN=>?_
 change wpQuiet _ _ _ _ (_ ::_ ::_ ::[]) _
 repeat (go_big_quiet_step (fail))
 refine wpQuiet_nil ?_
 refine⟨fun k fO=>?_,eN _ ?_⟩
 ·change wpList _ _ _ (_ ::[]) _ _
  go_wp2_with fail
  refine (yi ag af dK ak ws.length c2 al c3 ad h3 dK ⟨dK,st,cx⟩ lW.out _ (cS.out.U ((rZ.out _).1 k.holds).1)).mono ?_
  rintro e mP ⟨rfl,fR⟩
  go_wp2
  exact hZ ⟨((none,0),0,0),rfl,fR,trivial⟩
 simp only [Act.put]
 go_simp
 refine iF (some 7) rfl (.pointer (some ⟨(bu 6).2.1,0,none⟩)) rfl fun hH eN=>?_
 change wpQuiet _ _ _ _ ([]) _
 refine wpQuiet_nil ?_
 refine⟨fun k fO=>?_,eN _ ?_⟩
 ·change wpList _ _ _ (_ ::[]) _ _
  go_wp2
  exact hZ ⟨((none,0),k.world.heap.size,0),rfl,ca _ _,rfl,aC.new _ _ _⟩
 simp only [Act.put]
 go_simp
 refine iF (some 8) rfl (.pointer (some ⟨(bu 7).2.1,0,none⟩)) rfl fun hH eN=>?_
 change wpQuiet _ _ _ _ ([]) _
 refine wpQuiet_nil ?_
 refine⟨fun k fO=>?_,eN _ ?_⟩
 ·change wpList _ _ _ (_ ::[]) _ _
  go_wp2
  exact hZ ⟨((none,0),k.world.heap.size,0),rfl,ca _ _,rfl,aC.new _ _ _⟩
 simp only [Act.put]
 go_simp
 refine tM ?_
 change wpQuiet _ _ _ _ ([]) _
 refine wpQuiet_nil ?_
 intro cY V W aY bK
 have Ny:jH (cY 1).heap.size (V 1) (bu 1).1.1 (bu 1).1.2 (some ⟨(bu 1).2.1,0,none⟩) (bu 1).2.2 ws ad:=aY.post 1 (by simp)
 obtain⟨VG,Nr⟩ :(cY 6).heap.size= (bu 6).2.1∧aC (V 6) (bu 6).2.1 41 #[(0:Int),(0:Int),(0:Int),.slice none 0 0,.slice none 0 0]:=aY.post 6 (by simp)
 obtain⟨VH,Jl⟩ :(cY 7).heap.size= (bu 7).2.1∧aC (V 7) (bu 7).2.1 214 #[(0:Int),(0:Int),(0:Int)]:=aY.post 7 (by simp)
 have fl:aQ.heap.size≤(bu 6).2.1:=VG ▸ (aY.nt 6 (by simp)).size;have iH:aQ.heap.size≤(bu 7).2.1:=VH ▸ (aY.nt 7 (by simp)).size
 have Oe:(bu 7).2.1≠(bu 1).2.1:=by
  have a1:=aY.apart 1 (by simp) 7 (by simp) (by decide);have a2:=Ny.fF.lt (bu 1).2.1 rfl;have a3:=Jl.lt
  omega
 have dr:=(Ny.bh (aY.bh 1 (by simp))).base (B':=aQ.heap.size) (aY.nt 1 (by simp)).size;have aO:=Nr.U (aY.bh 6 (by simp)) Nr.lt;have bO:=Jl.U (aY.bh 7 (by simp)) Jl.lt;clear aF;have bV:Below aQ aQ W:=ai aw (aY.whole 1 (by simp)).qZ;replace I:=ai I bV;replace aj:=aj.to bV;have aF:=aj.aS;replace ae:=ae.to bV
 obtain⟨z0,ch,z2,z3,z4⟩:=ae.aS
 clear aY Ny VG Nr VH Jl bK
 generalize bu 1= dD at *
 generalize bu 6= Bb at *
 generalize bu 7= PO at *
 obtain⟨⟨bk,d2⟩,g3,d3⟩:=dD
 obtain⟨_,x,_⟩:=Bb
 obtain⟨_,s,_⟩:=PO
 simp only at dr aO bO fl iH Oe
 have Ao:s≠g3:=Oe;clear Oe
 have GM:x≠s:=by
  rintro rfl
  unfold aC at aO bO
  rw [aO] at bO
  injection bO with bO
  injection bO with _ h9 _
  exact absurd h9 (by decide)
 have Wy:x≠g3:=dr.fF.xW aO (by decide)
 have Wn:∀k,(Value.slice bk ws d2).ownBlock= some k→k≠x∧k≠s:=fun k ax=>by
  obtain⟨_,g,e,ck⟩ :∃(c:Unit) (g:Nat),bk= some ⟨g,0,none⟩∧g= k:=by
   rcases dr.fg.2 with ⟨e1,_⟩ | ⟨br,cap,cur,e1,_⟩
   ·injection e1 with e2 _ _;subst e2;cases ax
   ·injection e1 with e2 _ _;subst e2;exact⟨(),br,rfl,Option.some.inj ax⟩
  subst ck
  have Mi:=dr.fg
  rw [e] at Mi
  exact⟨fun e9=>Mi.xW aO (by decide) e9.symm,fun e9=>Mi.xW bO (by decide) e9.symm⟩
 have Er:=J Wn;clear Wn;have bF:=dr.fg;have bw:=dr.fF;clear dr;have bG:=aO.aS;have cj:=bO.cK
 refine gZ fun gr dX=>?_
 change wpQuiet _ _ _ _ ([]) _
 refine wpQuiet_nil ?_
 change wpList _ _ _ (_ ::[]) _ _
 have MY:=aO.jh
 go_wp2
 clear MY
 have en:∀k,(Value.slice bk ws d2).ownBlock= some k→¬k= x:=fun k ax=>(Er.out k ax).1
 have dI:∀k,(Value.slice g3 ad d3).ownBlock= some k→¬k= x:=fun k ax e=>Wy (by have:g3= k:=Option.some.inj ax;omega)
 clear aF z0 ch z2 z3 z4 bG cj
 refine gT 0 fun wX gJ=>?_
 replace I:=gJ.aG I;replace aj:=gJ.dJ aj;replace ae:=gJ.dJ ae;replace aO:=gJ.iK aO;replace bO:=gJ.dJ bO;replace bF:=bF.bY gJ en;replace bw:=bw.bY gJ dI;have aF:=aj.aS
 obtain⟨z0,ch,z2,z3,z4⟩:=ae.aS
 have bG:=aO.aS;have cj:=bO.cK;clear en dI
 refine hh (((rZ.out _).2 ⟨I,aj⟩)) (dX _ _ ?_)
 refine gZ fun gr dX=>?_
 change wpQuiet _ _ _ _ ([]) _
 refine wpQuiet_nil ?_
 change wpList _ _ _ (_ ::[]) _ _
 obtain⟨ahz,MX,Fz⟩:=bO.nT
 go_wp2
 clear ahz MX Fz
 have en:∀k,(Value.slice bk ws d2).ownBlock= some k→¬k= s:=fun k ax=>(Er.out k ax).2
 have dI:∀k,(Value.slice g3 ad d3).ownBlock= some k→¬k= s:=fun k ax e=>Ao (by have:g3= k:=Option.some.inj ax;omega)
 clear aF z0 ch z2 z3 z4 bG cj
 refine sP 0 fun nj eU=>?_
 replace I:=eU.aG I;replace aj:=eU.dJ aj;replace ae:=eU.dJ ae;replace aO:=eU.dJ aO;replace bO:=eU.vP bO;replace bF:=bF.bY eU en;replace bw:=bw.bY eU dI;have aF:=aj.aS
 obtain⟨z0,ch,z2,z3,z4⟩:=ae.aS
 have bG:=aO.aS;have cj:=bO.cK;clear en dI
 refine hh (((rZ.out _).2 ⟨I,aj⟩)) (dX _ _ ?_)
 refine mg ?_
 change wpQuiet _ _ _ _ ([]) _
 refine wpQuiet_nil ?_
 go_upto_region 5 with fail
 have Wa:min n (af - cx)= u:=by
  rw [LX.out]
  by_cases aG:n < af - cx
  ·rw [if_pos aG];omega
  ·rw [if_neg aG];omega
 rw [Wa]
 clear Wa
 have sC:IntKind.i64.wrap (cx + u)= cx + u:=by rw [IntKind.wrap_i64];omega
 have Fz:=bO.frozen 2
 go_upto_region 6 with fail
 clear Fz
 have en:∀k,(Value.slice bk ws d2).ownBlock= some k→¬k= s:=fun k ax=>(Er.out k ax).2
 have dI:∀k,(Value.slice g3 ad d3).ownBlock= some k→¬k= s:=fun k ax e=>Ao (by have:g3= k:=Option.some.inj ax;omega)
 clear aF z0 ch z2 z3 z4 bG cj
 refine kG 2 fun ui gf=>?_
 replace I:=gf.aG I;replace aj:=gf.dJ aj;replace ae:=gf.dJ ae;replace aO:=gf.dJ aO;replace bO:=gf.PU bO;replace bF:=bF.bY gf en;replace bw:=bw.bY gf dI;have aF:=aj.aS
 obtain⟨z0,ch,z2,z3,z4⟩:=ae.aS
 have bG:=aO.aS;have cj:=bO.cK;clear en dI sC;have tF:=I.size;have auO:=aO.lt;have js:=bF.apart bw (by decide);have yV:=(bw.lt g3 rfl).1;have aue:w.heap.size≤aQ.heap.size:=aia.size
 have JF:aQ.heap.size≤ui.heap.size:=by omega
 have cg:=J aO;have jV:=J bw;have hs:=J bF;have DY:=J aj;have dq:=J ae;have Iu:=J bO;have oy:=J js;have wR:=J I;clear aO bw bF aj ae js bG aF z0 ch z2 z3 z4
 go_wp2_with fail
 refine (ZF aQ.heap.size x ag af dK (.slice bk ws d2) g3 d3 ad (by omega) dK st (cx + u) ⟨dK,st,cx + u⟩ rfl _ fl JF Wy cg.out jV.out).mono ?_
 rintro e hX ⟨rfl,g5,c5,HS,fY,gY,tj,US,atZ⟩
 have UF:=(DY.out.jO fY (by intro e;have:=Option.some.inj e;omega)).jO gY (by intro e;have:=Option.some.inj e;omega);have tl:=(dq.out.jO fY (by intro e;have:=Option.some.inj e;omega)).jO gY (by intro e;have:=Option.some.inj e;omega);have ND:=(Iu.out.jO fY (by intro e;exact Ao (Option.some.inj e))).jO gY (by intro e;exact GM (Option.some.inj e).symm)
 have oY:=(hs.out.kept fY (fun k ax e=>oy.out k ax (by rw [e];rfl))).kept gY (fun k ax e=>(Er.out k ax).1 (Option.some.inj e));have RT:Below w w hX:=(wR.out.grown fY (by omega) (fun k ax=>by have:=Option.some.inj ax;omega)).grown gY (by have:=fY.size;omega) (fun k ax=>by have:=Option.some.inj ax;omega);clear fY gY bO cj;replace I:=RT;clear RT
 have aF:=UF.aS
 obtain⟨z0,ch,z2,z3,z4⟩:=tl.aS
 have bG:=tj.aS;have cj:=ND.cK;have auN:=tl.lt;have auM:=ND.lt;have bF:=oY;have bw:=US;clear oY US
 by_cases uI:cx + u= af
 ·have xw:(cx + u == af)= true:=beq_iff_eq.2 uI
  have e1:(jw ⟨ag,af,dK,ws,ad⟩ n).sp= 0∧(jw ⟨ag,af,dK,ws,ad⟩ n).ad= fi (fi ad ⟨dK,st,cx + u⟩) ⟨dK,st + 1,cx + u⟩:=by
   exact adh
  have oR:=J e1;have afj:=J tj;have LN:=J bw;have aeJ:=J bF;have afl:=J tl;have aek:=J (bF.apart bw (by decide));have zN:=J I;have atM:=(bw.lt g5 rfl).1;clear e1 uI
  go_upto_region 8 with fail
  clear tj bw bF tl UF ND aF z0 ch z2 z3 z4 bG cj
  go_wp2_with fail
  refine (aaH aQ.heap.size x ag af dK bk ws.length d2 g5 c5 (fi ad ⟨dK,st,cx + u⟩) LW.out st (cx + u) Iv.out (by omega) (by omega) _ fl (by omega) afj.out LN.out).mono ?_
  rintro e om ⟨rfl,g7,vS,wr,fY,gY,uA,qI,aua⟩
  have ss:=(afl.out.jO fY (by intro e;have:=Option.some.inj e;omega)).jO gY (by intro e;have:=Option.some.inj e;omega);have oY:=(aeJ.out.kept fY (fun k ax e=>aek.out k ax (by rw [e];rfl))).kept gY (fun k ax e=>(Er.out k ax).1 (Option.some.inj e));have zO:Below w w om:=(zN.out.grown fY (by omega) (fun k ax=>by have:=Option.some.inj ax;omega)).grown gY (by have:=fY.size;omega) (fun k ax=>by have:=Option.some.inj ax;omega)
  replace I:=zO;clear zO
  obtain⟨z0,ch,z2,z3,z4⟩:=ss.aS
  have bG:=uA.aS;have bF:=oY;have bw:=qI;clear oY qI;have atn:=ss.frozen 0;have ato:=ss.frozen 1;have atp:=ss.frozen 2;have atq:=ss.frozen 3;have atr:=ss.frozen 4
  go_wp2
  clear z0 ch z2 z3 z4 bG
  refine gT 0 fun cQ aD=>?_
  replace I:=aD.aG I;replace ss:=aD.iK ss;replace bF:=bF.bY aD (fun k ax=>by first | exact en k ax | (have:=bF.lt k ax;omega));replace bw:=bw.bY aD (fun k ax=>by first | exact dI k ax | (have:=bw.lt k ax;omega))
  have z0:=ss.aS
  refine bodyPost_ret (v:= .tuple #[.agg #[ag,af,(0:Int),.slice bk ws d2,.slice g7 (fi (fi ad ⟨dK,st,cx + u⟩) ⟨dK,st + 1,cx + u⟩).length vS],.int .i64 u,true]) (by simp [results,Tryz.results260,go_sem,z0]) rfl ?_
  rw [oR.out.1,oR.out.2]
  exact⟨bk,d2,some ⟨g7,0,none⟩,vS,rfl,⟨bF.base (by omega),bw.base (by omega),bF.apart bw (by decide)⟩,I⟩
 ·have xw:(cx + u == af)= false:=beq_eq_false_iff_ne.2 uI
  have e1:(jw ⟨ag,af,dK,ws,ad⟩ n).sp= dK∧(jw ⟨ag,af,dK,ws,ad⟩ n).ad= fi ad ⟨dK,st,cx + u⟩:=by
   exact abg
  have oR:=J e1;clear e1 uI;have ati:=tl.frozen 0;have atj:=tl.frozen 1;have atk:=tl.frozen 2;have atl:=tl.frozen 3;have atm:=tl.frozen 4
  go_wp2
  clear aF z0 ch z2 z3 z4 bG cj
  refine gT 0 fun cQ aD=>?_
  replace I:=aD.aG I;replace tl:=aD.iK tl;replace bF:=bF.bY aD (fun k ax=>by first | exact en k ax | (have:=bF.lt k ax;omega));replace bw:=bw.bY aD (fun k ax=>by first | exact dI k ax | (have:=bw.lt k ax;omega))
  have z0:=tl.aS
  refine bodyPost_ret (v:= .tuple #[.agg #[ag,af,dK,.slice bk ws d2,.slice g5 (fi ad ⟨dK,st,cx + u⟩).length c5],.int .i64 u,true]) (by simp [results,Tryz.results260,go_sem,z0]) rfl ?_
  rw [oR.out.1,oR.out.2]
  exact⟨bk,d2,some ⟨g5,0,none⟩,c5,rfl,⟨bF.base (by omega),bw.base (by omega),bF.apart bw (by decide)⟩,I⟩
open Go.RowKit Go.G9 Go.Sort
theorem WY (a:Int) (w:World):Calls Tryz.prog 302 #[a] w fun e ah=>e= .returned false∧ah= w:=by
 go_in
 go_wp2
 go_ret
 exact⟨by first | rfl | (refine ep ?_;simp),rfl⟩
theorem Rd {p:Prop} (h:p:=by
 go_in
 go_wp2_with fail
 refine (WY a _).mono ?_
 rintro e w0 ⟨rfl,h0⟩
 rw [h0]
 clear h0 w0
 go_wp2_with fail
 refine (WY b _).mono ?_
 rintro e w0 ⟨rfl,h0⟩
 rw [h0]
 go_wp2
 go_ret
 exact⟨rfl,rfl⟩):p:=h
theorem agl (a b v:Int) (az:Cc a b= v) (w:World):Calls Tryz.prog 252 #[a,b] w fun e ah=>e= .returned v∧ah= w:=by
 subst az
 unfold Cc
 by_cases h1:a < b
 ·rw [if_pos h1]
  exact Rd
 ·rw [if_neg h1]
  by_cases h2:b < a
  ·rw [if_pos h2]
   exact Rd
  ·rw [if_neg h2]
   exact Rd
theorem Tx (A:Option Addr) (c:Nat) (xs:List Int) (bd:xs.length≤1048576) (aU:A= none→xs= []∧c= 0) (w:World) (bN:aJ 1 bU w A xs):
 Calls Tryz.prog 245 #[.slice A xs c] w fun e ah=>∃br cO,e= .returned (.slice (some ⟨br,0,none⟩) xs cO)∧aX w 3 1 bU ah (.slice (some ⟨br,0,none⟩) xs cO) xs∧Below w w ah:=by
 obtain⟨i0,hi,dk,dx,dC⟩:=info_parts rI
 have bL:=J (fun e=>(bN.U (ca w (.cells #[] e))):∀e:TypeId,aJ 1 bU (w.alloc (.cells #[] e)) A xs);clear bN
 go_in
 go_wp2_with ((at_builtin;refine zB rfl _ _ 38 rfl w.heap.size 3 i0 _ 1 8 Tryz.underlying38 hi dk dx dC rfl (by decide) bU fZ pd w.heap.size rfl (aC.new _ _ _) (Nat.le_refl _) A c xs rfl (bL.out _) aU (by unfold maxLen;omega) (by omega) ?_;intro br cO bg bR aE))
 go_ret
 exact⟨br,cO,rfl,bR,ai (ca _ _) aE⟩
theorem ahO {T:Type} [Inhabited T] {enc:T→Value} {w:World} {g o q:Nat} {d:Array T} {os:Array Obj}:w.grownBy (grow (putRow enc (Sort.ahead w q) g o d) os) (some g):=by
 refine⟨rfl,rfl,rfl,by simp,fun k ax eg=>?_⟩
 rw [heap_grow_old _ _ (by simpa using ax)]
 have:g≠k:=fun e=>eg (by rw [e])
 simp [putRow,mapBlock,Sort.ahead,Array.getElem?_modify,this]
theorem aax (lA:Nat) (n x:Int) (w:World) (bp:w.cell? ⟨lA,0,none⟩ =some (.int .i64 n)):Calls Tryz.prog 330 #[x,.pointer (some ⟨lA,0,none⟩)] w fun e ah=>e= .returned (.bool (x == n))∧ah= w:=by
 go_in
 go_wp2
 go_ret
 exact⟨rfl,rfl⟩
theorem agw (B g cap lA:Nat) (n:Int) (ls:List Int) (aT:ls.length≤1048576) (w:World) (bR:aX B 3 1 bU w (.slice g ls cap) ls) (bp:w.cell? ⟨lA,0,none⟩ =some (.int .i64 n)) (dU:lA < w.heap.size) (nv:lA≠g):
 Calls Tryz.prog 329 #[.slice g ls cap,.func (.func 330) #[] #[.pointer (some ⟨lA,0,none⟩)]] w fun e ah=>
  e= .returned (.slice g (ls.filter fun x=>!(x == n)).length cap)∧aX B 3 1 bU ah (.slice g (ls.filter fun x=>!(x == n)).length cap) (ls.filter fun x=>!(x == n))∧w.grownBy ah (some g):=by
 have fz:aX B 3 1 (fun x=>[Value.int .i64 x]) w (.slice g ls cap) ls:=bR
 obtain⟨h1,h2,h3,h4⟩:=anF fz
 have jA:∀W,w.grownBy W (some g)→W.cell? ⟨lA,0,none⟩ =some (.int .i64 n):=fun W bK=>(World.cell?_of_block (a:=⟨lA,0,none⟩) (bK.block lA dU (fun e=>nv (Option.some.inj e)))).trans bp
 have aR:PredAt Tryz.prog 330 #[.pointer (some ⟨lA,0,none⟩)] (Value.int .i64) (fun x=>x == n) w:=fun W x bK=>
  (aax lA n x W (jA W (lz bK _))).mono fun e ah ⟨he,hw⟩=>⟨he,0,hw⟩
 have OJ:PredOver Tryz.prog 330 #[.pointer (some ⟨lA,0,none⟩)] (Value.int .i64) (fun x=>x == n) g 0 ls.toArray.size w:=fun q os asX x ax=>
  (aax lA n x _ (jA _ ahO)).mono fun e ah ⟨he,hw⟩=>⟨he,0,hw⟩
 have h:=Tryz.slices_DeleteFunc (Value.int .i64) (fun _=>rfl) (fun x=>x == n) 330 #[.pointer (some ⟨lA,0,none⟩)] (enters_of Tryz.func330 (by kernel_rfl) rfl) 0 Tryz.zeroValue3 g 0 cap ls.toArray w aR OJ h1 (by simp;omega) (by simpa using h3)
 rw [List.size_toArray] at h
 refine h.mono ?_
 rintro e ah ⟨rfl,q,rfl⟩
 have hle:(ls.filter fun x=>!(x == n)).length≤ls.length:=List.length_filter_le _ _;have h5:=anG (q:=q) (os:=#[]) (ys:=(ls.filter fun x=>!(x == n)) ++ List.replicate (ls.length - (ls.filter fun x=>!(x == n)).length) 0) fz (by rw [List.length_append,List.length_replicate];omega) hle
 rw [List.take_left' rfl,grow_empty] at h5
 exact⟨rfl,h5⟩
theorem arV (A:Option Addr) (c:Nat) (xs:List Int) (bd:xs.length≤1048576) (aU:A= none→xs= []∧c= 0) (n:Int) (w:World) (bN:aJ 1 bU w A xs):
 Calls Tryz.prog 306 #[.slice A xs c,n] w fun e ah=>∃br cO,e= .returned (.slice (some ⟨br,0,none⟩) (xs.filter fun x=>!(x == n)).length cO)∧aX w 3 1 bU ah (.slice (some ⟨br,0,none⟩) (xs.filter fun x=>!(x == n)).length cO) (xs.filter fun x=>!(x == n))∧Below w w ah:=by
 have bL:=J bN;have gp:=J aU;clear bN aU
 go_in
 go_upto_region 1 with fail
 refine cR fun aH av bp=>?_
 have I:=av;have eb:=(bp.cell 0).trans (show _= some (.int .i64 n) from rfl);have atF:=bp.lt
 go_wp2_with fail
 refine (Tx A c xs bd gp.out _ (bL.out.U (ai I aw))).mono ?_
 rintro e aQ ⟨g1,au,rfl,cv,aP⟩
 have ao:=be aH aP;replace I:=ai I ao;replace bp:=bp.to ao;replace eb:=(bp.cell 0).trans (show _= some (.int .i64 n) from rfl);have fY:=(cv.lt g1 rfl).1;have aT:=bp.lt;have lr:=J cv;have rp:=J I;clear cv bp
 go_wp2_with fail
 refine (agw aH.heap.size g1 au w.heap.size n xs bd _ lr.out eb aT (by omega)).mono ?_
 rintro e bA ⟨rfl,bw,sy⟩
 have BA:Below w w bA:=rp.out.grown sy (rp.out.size) (fun k ax=>by have:=Option.some.inj ax;omega);clear eb
 go_wp2
 go_ret
 exact⟨g1,au,rfl,bw.base (by omega),BA⟩
theorem aqP (lA:Nat) (ag af sp:Int) (ak:Option Addr) (xU c2:Nat) (al:Option Addr) (c3:Nat) (ad:List aK) (h3:ad.length≤1048576) (a b:Int) (v:Int) (az:Cc (eB ad a).de (eB ad b).de= v) (w:World)
  (bp:aC w lA 41 #[ag,af,sp,.slice ak xU c2,.slice al ad c3]) (bl:aJ 3 aK.cells w al ad):
 Calls Tryz.prog 251 #[a,b,.pointer (some ⟨lA,0,none⟩)] w fun e ah=>e= .returned v∧Below w w ah:=by
 obtain⟨⟨dZ,iG,xs⟩,ay⟩ :∃x,eB ad a= x:=⟨_,rfl⟩
 obtain⟨⟨ot,po,ys⟩,hy⟩ :∃y,eB ad b= y:=⟨_,rfl⟩
 rw [ay,hy] at az
 simp only at az
 have cg:=J ay;have iv:=J hy;have bD:=J az;have bL:=J bl;clear ay hy az bl
 have f1:=fun W=>(show (Instr.field 214 (.agg #[dZ,iG,xs]) 1).run Tryz.prog W= .ok (.int .i64 iG) W by kernel_rfl)
 have f2:=fun W=>(show (Instr.field 214 (.agg #[ot,po,ys]) 1).run Tryz.prog W= .ok (.int .i64 po) W by kernel_rfl)
 have c0:=fun K:aB w.heap.size w=>((bp.U K.U bp.lt).cell 0).trans (show _= some (.int .i64 ag) from rfl)
 have au:=fun K:aB w.heap.size w=>((bp.U K.U bp.lt).cell 1).trans (show _= some (.int .i64 af) from rfl)
 have asJ:=fun K:aB w.heap.size w=>((bp.U K.U bp.lt).cell 2).trans (show _= some (.int .i64 sp) from rfl)
 have asK:=fun K:aB w.heap.size w=>((bp.U K.U bp.lt).cell 3).trans (show _= some (.slice ak xU c2) from rfl)
 have c4:=fun K:aB w.heap.size w=>((bp.U K.U bp.lt).cell 4).trans (show _= some (.slice al ad c3) from rfl)
 clear bp
 go_in
 go_wp2
 refine eC (by kernel_rfl) (by kernel_rfl) ?_
 repeat (go_big_quiet_step (fail))
 go_big_quiet_step ((go_at_call 201;exact aB.call _ (by first | exact Nat.le_refl _ | omega) (yi ag af sp ak xU c2 al c3 ad h3 a ⟨dZ,iG,xs⟩ cg.out _ (bL.out.U (aB.U _)))))
 repeat (go_big_quiet_step (fail))
 go_big_quiet_step ((go_at_call 201;exact aB.call _ (by first | exact Nat.le_refl _ | omega) (yi ag af sp ak xU c2 al c3 ad h3 b ⟨ot,po,ys⟩ iv.out _ (bL.out.U (aB.U _)))))
 repeat (go_big_quiet_step (fail))
 go_big_quiet_step ((go_at_call 252;exact aB.same _ (agl iG po v bD.out _)))
 repeat (go_big_quiet_step (fail))
 refine wpQuiet_nil ?_
 intro K
 go_wp2
 go_ret
 exact⟨rfl,K.U⟩
theorem ZQ (ag af sp:Int) (ak:Option Addr) (c2:Nat) (ws:List Int) (al:Option Addr) (c3:Nat) (ad:List aK) (h2:ws.length≤1048576) (h3:ad.length≤1048576) (n2:ak= none→ws= []∧c2= 0) (n3:al= none→ad= []∧c3= 0) (cm:ws.length≤c2) (hw:ws.length < 20) (w:World) (bm:aJ 1 bU w ak ws) (bl:aJ 3 aK.cells w al ad):
 Calls Tryz.prog 174 #[.agg #[ag,af,sp,.slice ak ws c2,.slice al ad c3]] w fun e ah=>∃br cO,e= .returned (.slice (some ⟨br,0,none⟩) (kF ⟨ag,af,sp,ws,ad⟩).length cO)∧aX w 3 1 bU ah (.slice (some ⟨br,0,none⟩) (kF ⟨ag,af,sp,ws,ad⟩).length cO) (kF ⟨ag,af,sp,ws,ad⟩)∧Below w w ah:=by
 have ea:=J bm;have cS:=J bl;have iY:=J n2;clear bm bl n2 n3;have hlen:(kF ⟨ag,af,sp,ws,ad⟩).length= ws.length:=DA _
 rw [hlen]
 clear hlen
 go_in
 go_upto_region 1 with fail
 refine cR fun aH av aj=>?_
 have I:=av;have aF:=aj.aS;have atL:=aj.lt
 go_wp2_with fail
 refine (Tx ak c2 ws h2 iY.out _ (ea.out.U (ai I aw))).mono ?_
 rintro e aQ ⟨g1,au,rfl,cv,aP⟩
 have ao:=be aH aP;replace I:=ai I ao;replace aj:=aj.to ao;clear aF;have fY:=(cv.lt g1 rfl).1;have wG:=ao.size;have lr:=J cv;have cD:=J aj;have rp:=J I;have sT:=J (cS.out.U I)
 have mT:Hid (∀iZ,al= some iZ→0 < ad.length→iZ.block < w.heap.size):=J (fun iZ e bd=>by
  obtain⟨b,off,e2,aE,_⟩:=cS.out bd
  rw [e] at e2;cases e2;exact aE)
 clear cv aj
 go_upto_region 2 with fail
 go_wp2_with fail
 refine (aqF (sj (iX ⟨ag,af,sp,ws,ad⟩)) ws hw aH.heap.size g1 au w.heap.size _ fY wG lr.out ?_).mono ?_
 ·intro x z ay cb W bK
  have ahX:=cD.out.jO bK (by intro e;have:=Option.some.inj e;omega)
  have aim:aJ 3 aK.cells W al ad:=if bd:0 < ad.length then sT.out.grown bK (fun iZ e e2=>by have h1:=mT.out iZ e bd;have h2:=Option.some.inj e2;have h3:=rp.out.size;omega) else fun h0=>absurd h0 bd
  exact aqP w.heap.size ag af sp ak ws.length c2 al c3 ad h3 x z _ rfl W ahX aim
 rintro e bA ⟨rfl,bw,sy⟩
 have BA:Below w w bA:=rp.out.grown sy (rp.out.size) (fun k ax=>by have:=Option.some.inj ax;omega)
 go_wp2
 go_ret
 exact⟨g1,au,rfl,bw.base (by omega),BA⟩
end Go.Proofs.YtlaaemmmbodaaaaGreatDoor
