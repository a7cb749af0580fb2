/- Parts. -/
import Derived.Lib.AppendZerosOnto
import Derived.Lib.Overlaps
import Derived.Test.YtlaaemmmbodaaaaGreatDoorFx2
set_option maxHeartbeats 16000000
set_option maxRecDepth 100000
set_option linter.all false
open Go Go.RowKit Go.Proofs.YtlaaemmmbodaaaaGreatDoor
variable {rs:List aM} {qs:List aZ} {j c0 aw c2 c3 c4 sz k B d2 d3 g i:Nat} {tu se sp id mem:Int} {ws:List Int} {ae:List aW} {os:List Out} {aq au ak al aF aU bd:QR} {x0 x1:Oper} {a:Act} {P:Program} {ops O:Array Oper} {rest:List Oper} {Q:Exit->Act->World->Prop} {C:World->Prop} {ah:World} {e:TypeId} {u:Value} {v:Prop}
namespace Go.Proofs.YtlaaemmmbodaaaaGreatDoor
theorem Xz (h:v:=by unfold maxLen;omega):v:=h
theorem Zs (h:v:=by simp only [Nat.min_def];split <;> omega):v:=h
theorem aGH (h:v:=by simp [results,Tryz.results78,go_sem,af]):v:=h
structure di where
 bT:List aM
 ch:List aZ
 dw:Int
 dp:Int
 dF:Int
 cz:List Int
 cC:List aW
 bQ:List Out
def jk (rs:List aM) (qs:List aZ):Bool:=match qs[qs.length - 1]? with
 | some q=>(match jb rs q.rule with | some r=>!mC r q && r.nc | none=>false)
 | none=>false
def tL (rs:List aM) (o:Out):Bool:=(jb rs o.rule).isSome && fy o.mover
def HL (sp:Int) (ws:List Int):Bool:=(sp == 0) && decide (ws.length= 0)
def sc (rs:List aM) (qs:List aZ) (tu se sp:Int) (ws:List Int) (ae:List aW) (os:List Out):Bool:=
 ee rs qs && (hG tu se sp ws ae && (decide (os.length<=12) && (!os.any (λo=>!tL rs o) && (jk rs qs || HL sp ws))))
def qW (m:di):Bool:=sc m.bT m.ch m.dw m.dp m.dF m.cz m.cC m.bQ
theorem acO (h:qs.length= 0):jk rs qs= false:=by
 obtain rfl:=YD.1 h;rfl
theorem acM {q:aZ} {r:aM} (aT:qs.length= j + 1) (bt:qs[j]? =some q) (bu:jb rs q.rule= some r):jk rs qs= (!mC r q && r.nc):=by
 have:qs.length - 1= j:=KK
 simp only [jk,this,bt,bu]
theorem alu (h:v:=by
 repeat go_big_quiet_step (fail)
 refine VF ?_
 intro K
 go_wp2
 go_ret
 exact⟨fe (by rw [aT.o];rfl),ai U K.ad⟩):v:=h
theorem JL (h0:rs) (h1:qs) (h2:ws) (h3:ae) (h4:os) (aS:ee rs qs= true) (v:Bool) (az:jk rs qs= v) {w:World} (bk:aX 7 aM.cells w aq rs) (bg:aX 3 aZ.cells w au qs) (bp:aX 1 cE w ak ws) (bj:aX 3 aW.cells w al ae) (cD:aX 3 Out.cells w aF os):
 Rd 124 #[.agg #[aq rs c0,au qs aw,tu,se,sp,ak ws c2,al ae c3,aF os c4]] w λe ah=>e= .returned v/\Below w w ah:=by
 subst az
 rcases Nat.eq_zero_or_pos qs.length with cF | cF
 .rw [cF]
  replace cF:=I cF
  go_in
  go_upto_region 1 with fail
  refine dh λaO ar aC=>?_
  have U:=ar;have df:=aC.aH
  go_upto_region 2 with fail
  clear df
  refine eQ PV PV ?_
  repeat go_big_quiet_step (fail)
  refine VF ?_
  intro K
  go_wp2
  go_ret
  exact⟨fe (acO cF.o).symm,ai U K.ad⟩
 .obtain⟨j,cc⟩ :∃j,qs.length= j + 1:=⟨qs.length - 1,by omega⟩
  have iy:j < qs.length:=KK
  have atm:j<=1048576:=KK
  obtain⟨q,bt⟩ :∃q,qs[j]? =some q:=⟨qs[j],Xj iy⟩
  obtain⟨r,bu⟩:=pB aS bt
  have cr:=acM cc bt bu
  rw [cr,cc]
  replace bt:=I bt;replace bu:=I bu;replace iy:=I iy;clear aS cr cF cc
  obtain⟨id,nm,rk,zY,gQ,am,dz,aP⟩:=r
  obtain⟨qr,cQ,sY⟩:=q
  go_in
  go_upto_region 1 with fail
  refine dh λaO ar aC=>?_
  replace bk:=bk.ad ar;replace bg:=bg.ad ar;have U:=ar;have df:=aC.aH
  go_upto_region 2 with fail
  obtain⟨eV,iA,fJ,rfl,eN,av,bO⟩:=bg.at_ (Wt _ _) iy.o
  obtain rfl:=Wx (bt.o.symm.trans av)
  replace df:=aC.aH;have cG:=bO 0 _ rfl;have dJ:=bO 1 _ rfl;have dt:=bO 2 _ rfl
  simp only [XW] at cG
  clear av bO;have lH:=I bk
  have wT:∀W:World,(Instr.field 89 (.agg #[id,nm,rk,zY,gQ,am,dz]) 4).run Tryz.prog W= .ok (.bool gQ) W:=λ_=>by kernel_rfl
  cases aT:mC ⟨id,nm,rk,zY,gQ,am,dz,aP⟩ ⟨qr,cQ,sY⟩
  .replace aT:=I aT
   replace df:=ay.qF (λK:aD aO aO=>(aC.ad K.ad aC.lt))
   refine eQ PV PV ?_
   repeat go_big_quiet_step (fail)
   go_big_quiet_step ((go_at_call 198;exact aD.call _ Xm (zQ h0 ⟨qr,cQ,sY⟩ ⟨id,nm,rk,zY,gQ,am,dz,aP⟩ bu.o _ aT.o (lH.o.ad (aD.ad _)))))
   repeat go_big_quiet_step (fail)
   go_big_quiet_step ((go_at_call 69;exact aD.call _ Xm (tQ h0 ⟨qr,cQ,sY⟩ ⟨id,nm,rk,zY,gQ,am,dz,aP⟩ bu.o (lH.o.ad (aD.ad _)))))
   exact alu
  .replace aT:=I aT
   replace df:=ay.qF (λK:aD aO aO=>(aC.ad K.ad aC.lt))
   refine eQ PV PV ?_
   repeat go_big_quiet_step (fail)
   go_big_quiet_step ((go_at_call 198;exact aD.call _ Xm (zQ h0 ⟨qr,cQ,sY⟩ ⟨id,nm,rk,zY,gQ,am,dz,aP⟩ bu.o _ aT.o (lH.o.ad (aD.ad _)))))
   exact alu
theorem Hp (h0:rs) (h1:qs) (aS:ee rs qs= true) (v:Bool) (az:jk rs qs= v) {w:World} (bk:aX 7 aM.cells w aq rs) (bg:aX 3 aZ.cells w au qs):
 Rd 185 #[aq rs c0,au qs aw] w λe ah=>e= .returned v/\Below w w ah:=by
 subst az
 rcases Nat.eq_zero_or_pos qs.length with cF | cF
 .rw [cF]
  replace cF:=I cF
  go_in
  go_wp2
  go_ret
  exact⟨fe (acO cF.o).symm,Wt _ _⟩
 .obtain⟨j,cc⟩ :∃j,qs.length= j + 1:=⟨qs.length - 1,by omega⟩
  have iy:j < qs.length:=KK
  have atm:j<=1048576:=KK
  obtain⟨q,bt⟩ :∃q,qs[j]? =some q:=⟨qs[j],Xj iy⟩
  obtain⟨r,bu⟩:=pB aS bt
  have cr:=acM cc bt bu
  obtain⟨m,hm,wY⟩:=uM bu
  have jm:m < rs.length:=(Xg.1 wY).1
  rw [cr,cc]
  refine Ho ?_ bt bu iy hm wY jm;clear bt bu iy hm wY jm;intro bt bu iy hm wY jm;clear aS cr cF cc
  obtain⟨id,nm,rk,zY,gQ,am,dz,aP⟩:=r
  obtain⟨qr,cQ,sY⟩:=q
  obtain⟨eV,iA,fJ,rfl,eN,av,bO⟩:=bg.at_ (Wt _ _) iy.o
  obtain rfl:=Wx (bt.o.symm.trans av)
  have cG:=bO 0 _ rfl;have dJ:=bO 1 _ rfl;have dt:=bO 2 _ rfl
  simp only [XW] at cG
  have g0:=cG (aD.self _);have g1:=dJ (aD.self _);have g2:=dt (aD.self _)
  simp only [aD.self] at g0
  simp only [aD.self] at g1
  simp only [aD.self] at g2
  clear av bO
  cases aT:mC ⟨id,nm,rk,zY,gQ,am,dz,aP⟩ ⟨qr,cQ,sY⟩
  .replace aT:=I aT
   go_in
   go_wp2_with fail
   refine (sT h0 ⟨qr,cQ,sY⟩ ⟨id,nm,rk,zY,gQ,am,dz,aP⟩ bu.o _ aT.o bk).mono ?_
   rintro e bm ⟨rfl,bD⟩
   obtain⟨dr,fc,hr,rfl,zl,zK,aeF⟩:=bk.at_ bD jm.o
   obtain rfl:=Wx (wY.o.symm.trans zK)
   obtain⟨eb,fE,nn,e3,aDF,xV,aeG⟩:=bg.at_ bD iy.o
   simp only [Yg,Addr.mk.injEq,and_true] at e3
   obtain⟨rfl,rfl⟩:=e3
   obtain rfl:=Wx (bt.o.symm.trans xV)
   have pI:=aeF 4 _ rfl (aD.self _);have kz:=aeG 0 _ rfl (aD.self _)
   simp only [XW,aD.self] at pI kz
   clear zK aeF xV aeG cG dJ dt g0 g1 g2
   go_wp2_with fail
   refine (xW h0 _ hm.o (bk.ad bD)).mono ?_
   rintro e w0 ⟨rfl,Nr⟩
   rw [Nr]
   clear Nr w0
   go_wp2
   go_ret
   exact⟨rfl,bD⟩
  .replace aT:=I aT
   go_in
   go_wp2_with fail
   refine (sT h0 ⟨qr,cQ,sY⟩ ⟨id,nm,rk,zY,gQ,am,dz,aP⟩ bu.o _ aT.o bk).mono ?_
   rintro e bm ⟨rfl,bD⟩
   go_wp2
   go_ret
   exact⟨rfl,bD⟩
theorem avR (A:QR) (c:Nat) (xs:List Out) (bq:xs) (f:FuncId) (tw:Array Value) (Js:∀args W,(callFunc f args).run Tryz.prog W= .ok (.enter f args) W) (p:Out->Bool) (v:Int) (az:qS p xs= v) (w:World) (bB:aX 3 Out.cells w A xs)
 (hf:∀x,x ∈ xs->∀W,Below w w W->Calls Tryz.prog f (#[.agg #[.int .i64 x.rule,.int .i64 x.mover,.bool x.jv]] ++ tw) W λe ah=>e= .returned (.bool (p x))/\Below W W ah):
 Rd 202 #[A xs c,.func (.func f) #[] tw] w λe ah=>e= .returned v/\Below w w ah:=by
 subst az
 replace hf:=I hf
 go_in
 go_wp2
 go_loopw [8] (λi wr=>∃k:Nat,k<=xs.length/\i= .int .i64 k/\iv (λi=>!la p xs i) k= true/\Below w w wr) (λi _=>xs.length - (intOf i).toNat)
 case atStart=>exact⟨0,Xd _,rfl,rfl,Wt _ _⟩
 case round=>
  obtain⟨k,ax,rfl,aT,aB⟩:=hrel
  replace aT:=I aT
  by_cases bC:k < xs.length
  .obtain⟨b,off,x,rfl,eN,av,bO⟩:=bB.at_ aB bC
   have Lg:=I (hf.o x (YE av))
   obtain⟨or,axI,aHG⟩:=x
   have f0:=bO 0 _ rfl;have f1:=bO 1 _ rfl;have f2:=bO 2 _ rfl
   simp only [XW] at f0
   have g0:=f0 (aD.self _);have g1:=f1 (aD.self _);have g2:=f2 (aD.self _)
   simp only [aD.self] at g0
   simp only [aD.self] at g1
   simp only [aD.self] at g2
   replace av:=I av;clear bO
   go_wp2_with fail
   refine (Lg.o _ aB).mono ?_
   rintro e ah ⟨rfl,fM⟩
   cases aS:p ⟨or,axI,aHG⟩
   .exact aHu
   .exact aad
  .exact Tm
theorem apY (A:QR) (c:Nat) (xs:List Out) (bq:xs) (f:FuncId) (tw:Array Value) (Js:∀args W,(callFunc f args).run Tryz.prog W= .ok (.enter f args) W) (p:Out->Bool) (v:Bool) (az:xs.any p= v) (w:World) (bB:aX 3 Out.cells w A xs)
 (hf:∀x,x ∈ xs->∀W,Below w w W->Calls Tryz.prog f (#[.agg #[.int .i64 x.rule,.int .i64 x.mover,.bool x.jv]] ++ tw) W λe ah=>e= .returned (.bool (p x))/\Below W W ah):
 Rd 120 #[A xs c,.func (.func f) #[] tw] w λe ah=>e= .returned v/\Below w w ah:=by
 subst az
 replace hf:=I hf;have cy:=RE p xs;replace cy:=I cy
 go_in
 go_wp2_with fail
 refine (avR A c xs bq f tw Js p _ rfl _ bB hf.o).mono ?_
 rintro e ah ⟨rfl,aB⟩
 go_wp2
 go_ret
 exact⟨fe cy.o,aB⟩
theorem ahw {o:Out} (h:jb rs o.rule= none):tL rs o= false:=by simp [tL,h]
theorem aHJ {o:Out} {r:aM} (h:jb rs o.rule= some r):tL rs o= fy o.mover:=by simp [tL,h]
theorem axL (rs:List aM) (aq:QR) (c0:Nat) (h0:rs) (g:Nat) (x:Out) (W:World) (cy:W.cell? ⟨g,0,none⟩ =some (aq rs c0)) (aT:g < W.heap.size) (bk:aX 7 aM.cells W aq rs):
 Rd 121 (#[.agg #[x.rule,x.mover,x.jv]] ++ #[.pointer (some ⟨g,0,none⟩)]) W λe ah=>e= .returned (.bool (!tL rs x))/\Below W W ah:=by
 obtain⟨iZ,eY,lz⟩:=x
 cases hf:jb rs iZ with
 | none=>
  have fP:=I hf;clear hf
  rw [ahw (o:=⟨iZ,eY,lz⟩) fP.o]
  go_in
  go_wp2_with fail
  refine (Kq h0 _ (JJ fP.o) (bk.ad (bP _ _))).mono ?_
  rintro e bm ⟨rfl,bD⟩
  go_wp2
  go_ret
  exact⟨rfl,ai (bP _ _) bD⟩
 | some r=>
  obtain⟨m,hm,_⟩:=uM hf
  replace hm:=I hm
  rw [aHJ (o:=⟨iZ,eY,lz⟩) hf]
  cases aB:fy eY
  all_goals
   have jM:=I aB
   go_in
   go_wp2_with fail
   refine (Kq h0 _ hm.o (bk.ad (bP _ _))).mono ?_
   rintro e bm ⟨rfl,bD⟩
   have aR:=(ay.new W 163 #[iZ,eY,lz]).ad bD Wn;have x1:=(aR.cell 1).trans (show _= some (.int .i64 eY) from rfl)
   go_wp2_with fail
   refine (kx _ jM.o _).mono ?_
   rintro e w0 ⟨rfl,Nr⟩
   rw [Nr]
   clear Nr w0
   go_wp2
   go_ret
   exact⟨rfl,ai (bP _ _) bD⟩
theorem axm (h:ee rs qs= false):sc rs qs tu se sp ws ae os= false:=by rw [sc,h];rfl
theorem axn (h:hG tu se sp ws ae= false):sc rs qs tu se sp ws ae os= false:=by rw [sc,h];simp
theorem axo (h:¬os.length<=12):sc rs qs tu se sp ws ae os= false:=by rw [sc,Xe h];simp
theorem aFG (h:os.any (λo=>!tL rs o)= true):sc rs qs tu se sp ws ae os= false:=by rw [sc,h];simp
theorem RR (h1:ee rs qs= true) (h2:hG tu se sp ws ae= true) (h3:os.length<=12) (h4:os.any (λo=>!tL rs o)= false):sc rs qs tu se sp ws ae os= (jk rs qs || HL sp ws):=by rw [sc,h1,h2,h4,Xh h3];simp
theorem Xv {w W:World} {A0 A1 A2 A3 A4:Option Addr} {T0 T1 T2 T3 T4:Type} {s0 s1 s2 s3 s4:Nat} {f0:T0->List Value} {f1:T1->List Value} {f2:T2->List Value} {f3:T3->List Value} {f4:T4->List Value} {x0:List T0} {x1:List T1} {x2:List T2} {x3:List T3} {x4:List T4} (h0:aX s0 f0 w A0 x0) (h1:aX s1 f1 w A1 x1) (h2:aX s2 f2 w A2 x2) (h3:aX s3 f3 w A3 x3) (h4:aX s4 f4 w A4 x4) (h:Below w w W):aX s0 f0 W A0 x0/\aX s1 f1 W A1 x1/\aX s2 f2 W A2 x2/\aX s3 f3 W A3 x3/\aX s4 f4 W A4 x4:=⟨h0.ad h,h1.ad h,h2.ad h,h3.ad h,h4.ad h⟩
theorem anq (h:v:=by
 rintro e aI ⟨rfl,aQ⟩
 have aj:=be aO aQ;replace U:=ai U aj;obtain⟨bk,bg,bp,bj,cD⟩:=Xv bk bg bp bj cD aj;replace aC:=aC.to aj;replace df:=aC.aH
 go_wp2
 go_ret
 exact⟨fe (axm jB.o).symm,(ai U ao)⟩):v:=h
theorem anr (h:v:=by
 rintro e bw ⟨rfl,bG⟩
 have aY:=be aI bG;replace U:=ai U aY;obtain⟨bk,bg,bp,bj,cD⟩:=Xv bk bg bp bj cD aY;replace aC:=aC.to aY;replace df:=aC.aH
 go_wp2
 go_ret
 exact⟨fe (axn oW.o).symm,(ai U ao)⟩):v:=h
theorem ant (h:v:=by
 rintro e bw ⟨rfl,bG⟩
 have aY:=be aI bG;replace U:=ai U aY;obtain⟨bk,bg,bp,bj,cD⟩:=Xv bk bg bp bj cD aY;replace aC:=aC.to aY;replace df:=aC.aH
 go_wp2
 go_ret
 exact⟨fe (axo wN).symm,(ai U ao)⟩):v:=h
theorem anu (h:v:=by
 replace U:=ai U dK;obtain⟨bk,bg,bp,bj,cD⟩:=Xv bk bg bp bj cD dK;replace aC:=aC.to dK;replace df:=aC.aH
 go_wp2
 go_ret
 exact⟨fe (by rw [RR H1.o ja.o lB.o BL.o,lC.o];rfl),(ai U ao)⟩):v:=h
theorem anl (h:v:=by
 replace U:=ai U dK;obtain⟨bk,bg,bp,bj,cD⟩:=Xv bk bg bp bj cD dK;replace aC:=aC.to dK;replace df:=aC.aH
 go_wp2
 go_ret
 exact⟨fe (by rw [RR H1.o ja.o lB.o BL.o,lC.o,HL,IE.o,Xh BY.o];rfl),(ai U ao)⟩):v:=h
theorem ank (h:v:=by
 replace U:=ai U dK;obtain⟨bk,bg,bp,bj,cD⟩:=Xv bk bg bp bj cD dK;replace aC:=aC.to dK;replace df:=aC.aH
 go_wp2
 go_ret
 exact⟨fe (by rw [RR H1.o ja.o lB.o BL.o,lC.o,HL,IE.o,Xe BY.o];rfl),(ai U ao)⟩):v:=h
theorem ano (h:v:=by
 replace U:=ai U dK;obtain⟨bk,bg,bp,bj,cD⟩:=Xv bk bg bp bj cD dK;replace aC:=aC.to dK;replace df:=aC.aH
 go_wp2
 go_ret
 exact⟨fe (by rw [RR H1.o ja.o lB.o BL.o,lC.o,HL,IE.o];rfl),(ai U ao)⟩):v:=h
theorem avh (rs:List aM) (qs:List aZ) (tu se sp:Int) (ws:List Int) (ae:List aW) (os:List Out) (aq au ak al aF:QR) (c0 aw c2 c3 c4:Nat) (h0:rs) (h1:qs) (h2:ws) (h3:ae) (h4:os) (v:Bool) (az:sc rs qs tu se sp ws ae os= v) (w:World) (bk:aX 7 aM.cells w aq rs) (bg:aX 3 aZ.cells w au qs) (bp:aX 1 cE w ak ws) (bj:aX 3 aW.cells w al ae) (cD:aX 3 Out.cells w aF os) (ev:rs.length<=c0) (cL:ws.length<=c2):
 Rd 63 #[.agg #[aq rs c0,au qs aw,tu,se,sp,ak ws c2,al ae c3,aF os c4]] w λe ah=>e= .returned v/\Below w w ah:=by
 subst az
 cases sD:ee rs qs
 .have jB:=I sD;clear sD
  go_in
  go_upto_region 1 with fail
  refine dh λaO ar aC=>?_
  obtain⟨bk,bg,bp,bj,cD⟩:=Xv bk bg bp bj cD ar;have U:=ar;have df:=aC.aH
  go_wp2_with fail
  refine (qh aq c0 rs h0 ev au aw qs h1 _ jB.o _ (bk.ad ao) (bg.ad ao)).mono ?_
  exact anq
 have H1:=I sD;have jB:=I sD;clear sD
 cases rU:hG tu se sp ws ae
 .have oW:=I rU;clear rU
  go_in
  go_upto_region 1 with fail
  refine dh λaO ar aC=>?_
  obtain⟨bk,bg,bp,bj,cD⟩:=Xv bk bg bp bj cD ar;have U:=ar;have df:=aC.aH
  go_wp2_with fail
  refine (qh aq c0 rs h0 ev au aw qs h1 _ jB.o _ (bk.ad ao) (bg.ad ao)).mono ?_
  rintro e aI ⟨rfl,aQ⟩
  have aj:=be aO aQ;replace U:=ai U aj;obtain⟨bk,bg,bp,bj,cD⟩:=Xv bk bg bp bj cD aj;replace aC:=aC.to aj;replace df:=aC.aH
  go_wp2_with fail
  refine (oy c2 h2 h3 cL _ oW.o (bp.ad ao) (bj.ad ao)).mono ?_
  exact anr
 have ja:=I rU;have oW:=I rU;clear rU
 by_cases wN:os.length<=12
 case neg=>
  go_in
  go_upto_region 1 with fail
  refine dh λaO ar aC=>?_
  obtain⟨bk,bg,bp,bj,cD⟩:=Xv bk bg bp bj cD ar;have U:=ar;have df:=aC.aH
  go_wp2_with fail
  refine (qh aq c0 rs h0 ev au aw qs h1 _ jB.o _ (bk.ad ao) (bg.ad ao)).mono ?_
  rintro e aI ⟨rfl,aQ⟩
  have aj:=be aO aQ;replace U:=ai U aj;obtain⟨bk,bg,bp,bj,cD⟩:=Xv bk bg bp bj cD aj;replace aC:=aC.to aj;replace df:=aC.aH
  go_wp2_with fail
  refine (oy c2 h2 h3 cL _ oW.o (bp.ad ao) (bj.ad ao)).mono ?_
  exact ant
 have lB:=I wN
 go_in
 go_upto_region 1 with fail
 refine dh λaO ar aC=>?_
 obtain⟨bk,bg,bp,bj,cD⟩:=Xv bk bg bp bj cD ar;have U:=ar;have df:=aC.aH
 go_wp2_with fail
 refine (qh aq c0 rs h0 ev au aw qs h1 _ jB.o _ (bk.ad ao) (bg.ad ao)).mono ?_
 rintro e aI ⟨rfl,aQ⟩
 have aj:=be aO aQ;replace U:=ai U aj;obtain⟨bk,bg,bp,bj,cD⟩:=Xv bk bg bp bj cD aj;replace aC:=aC.to aj;replace df:=aC.aH
 go_wp2_with fail
 refine (oy c2 h2 h3 cL _ oW.o (bp.ad ao) (bj.ad ao)).mono ?_
 rintro e bw ⟨rfl,bG⟩
 have aY:=be aI bG;replace U:=ai U aY;obtain⟨bk,bg,bp,bj,cD⟩:=Xv bk bg bp bj cD aY;replace aC:=aC.to aY;replace df:=aC.aH
 have FH:Hid (∀d,os.any (λo=>!tL rs o)= d->Rd 120 #[aF os c4,.func (.func 121) #[] #[.pointer (some ⟨w,0,none⟩)]] bw λe ah=>e= .returned (.bool d)/\Below bw bw ah):=I λd cr=>
  apY aF c4 os h4 121 #[.pointer (some ⟨w,0,none⟩)] (HS Tryz.func121 PV PV) (λo=>!tL rs o) d cr bw cD (λx _ V iq=>axL rs aq c0 h0 w x V ((aC.to iq).cell 0) (aC.to iq).lt (bk.ad iq))
 by_cases Cv:os.any (λo=>!tL rs o)= true
 .have BL:=I Cv;clear Cv
  go_wp2_with fail
  refine (FH.o _ BL.o).mono ?_
  rintro e bH ⟨rfl,db⟩
  have cj:=be bw db;replace U:=ai U cj;obtain⟨bk,bg,bp,bj,cD⟩:=Xv bk bg bp bj cD cj;replace aC:=aC.to cj;replace df:=aC.aH
  go_wp2
  go_ret
  exact⟨fe (aFG BL.o).symm,(ai U ao)⟩
 replace Cv:=Ya.2 Cv;have BL:=I Cv;clear Cv
 go_wp2_with fail
 refine (FH.o _ BL.o).mono ?_
 rintro e bH ⟨rfl,db⟩
 have cj:=be bw db;replace U:=ai U cj;obtain⟨bk,bg,bp,bj,cD⟩:=Xv bk bg bp bj cD cj;replace aC:=aC.to cj;replace df:=aC.aH
 by_cases cr:jk rs qs= true
 .have lC:=I cr;clear cr
  go_wp2_with fail
  refine (JL h0 h1 h2 h3 h4 H1.o _ lC.o (bk.ad ao) (bg.ad ao) (bp.ad ao) (bj.ad ao) (cD.ad ao)).mono ?_
  rintro e cO ⟨rfl,eM⟩
  have dK:=be bH eM
  exact anu
 replace cr:=Ya.2 cr;have lC:=I cr;clear cr
 by_cases aP:sp= 0
 .have zD:(sp == 0)= true:=Xx.2 aP
  have IE:=I zD;clear aP
  by_cases hw:ws.length= 0
  .have CW:((ws.length:Int) == 0)= true:=by simp [hw]
   have BY:=I hw;clear hw
   go_wp2_with fail
   refine (JL h0 h1 h2 h3 h4 H1.o _ lC.o (bk.ad ao) (bg.ad ao) (bp.ad ao) (bj.ad ao) (cD.ad ao)).mono ?_
   rintro e cO ⟨rfl,eM⟩
   have dK:=be bH eM
   exact anl
  .have CW:((ws.length:Int) == 0)= false:=by simpa using hw
   have BY:=I hw;clear hw
   go_wp2_with fail
   refine (JL h0 h1 h2 h3 h4 H1.o _ lC.o (bk.ad ao) (bg.ad ao) (bp.ad ao) (bj.ad ao) (cD.ad ao)).mono ?_
   rintro e cO ⟨rfl,eM⟩
   have dK:=be bH eM
   exact ank
 .have zD:(sp == 0)= false:=Xb.2 aP
  have IE:=I zD;clear aP
  go_wp2_with fail
  refine (JL h0 h1 h2 h3 h4 H1.o _ lC.o (bk.ad ao) (bg.ad ao) (bp.ad ao) (bj.ad ao) (cD.ad ao)).mono ?_
  rintro e cO ⟨rfl,eM⟩
  have dK:=be bH eM
  exact ano
theorem azZ (rs:List aM) (qs:List aZ) (tu se sp:Int) (ws:List Int) (ae:List aW) (os:List Out) (aq au ak al aF:QR) (c0 aw c2 c3 c4:Nat) (h0:rs) (h1:qs) (h2:ws) (h3:ae) (h4:os) (v:Bool) (az:sc rs qs tu se sp ws ae os= v) (w:World) (bk:aX 7 aM.cells w aq rs) (bg:aX 3 aZ.cells w au qs) (bp:aX 1 cE w ak ws) (bj:aX 3 aW.cells w al ae) (cD:aX 3 Out.cells w aF os) (ev:rs.length<=c0) (cL:ws.length<=c2):
 Rd 107 #[.agg #[aq rs c0,au qs aw,tu,se,sp,ak ws c2,al ae c3,aF os c4]] w λe ah=>e= .returned v/\Below w w ah:=by
 subst az
 cases sD:ee rs qs
 .have jB:=I sD;clear sD
  go_in
  go_upto_region 1 with fail
  refine dh λaO ar aC=>?_
  obtain⟨bk,bg,bp,bj,cD⟩:=Xv bk bg bp bj cD ar;have U:=ar;have df:=aC.aH
  go_wp2_with fail
  refine (nz aq c0 rs h0 au aw qs h1 _ jB.o _ (bk.ad ao) (bg.ad ao)).mono ?_
  exact anq
 have H1:=I sD;have jB:=I sD;clear sD
 cases rU:hG tu se sp ws ae
 .have oW:=I rU;clear rU
  go_in
  go_upto_region 1 with fail
  refine dh λaO ar aC=>?_
  obtain⟨bk,bg,bp,bj,cD⟩:=Xv bk bg bp bj cD ar;have U:=ar;have df:=aC.aH
  go_wp2_with fail
  refine (nz aq c0 rs h0 au aw qs h1 _ jB.o _ (bk.ad ao) (bg.ad ao)).mono ?_
  rintro e aI ⟨rfl,aQ⟩
  have aj:=be aO aQ;replace U:=ai U aj;obtain⟨bk,bg,bp,bj,cD⟩:=Xv bk bg bp bj cD aj;replace aC:=aC.to aj;replace df:=aC.aH
  go_wp2_with fail
  refine (oz c2 h2 h3 cL _ oW.o (bp.ad ao) (bj.ad ao)).mono ?_
  exact anr
 have ja:=I rU;have oW:=I rU;clear rU
 by_cases wN:os.length<=12
 case neg=>
  go_in
  go_upto_region 1 with fail
  refine dh λaO ar aC=>?_
  obtain⟨bk,bg,bp,bj,cD⟩:=Xv bk bg bp bj cD ar;have U:=ar;have df:=aC.aH
  go_wp2_with fail
  refine (nz aq c0 rs h0 au aw qs h1 _ jB.o _ (bk.ad ao) (bg.ad ao)).mono ?_
  rintro e aI ⟨rfl,aQ⟩
  have aj:=be aO aQ;replace U:=ai U aj;obtain⟨bk,bg,bp,bj,cD⟩:=Xv bk bg bp bj cD aj;replace aC:=aC.to aj;replace df:=aC.aH
  go_wp2_with fail
  refine (oz c2 h2 h3 cL _ oW.o (bp.ad ao) (bj.ad ao)).mono ?_
  exact ant
 have lB:=I wN
 go_in
 go_upto_region 1 with fail
 refine dh λaO ar aC=>?_
 obtain⟨bk,bg,bp,bj,cD⟩:=Xv bk bg bp bj cD ar;have U:=ar;have df:=aC.aH
 go_wp2_with fail
 refine (nz aq c0 rs h0 au aw qs h1 _ jB.o _ (bk.ad ao) (bg.ad ao)).mono ?_
 rintro e aI ⟨rfl,aQ⟩
 have aj:=be aO aQ;replace U:=ai U aj;obtain⟨bk,bg,bp,bj,cD⟩:=Xv bk bg bp bj cD aj;replace aC:=aC.to aj;replace df:=aC.aH
 go_wp2_with fail
 refine (oz c2 h2 h3 cL _ oW.o (bp.ad ao) (bj.ad ao)).mono ?_
 rintro e bw ⟨rfl,bG⟩
 have aY:=be aI bG;replace U:=ai U aY;obtain⟨bk,bg,bp,bj,cD⟩:=Xv bk bg bp bj cD aY;replace aC:=aC.to aY;replace df:=aC.aH
 go_wp2
 have gi:=I aC;have aoU:=I bk;have aoV:=I bg;have aoW:=I bp;have aoX:=I bj;have UJ:=I cD;clear df
 go_loopw [3] (λi wr=>∃k:Nat,k<=os.length/\i= .int .i64 k/\iv (la (tL rs) os) k= true/\Below w w wr/\Below bw bw wr) (λi _=>os.length - (intOf i).toNat)
 case atStart=>exact⟨0,Xd _,rfl,rfl,U,Wt _ _⟩
 case round=>
  obtain⟨k,ax,rfl,aT,AW,aB⟩:=hrel
  replace aT:=I aT;replace bk:=aoU.o;replace bg:=aoV.o;replace bp:=aoW.o;replace bj:=aoX.o;replace cD:=UJ.o;replace aC:=gi.o;have cj:=be bw aB;replace U:=ai U cj;obtain⟨bk,bg,bp,bj,cD⟩:=Xv bk bg bp bj cD cj;replace aC:=aC.to aB;have df:=aC.aH
  by_cases bC:k < os.length
  .obtain⟨eV,iA,x,rfl,eN,av,bO⟩:=cD.at_ (Wt _ _) bC
   obtain⟨iZ,eY,lz⟩:=x
   replace df:=aC.aH;have cG:=bO 0 _ rfl;have dJ:=bO 1 _ rfl
   simp only [XW] at cG
   have fV:=I av;clear av bO;have lH:=I bk
   cases hf:jb rs iZ with
   | none=>
    replace hf:=I hf
    go_upto_region 6 with fail
    replace df:=ay.qF (λK:aD wr wr=>(aC.ad K.ad aC.lt))
    refine eQ PV PV ?_
    repeat go_big_quiet_step (fail)
    go_big_quiet_step ((go_at_call 72;exact aD.same _ (xW h0 _ (JJ hf.o) (lH.o.ad (aD.ad _)))))
    repeat go_big_quiet_step (fail)
    refine VF ?_
    intro K
    go_wp2
    go_ret
    exact⟨fe (aFG (List.any_eq_true.2 ⟨⟨iZ,eY,lz⟩,YE fV.o,by rw [ahw (o:=⟨iZ,eY,lz⟩) hf.o];rfl⟩)).symm,ai AW K.ad⟩
   | some r=>
    replace hf:=I hf
    obtain⟨m,hm,_⟩:=uM hf.o
    replace hm:=I hm;have aFI:decide ((m:Int) < 0)= false:=Xe KK
    cases aQ:fy eY
    .replace aQ:=I aQ
     go_upto_region 6 with fail
     replace df:=ay.qF (λK:aD wr wr=>(aC.ad K.ad aC.lt))
     refine eQ PV PV ?_
     repeat go_big_quiet_step (fail)
     go_big_quiet_step ((go_at_call 72;exact aD.same _ (xW h0 _ hm.o (lH.o.ad (aD.ad _)))))
     repeat go_big_quiet_step (fail)
     go_big_quiet_step ((go_at_call 162;exact aD.same _ (km _ aQ.o _)))
     repeat go_big_quiet_step (fail)
     refine VF ?_
     intro K
     go_wp2
     go_ret
     exact⟨fe (aFG (List.any_eq_true.2 ⟨⟨iZ,eY,lz⟩,YE fV.o,by rw [aHJ (o:=⟨iZ,eY,lz⟩) hf.o];simp only [aQ.o];rfl⟩)).symm,ai AW K.ad⟩
    .replace aQ:=I aQ
     go_upto_region 6 with fail
     replace df:=ay.qF (λK:aD wr wr=>(aC.ad K.ad aC.lt))
     refine eQ PV PV ?_
     repeat go_big_quiet_step (fail)
     go_big_quiet_step ((go_at_call 72;exact aD.same _ (xW h0 _ hm.o (lH.o.ad (aD.ad _)))))
     repeat go_big_quiet_step (fail)
     go_big_quiet_step ((go_at_call 162;exact aD.same _ (km _ aQ.o _)))
     repeat go_big_quiet_step (fail)
     refine VF ?_
     intro K
     go_wp2
     go_roundw
     case rel=>exact⟨k + 1,by omega,by go_num,qg aT.o (by simp only [la,fV.o];rw [aHJ (o:=⟨iZ,eY,lz⟩) hf.o];exact aQ.o),ai AW K.ad,ai aB K.ad⟩
     case measure=>simp [intOf];omega
  .obtain rfl:k= os.length:=KK
   have BL:Hid (os.any (λo=>!tL rs o)= false):=I (by
    rw [Ya]
    intro aN
    obtain⟨x,av,aS⟩:=List.any_eq_true.1 aN
    obtain⟨i,bo⟩:=YY.1 av
    have:=oM.1 aT.o i (Xg.1 bo).1
    simp only [la,bo] at this
    rw [this] at aS;cases aS)
   by_cases cr:jk rs qs= true
   .have lC:=I cr;clear cr
    go_wp2_with fail
    refine (Hp h0 h1 H1.o _ lC.o (bk.ad ao) (bg.ad ao)).mono ?_
    rintro e cO ⟨rfl,eM⟩
    have dK:=be wr eM
    exact anu
   replace cr:=Ya.2 cr;have lC:=I cr;clear cr
   by_cases aP:sp= 0
   .have zD:(sp == 0)= true:=Xx.2 aP
    have IE:=I zD;clear aP
    by_cases hw:ws.length= 0
    .have CW:((ws.length:Int) == 0)= true:=by simp [hw]
     have BY:=I hw;clear hw
     go_wp2_with fail
     refine (Hp h0 h1 H1.o _ lC.o (bk.ad ao) (bg.ad ao)).mono ?_
     rintro e cO ⟨rfl,eM⟩
     have dK:=be wr eM
     exact anl
    .have CW:((ws.length:Int) == 0)= false:=by simpa using hw
     have BY:=I hw;clear hw
     go_wp2_with fail
     refine (Hp h0 h1 H1.o _ lC.o (bk.ad ao) (bg.ad ao)).mono ?_
     rintro e cO ⟨rfl,eM⟩
     have dK:=be wr eM
     exact ank
   .have zD:(sp == 0)= false:=Xb.2 aP
    have IE:=I zD;clear aP
    go_wp2_with fail
    refine (Hp h0 h1 H1.o _ lC.o (bk.ad ao) (bg.ad ao)).mono ?_
    rintro e cO ⟨rfl,eM⟩
    have dK:=be wr eM
    exact ano
structure pJ where
 kind:Int
 mem:Int
 val:Int
 yes:Int
 no:Int
 bR:Int
def di.hF (m:di):fp:=⟨m.dw,m.dp,m.dF,m.cz,m.cC⟩
def di.Th (m:di) (qs:List aZ):di:={m with ch:=qs,dF:=0,cz:=[],cC:=[]}
def di.Pc (m:di) (f:fp):di:={m with dw:=f.tu,dp:=f.se,dF:=f.sp,cz:=f.ws,cC:=f.ae}
def di.aBW (m:di) (qs:List aZ):di:={m with ch:=qs}
def di.KH (m:di) (qs:List aZ) (o:Out):di:={m with ch:=qs,dF:=0,cz:=[],cC:=[],bQ:=m.bQ ++ [o]}
def ya (rs:List aM) (q:aZ):Int:=match jb rs q.rule with | some r=>r.need | none=>0
def sk (m:di) (a:pJ):Option di:=match vq m.bT m.ch with
 | some (ps,q)=>if ym a.yes a.no a.bR && !decide (m.bQ.length= 12) then some (m.KH ps ⟨q.rule,q.mover,sA (ya m.bT q) a.yes a.no⟩) else none
 | none=>none
def wJ (m:di) (a:pJ):Option di:=
 if a.kind= 3 then if qf m.hF a.mem && jk m.bT m.ch then some (m.Pc (ug m.hF a.mem)) else none
 else if a.kind= 4 then if oB m.hF && jk m.bT m.ch then (xh m.hF).map (λp=>m.Pc (vL m.hF p)) else none
 else if a.kind= 5 then if qq m.hF a.val && jk m.bT m.ch then some (m.Pc (lp m.hF a.val)) else none
 else if a.kind= 6 then if oH m.hF && jk m.bT m.ch then some (m.Pc (oV m.hF)) else none
 else none
def hY (m:di) (a:pJ):Option di:=
 if a.kind= 1 then if m.dF == 0 then (kU m.bT m.ch a.val a.mem).map m.Th else none
 else if a.kind= 2 then (ln m.bT m.ch a.mem).map m.aBW
 else if a.kind= 7 then if m.dF == 0 then sk m a else none
 else if a.kind= 8 then if m.dF == 0 then (mG m.bT m.ch a.mem).map m.Th else none
 else if a.kind= 9 then if (m.dF == 0) && (ee m.bT m.ch && mb m.bT m.ch) then some (m.Th (AN m.bT m.ch)) else none
 else wJ m a
structure hL (m:di):Prop where
 jn:ee m.bT m.ch= true
 hF:m.hF.ok= true
 ol:m.bQ.length<=12
 Ov:∀o,o ∈ m.bQ->tL m.bT o= true
 Qy:jk m.bT m.ch= true\/(m.dF= 0/\m.cz= [])
theorem JW {m:di}:qW m= true↔hL m:=by
 unfold qW sc HL
 simp only [Xa,Bool.or_eq_true,Xx,Xf,YJ,YD]
 constructor
 .rintro ⟨h1,h2,h3,h4,h5⟩
  refine⟨h1,h2,h3,λo dn=>?_,h5⟩
  rw [List.any_eq_false] at h4
  have:=h4 o dn
  simpa using this
 .rintro ⟨h1,h2,h3,h4,h5⟩
  refine⟨h1,h2,h3,?_,h5⟩
  rw [List.any_eq_false]
  intro o dn
  simp [h4 o dn]
theorem Vw (h1:1<=tu/\tu<=3) (h2:1<=se/\se<=3600):hG tu se 0 [] []= true:=
 QG.2 ⟨h1,h2,Or.inl rfl,by simp,by simp,List.Pairwise.nil,by simp,List.Pairwise.nil,Or.inl rfl⟩
theorem aHZ {m:di} (h:hL m) (aS:ee m.bT qs= true):hL (m.Th qs):=by
 have H:=nt.1 h.hF
 exact⟨aS,Vw H.t H.s,h.ol,h.Ov,Or.inr ⟨rfl,rfl⟩⟩
theorem Tg {m:di} {f:fp} (h:hL m) (hf:f.ok= true) (cr:jk m.bT m.ch= true):hL (m.Pc f):=by
 exact⟨h.jn,hf,h.ol,h.Ov,Or.inl cr⟩
theorem acN (h:mb rs qs= true):jk rs qs= false:=by
 unfold mb at h;unfold jk
 cases bt:qs[qs.length - 1]? with
 | none=>rfl
 | some q=>
  rw [bt] at h
  dsimp only at h ⊢
  cases bu:jb rs q.rule with
  | none=>rfl
  | some r=>rw [bu] at h;dsimp only at h ⊢;rw [h];rfl
theorem OY {m n:di} {a:pJ} (h:sk m a= some n):∃ps q,vq m.bT m.ch= some (ps,q)/\ym a.yes a.no a.bR= true/\m.bQ.length≠12/\n= m.KH ps ⟨q.rule,q.mover,sA (ya m.bT q) a.yes a.no⟩:=by
 unfold sk at h
 split at h
 .rename_i ps q cr
  split at h
  .rename_i aN
   simp only [Xa,YJ,decide_eq_false_iff_not] at aN
   cases h
   exact⟨ps,q,cr,aN.1,aN.2,rfl⟩
  .cases h
 .cases h
theorem aBQ {m n:di} {a:pJ} (h:hL m) (az:sk m a= some n):hL n:=by
 obtain⟨ps,q,cr,cJ,dn,rfl⟩:=OY az
 obtain⟨h1,h2,j,cc,bt,rfl⟩:=acY cr
 have H:=nt.1 h.hF
 obtain⟨r,bu⟩:=pB h.jn bt
 refine⟨h1,Vw H.t H.s,?_,?_,Or.inr ⟨rfl,rfl⟩⟩
 .have:=h.ol;simp only [di.KH,Xu,YK,ZS];omega
 .intro o hm
  simp only [di.KH,YC,Xl,YT,or_false] at hm
  rcases hm with hm | rfl
  .exact h.Ov o hm
  .simp only [tL,di.KH,bu,Yw,Za]
   exact Oz h.jn bt
theorem aru {m n:di} {a:pJ} (h:hL m) (az:wJ m a= some n):hL n:=by
 unfold wJ at az
 split at az
 .split at az
  .rename_i aN;simp only [Xa] at aN
   cases az;exact Tg h (apg aN.1) aN.2
  .cases az
 split at az
 .split at az
  .rename_i aN;simp only [Xa] at aN
   cases hm:xh m.hF with
   | none=>rw [hm] at az;cases az
   | some p=>
    rw [hm] at az;cases az
    exact Tg h (axE aN.1 (YE hm)) aN.2
  .cases az
 split at az
 .split at az
  .rename_i aN;simp only [Xa] at aN
   cases az;exact Tg h (aBa aN.1) aN.2
  .cases az
 split at az
 .split at az
  .rename_i aN;simp only [Xa] at aN
   cases az;exact Tg h (akm aN.1) aN.2
  .cases az
 .cases az
theorem Oh {m n:di} {a:pJ} (h:hL m) (az:hY m a= some n):hL n:=by
 unfold hY at az
 split at az
 .split at az
  .cases bt:kU m.bT m.ch a.val a.mem with
   | none=>rw [bt] at az;cases az
   | some qs=>rw [bt] at az;cases az;exact aHZ h (axu bt)
  .cases az
 split at az
 .cases bt:ln m.bT m.ch a.mem with
  | none=>rw [bt] at az;cases az
  | some qs=>
   rw [bt] at az;cases az
   have aT:mb m.bT m.ch= true:=by
    unfold ln at bt
    split at bt
    .rename_i aN;simp only [Xa] at aN;exact aN.2.1
    .cases bt
   refine⟨aAP bt,h.hF,h.ol,h.Ov,Or.inr (h.Qy.resolve_left ?_)⟩
   rw [acN aT];simp
 split at az
 .split at az
  .exact aBQ h az
  .cases az
 split at az
 .split at az
  .cases bt:mG m.bT m.ch a.mem with
   | none=>rw [bt] at az;cases az
   | some qs=>rw [bt] at az;cases az;exact aHZ h (aBV bt)
  .cases az
 split at az
 .split at az
  .rename_i aN;simp only [Xa] at aN
   cases az
   exact aHZ h (aql (show nP m.bT m.ch= some _ by rw [nP,XX aN.2.1]))
  .cases az
 .exact aru h az
theorem aqj {m:di} (h:hL m) (hw:0 < m.cz.length):jk m.bT m.ch= true:=by
 rcases h.Qy with h1 | h1
 .exact h1
 .rw [h1.2] at hw;simp at hw
theorem acP {m:di} (h:hL m) (hw:m.dF≠0):jk m.bT m.ch= true:=by
 rcases h.Qy with h1 | h1
 .exact h1
 .exact absurd h1.1 hw
theorem aBg {m:di} (h:hL m) (aT:mb m.bT m.ch= true):m.dF= 0:=by
 rcases h.Qy with h1 | h1
 .rw [acN aT] at h1;cases h1
 .exact h1.1
theorem aFA {N:Nat}:∀{xs:List aW} {lo:Int},xs.Pairwise (λa b=>a.mem < b.mem)->(∀x,x ∈ xs->lo < x.mem/\x.mem<=lo + N)->xs.length<=N
 | [],_,_,_=>by simp
 | x ::xs,lo,h,aB=>by
  obtain⟨h1,h2⟩:=YM.1 h
  have av:=aB x List.mem_cons_self
  cases N with
  | zero=>omega
  | succ N=>
   have:=aFA (N:=N) (lo:=lo + 1) h2 (λy hy=>by
    have a:=h1 y hy;have b:=aB y (List.mem_cons_of_mem _ hy)
    constructor <;> omega)
   simp;omega
theorem uO {m:di} (h:hL m):m.bT.length<=8/\m.ch.length<=6/\m.cz.length<=10/\m.cC.length<=99/\m.bQ.length<=12:=by
 obtain⟨bu,bt,_⟩:=mS h.jn
 have H:=nt.1 h.hF
 refine⟨?_,bt,H.l,?_,h.ol⟩
 .unfold jR at bu;simp only [Xa,Xf] at bu;exact bu.2
 .refine aFA (N:=99) (lo:=0) H.ord λx av=>?_
  have:=zZ.1 (H.ok x av);have:=qT.1 this.1
  omega
theorem axs {m n:di} {a:pJ} (az:hY m a= some n):n.bT= m.bT:=by
 unfold hY wJ at az
 repeat' split at az
 all_goals first
  | cases az;rfl
  | (obtain⟨ps,q,_,_,_,rfl⟩:=OY az;rfl)
  | (obtain⟨_,_,rfl⟩:=Option.map_eq_some_iff.1 az;rfl)
  | cases az
def pJ.cells (a:pJ):List Value:=[.int .i64 a.kind,.int .i64 a.mem,.int .i64 a.val,.int .i64 a.yes,.int .i64 a.no,.int .i64 a.bR]
def xf (tu se:Int):Bool:=hG tu se 0 [] []
def ahn (tu se:Int) (b:Bool):Value:=if b then .tuple #[.agg #[.int .i64 tu,.int .i64 se,.int .i64 0,.slice none 0 0,.slice none 0 0],.bool true] else .tuple #[.agg #[.int .i64 0,.int .i64 0,.int .i64 0,.slice none 0 0,.slice none 0 0],.bool false]
theorem Fe {T:Type} {f:T->List Value} {w:World} {A:QR}:aX sz f w A ([]:List T):=λh=>absurd h Wn
theorem aiN (tu se:Int) (b:Bool) (aB:xf tu se= b) (w:World):
 Rd 134 #[tu,se] w λe ah=>e= .returned (ahn tu se b)/\Below w w ah:=by
 replace aB:=I aB
 cases b
 .go_in
  go_upto_region 2 with fail
  refine fU λaO ar J ag=>?_
  have U:=ar;have af:=J.aL;have aJ:=ag.aL
  go_wp2_with fail
  refine (oz 0 Wn Wn Wn _ aB.o Fe Fe).mono ?_
  rintro e aI ⟨rfl,aQ⟩
  have aj:=be aO aQ;replace U:=ai U aj;replace J:=J.to aj;replace af:=J.aL;clear aJ;have eg:=J.iW
  go_wp2
  clear af
  refine hs 0 λcP aE=>?_
  replace U:=aE.aN U;replace J:=aE.iK J;have af:=J.aL
  refine XY (v:= .tuple #[.agg #[(0:Int),(0:Int),(0:Int),(),()],false]) (by simp [results,Tryz.results134,go_sem,af]) rfl ?_
  exact⟨rfl,U⟩
 .go_in
  go_upto_region 2 with fail
  refine fU λaO ar J ag=>?_
  have U:=ar;have af:=J.aL;have aJ:=ag.aL
  go_wp2_with fail
  refine (oz 0 Wn Wn Wn _ aB.o Fe Fe).mono ?_
  rintro e aI ⟨rfl,aQ⟩
  have aj:=be aO aQ;replace U:=ai U aj;replace J:=J.to aj;replace af:=J.aL;replace ag:=ag.to aj;replace aJ:=ag.aL;have eg:=J.iW
  go_wp2
  clear af aJ
  refine hs 0 λcP aE=>?_
  replace U:=aE.aN U;replace J:=aE.iK J;have af:=J.aL
  refine XY (v:= .tuple #[.agg #[tu,se,(0:Int),(),()],true]) (by simp [results,Tryz.results134,go_sem,af]) rfl ?_
  exact⟨rfl,U⟩
theorem aGt (tu se:Int) (aB:xf tu se= true) (w:World):Rd 134 #[tu,se] w λe ah=>e= .returned (.tuple #[.agg #[tu,se,(0:Int),(),()],true])/\Below w w ah:=aiN tu se true aB w
theorem aiM (tu se:Int) (aB:xf tu se= false) (w:World):Rd 134 #[tu,se] w λe ah=>e= .returned (.tuple #[.agg #[(0:Int),(0:Int),(0:Int),(),()],false])/\Below w w ah:=aiN tu se false aB w
structure aCp where
 dw:Int
 dp:Int
 dF:Int
 cz:List Int
 cC:List aW
def jy (os:List Out) (n:Int):Nat->Int×Int
 | 0=>(0,0)
 | k + 1=>match os[k]? with | some o=>if o.mover == n then ((jy os n k).1 + 1,(jy os n k).2 + (if o.jv then 1 else 0)) else jy os n k | none=>jy os n k
theorem aGv (os:List Out) (n:Int):∀k,0<=(jy os n k).1/\(jy os n k).1<=k/\0<=(jy os n k).2/\(jy os n k).2<=k
 | 0=>by simp [jy]
 | k + 1=>by
  have:=aGv os n k
  unfold jy
  split
  .split
   .dsimp only;split <;> omega
   .omega
  .omega
def Bp (m:di) (n:Int):Value:=if qW m && fy n then .tuple #[.int .i64 (jy m.bQ n m.bQ.length).1,.int .i64 (jy m.bQ n m.bQ.length).2,.bool true] else .tuple #[.int .i64 0,.int .i64 0,.bool false]
theorem Hk (m:di) (h0:m.bT) (h1:m.ch) (h2:m.cz) (h3:m.cC) (h4:m.bQ) (v:Bool) (az:qW m= v) {w:World} (bk:aX 7 aM.cells w aq m.bT) (bg:aX 3 aZ.cells w au m.ch) (bp:aX 1 cE w ak m.cz) (bj:aX 3 aW.cells w al m.cC) (cD:aX 3 Out.cells w aF m.bQ) (ev:m.bT.length<=c0) (eU:m.ch.length<=aw) (cL:m.cz.length<=c2) (dS:m.cC.length<=c3) (hl:m.bQ.length<=c4):
 Rd 63 #[.agg #[aq m.bT c0,au m.ch aw,m.dw,m.dp,m.dF,ak m.cz c2,al m.cC c3,aF m.bQ c4]] w λe ah=>e= .returned v/\Below w w ah:=
 avh m.bT m.ch m.dw m.dp m.dF m.cz m.cC m.bQ aq au ak al aF c0 aw c2 c3 c4 h0 h1 h2 h3 h4 v az w bk bg bp bj cD ev cL
theorem Hq (m:di) (h0:m.bT) (h1:m.ch) (h2:m.cz) (h3:m.cC) (h4:m.bQ) (v:Bool) (az:qW m= v) {w:World} (bk:aX 7 aM.cells w aq m.bT) (bg:aX 3 aZ.cells w au m.ch) (bp:aX 1 cE w ak m.cz) (bj:aX 3 aW.cells w al m.cC) (cD:aX 3 Out.cells w aF m.bQ) (ev:m.bT.length<=c0) (eU:m.ch.length<=aw) (cL:m.cz.length<=c2) (dS:m.cC.length<=c3) (hl:m.bQ.length<=c4):
 Rd 107 #[.agg #[aq m.bT c0,au m.ch aw,m.dw,m.dp,m.dF,ak m.cz c2,al m.cC c3,aF m.bQ c4]] w λe ah=>e= .returned v/\Below w w ah:=
 azZ m.bT m.ch m.dw m.dp m.dF m.cz m.cC m.bQ aq au ak al aF c0 aw c2 c3 c4 h0 h1 h2 h3 h4 v az w bk bg bp bj cD ev cL
theorem ahd {n:Int} {o:Out} (av:os[k]? =some o) (h:(o.mover == n)= false):jy os n (k + 1)= jy os n k:=by simp [jy,av,h]
theorem ahe {n:Int} {o:Out} (av:os[k]? =some o) (h:(o.mover == n)= true):jy os n (k + 1)= ((jy os n k).1 + 1,(jy os n k).2 + (if o.jv then 1 else 0)):=by simp [jy,av,h]
theorem alj (h:v:=by
 exact XY (v:= .tuple #[(0:Int),(0:Int),false]) (by simp [results,Tryz.results177,go_sem]) rfl ⟨rfl,(ai U ao)⟩):v:=h
theorem akP (h:v:=by
 go_wp2
 go_roundw
 case rel=>exact⟨k + 1,by omega,by go_num,by rw [fL.o],by rw [fL.o];simp,ai AW (bP _ _),ai aB (bP _ _)⟩
 case measure=>simp [intOf];omega):v:=h
theorem avw (m:di) (aq au ak al aF:QR) (c0 aw c2 c3 c4:Nat) (h0:m.bT) (h1:m.ch) (h2:m.cz) (h3:m.cC) (h4:m.bQ) (n:Int) (v:Value) (az:Bp m n= v) (w:World) (bk:aX 7 aM.cells w aq m.bT) (bg:aX 3 aZ.cells w au m.ch) (bp:aX 1 cE w ak m.cz) (bj:aX 3 aW.cells w al m.cC) (cD:aX 3 Out.cells w aF m.bQ) (ev:m.bT.length<=c0) (eU:m.ch.length<=aw) (cL:m.cz.length<=c2) (dS:m.cC.length<=c3) (hl:m.bQ.length<=c4):
 Rd 177 #[.agg #[aq m.bT c0,au m.ch aw,m.dw,m.dp,m.dF,ak m.cz c2,al m.cC c3,aF m.bQ c4],n] w λe ah=>e= .returned (v)/\Below w w ah:=by
 subst az
 cases aB:qW m
 .have cI:=I aB
  go_in
  go_upto_region 1 with fail
  refine dh λaO ar aC=>?_
  obtain⟨bk,bg,bp,bj,cD⟩:=Xv bk bg bp bj cD ar;have U:=ar;have df:=aC.aH
  go_wp2_with fail
  refine (Hk m h0 h1 h2 h3 h4 _ cI.o (bk.ad ao) (bg.ad ao) (bp.ad ao) (bj.ad ao) (cD.ad ao) ev eU cL dS hl).mono ?_
  rintro e aI ⟨rfl,aQ⟩
  have aj:=be aO aQ;replace U:=ai U aj;clear df
  go_wp2
  simp only [Bp,cI.o]
  exact alj
 have cI:=I aB;clear aB
 cases bq:fy n
 .replace bq:=I bq
  go_in
  go_upto_region 1 with fail
  refine dh λaO ar aC=>?_
  obtain⟨bk,bg,bp,bj,cD⟩:=Xv bk bg bp bj cD ar;have U:=ar;have df:=aC.aH
  go_wp2_with fail
  refine (Hk m h0 h1 h2 h3 h4 _ cI.o (bk.ad ao) (bg.ad ao) (bp.ad ao) (bj.ad ao) (cD.ad ao) ev eU cL dS hl).mono ?_
  rintro e aI ⟨rfl,aQ⟩
  have aj:=be aO aQ;replace U:=ai U aj;clear df
  go_wp2_with fail
  refine (kx _ bq.o _).mono ?_
  rintro e w0 ⟨rfl,h0⟩
  rw [h0]
  clear h0 w0
  go_wp2
  simp only [Bp,cI.o,bq.o]
  exact alj
 replace bq:=I bq
 go_in
 go_upto_region 1 with fail
 refine dh λaO ar aC=>?_
 obtain⟨bk,bg,bp,bj,cD⟩:=Xv bk bg bp bj cD ar;have U:=ar;have df:=aC.aH
 go_wp2_with fail
 refine (Hk m h0 h1 h2 h3 h4 _ cI.o (bk.ad ao) (bg.ad ao) (bp.ad ao) (bj.ad ao) (cD.ad ao) ev eU cL dS hl).mono ?_
 rintro e aI ⟨rfl,aQ⟩
 have aj:=be aO aQ;replace U:=ai U aj;replace cD:=cD.ad aj;replace aC:=aC.to aj;replace df:=aC.aH
 go_wp2_with fail
 refine (kx _ bq.o _).mono ?_
 rintro e w0 ⟨rfl,h0⟩
 rw [h0]
 clear h0 w0
 go_wp2
 clear df
 go_loopw [7,8,22] (λa b i wr=>∃k:Nat,k<=m.bQ.length/\i= .int .i64 k/\a= .int .i64 (jy m.bQ n k).1/\b= .int .i64 (jy m.bQ n k).2/\Below w w wr/\Below aI aI wr) (λ_ _ i _=>m.bQ.length - (intOf i).toNat)
 case atStart=>exact⟨0,Xd _,rfl,rfl,rfl,U,Wt _ _⟩
 case round=>
  obtain⟨k,ax,rfl,rfl,rfl,AW,aB⟩:=hrel
  by_cases bC:k < m.bQ.length
  .obtain⟨eV,iA,x,rfl,eN,av,bO⟩:=cD.at_ aB bC
   obtain⟨iZ,eY,lz⟩:=x
   have cG:=bO 0 _ rfl;have dJ:=bO 1 _ rfl;have dt:=bO 2 _ rfl
   simp only [XW] at cG
   have g0:=cG (aD.self _);have g1:=dJ (aD.self _);have g2:=dt (aD.self _)
   simp only [aD.self] at g0
   simp only [aD.self] at g1
   simp only [aD.self] at g2
   replace av:=I av;clear bO cG dJ dt;have lY:=aGv m.bQ n k
   cases hm:(eY == n)
   .have ew:(eY != n)= true:=by simp [bne,hm]
    have aP:=ahd av.o hm;have fL:=I aP;clear aP
    go_wp2
    go_roundw
    case rel=>exact⟨k + 1,by omega,by go_num,by rw [fL.o],by rw [fL.o],ai AW (bP _ _),ai aB (bP _ _)⟩
    case measure=>simp [intOf];omega
   .have ew:(eY != n)= false:=by simp [bne,hm]
    have aP:=ahe av.o hm;have fL:=I aP;clear aP av
    cases lz
    .exact akP
    .exact akP
  .obtain rfl:k= m.bQ.length:=KK
   go_wp2
   simp only [Bp,cI.o,bq.o]
   exact XY (v:= .tuple #[.int .i64 (jy m.bQ n m.bQ.length).1,.int .i64 (jy m.bQ n m.bQ.length).2,true]) (by simp [results,Tryz.results177,go_sem]) rfl ⟨rfl,AW⟩
theorem alk (h:v:=by
 exact XY (v:= .tuple #[(0:Int),(0:Int),false]) (by simp [results,Tryz.results196,go_sem]) rfl ⟨rfl,(ai U ao)⟩):v:=h
theorem alr (h:v:=by
 go_wp2
 go_round
 case rel=>exact⟨k + 1,by omega,by go_num,by rw [fL.o],by rw [fL.o];simp⟩
 case measure=>simp [intOf];omega):v:=h
theorem aAl (m:di) (aq au ak al aF:QR) (c0 aw c2 c3 c4:Nat) (h0:m.bT) (h1:m.ch) (h2:m.cz) (h3:m.cC) (h4:m.bQ) (n:Int) (v:Value) (az:Bp m n= v) (w:World) (bk:aX 7 aM.cells w aq m.bT) (bg:aX 3 aZ.cells w au m.ch) (bp:aX 1 cE w ak m.cz) (bj:aX 3 aW.cells w al m.cC) (cD:aX 3 Out.cells w aF m.bQ) (ev:m.bT.length<=c0) (eU:m.ch.length<=aw) (cL:m.cz.length<=c2) (dS:m.cC.length<=c3) (hl:m.bQ.length<=c4):
 Rd 196 #[.agg #[aq m.bT c0,au m.ch aw,m.dw,m.dp,m.dF,ak m.cz c2,al m.cC c3,aF m.bQ c4],n] w λe ah=>e= .returned (v)/\Below w w ah:=by
 subst az
 cases aB:qW m
 .replace aB:=I aB
  go_in
  go_upto_region 1 with fail
  refine dh λaO ar aC=>?_
  obtain⟨bk,bg,bp,bj,cD⟩:=Xv bk bg bp bj cD ar;have U:=ar;have df:=aC.aH
  go_wp2_with fail
  refine (Hq m h0 h1 h2 h3 h4 _ aB.o (bk.ad ao) (bg.ad ao) (bp.ad ao) (bj.ad ao) (cD.ad ao) ev eU cL dS hl).mono ?_
  rintro e aI ⟨rfl,aQ⟩
  have aj:=be aO aQ;replace U:=ai U aj;clear df
  go_wp2
  simp only [Bp,aB.o]
  exact alk
 replace aB:=I aB
 cases bq:fy n
 .replace bq:=I bq
  go_in
  go_upto_region 1 with fail
  refine dh λaO ar aC=>?_
  obtain⟨bk,bg,bp,bj,cD⟩:=Xv bk bg bp bj cD ar;have U:=ar;have df:=aC.aH
  go_wp2_with fail
  refine (Hq m h0 h1 h2 h3 h4 _ aB.o (bk.ad ao) (bg.ad ao) (bp.ad ao) (bj.ad ao) (cD.ad ao) ev eU cL dS hl).mono ?_
  rintro e aI ⟨rfl,aQ⟩
  have aj:=be aO aQ;replace U:=ai U aj;clear df
  go_wp2_with fail
  refine (km _ bq.o _).mono ?_
  rintro e w0 ⟨rfl,h0⟩
  rw [h0]
  clear h0 w0
  go_wp2
  simp only [Bp,aB.o,bq.o]
  exact alk
 replace bq:=I bq
 go_in
 go_upto_region 1 with fail
 refine dh λaO ar aC=>?_
 obtain⟨bk,bg,bp,bj,cD⟩:=Xv bk bg bp bj cD ar;have U:=ar;have df:=aC.aH
 go_wp2_with fail
 refine (Hq m h0 h1 h2 h3 h4 _ aB.o (bk.ad ao) (bg.ad ao) (bp.ad ao) (bj.ad ao) (cD.ad ao) ev eU cL dS hl).mono ?_
 rintro e aI ⟨rfl,aQ⟩
 have aj:=be aO aQ;replace U:=ai U aj;replace cD:=cD.ad aj;replace aC:=aC.to aj;replace df:=aC.aH
 go_wp2_with fail
 refine (km _ bq.o _).mono ?_
 rintro e w0 ⟨rfl,h0⟩
 rw [h0]
 clear h0 w0
 go_wp2
 go_loop [7,8,9] (λa b i=>∃k:Nat,k<=m.bQ.length/\i= .int .i64 k/\a= .int .i64 (jy m.bQ n k).1/\b= .int .i64 (jy m.bQ n k).2) (λ_ _ i=>m.bQ.length - (intOf i).toNat)
 case atStart=>exact⟨0,Xd _,rfl,rfl,rfl⟩
 case round=>
  obtain⟨k,ax,rfl,rfl,rfl⟩:=hrel
  by_cases bC:k < m.bQ.length
  .obtain⟨eV,iA,x,rfl,eN,av,bO⟩:=cD.at_ (Wt _ _) bC
   obtain⟨iZ,eY,lz⟩:=x
   have cG:=bO 0 _ rfl;have dJ:=bO 1 _ rfl;have dt:=bO 2 _ rfl
   simp only [XW] at cG
   have g0:=cG (aD.self _);have g1:=dJ (aD.self _);have g2:=dt (aD.self _)
   simp only [aD.self] at g0
   simp only [aD.self] at g1
   simp only [aD.self] at g2
   replace av:=I av;clear bO cG dJ dt;have lY:=aGv m.bQ n k
   cases hm:(eY == n)
   .have aP:=ahd av.o hm
    have fL:=I aP;clear aP
    go_wp2
    go_round
    case rel=>exact⟨k + 1,by omega,by go_num,by rw [fL.o],by rw [fL.o]⟩
    case measure=>simp [intOf];omega
   .have aP:=ahe av.o hm
    have fL:=I aP;clear aP av
    cases lz
    .exact alr
    .exact alr
  .obtain rfl:k= m.bQ.length:=KK
   go_wp2
   simp only [Bp,aB.o,bq.o]
   exact XY (v:= .tuple #[.int .i64 (jy m.bQ n m.bQ.length).1,.int .i64 (jy m.bQ n m.bQ.length).2,true]) (by simp [results,Tryz.results196,go_sem]) rfl ⟨rfl,(ai U ao)⟩
def mr (os:List Out):Nat->List Int
 | 0=>[]
 | k + 1=>match os[k]? with | some o=>if o.jv then mr os k ++ [o.rule] else mr os k | none=>mr os k
theorem Gh (os:List Out):∀k,(mr os k).length<=k
 | 0=>XZ _
 | k + 1=>by
  have:=Gh os k
  unfold mr
  split
  .split <;> simp <;> omega
  .omega
def rT (m:di):List Int:=if qW m then mr m.bQ m.bQ.length else []
theorem acj {o:Out} (av:os[k]? =some o) (h:o.jv= true):mr os (k + 1)= mr os k ++ [o.rule]:=by simp [mr,av,h]
theorem aci {o:Out} (av:os[k]? =some o) (h:o.jv= false):mr os (k + 1)= mr os k:=by simp [mr,av,h]
theorem aly (h:v:=by
 go_roundw
 case rel=>exact⟨k + 1,by omega,by go_num,by rw [nG.o];exact fb,zz⟩
 case measure=>simp [intOf];omega):v:=h
theorem auu (m:di) (aq au ak al aF:QR) (c0 aw c2 c3 c4:Nat) (h0:m.bT) (h1:m.ch) (h2:m.cz) (h3:m.cC) (h4:m.bQ) (w:World) (bk:aX 7 aM.cells w aq m.bT) (bg:aX 3 aZ.cells w au m.ch) (bp:aX 1 cE w ak m.cz) (bj:aX 3 aW.cells w al m.cC) (cD:aX 3 Out.cells w aF m.bQ) (ev:m.bT.length<=c0) (eU:m.ch.length<=aw) (cL:m.cz.length<=c2) (dS:m.cC.length<=c3) (hl:m.bQ.length<=c4):
 Rd 176 #[.agg #[aq m.bT c0,au m.ch aw,m.dw,m.dp,m.dF,ak m.cz c2,al m.cC c3,aF m.bQ c4]] w λe ah=>∃A c,e= .returned (.tuple #[.slice A (rT m).length c,.bool (qW m)])/\bn w 3 1 cE ah (.slice A (rT m).length c) (rT m)/\Below w w ah:=by
 obtain⟨i0,bo,dP,dZ,dV⟩:=Xo vK
 cases aB:qW m
 .have cI:=I aB
  have bl:rT m= []:=by simp [rT,aB]
  rw [bl]
  clear aB bl
  go_in
  go_upto_region 1 with fail
  refine dh λaO ar aC=>?_
  obtain⟨bk,bg,bp,bj,cD⟩:=Xv bk bg bp bj cD ar;have U:=ar;have df:=aC.aH
  go_wp2_with fail
  refine (Hk m h0 h1 h2 h3 h4 _ cI.o (bk.ad ao) (bg.ad ao) (bp.ad ao) (bj.ad ao) (cD.ad ao) ev eU cL dS hl).mono ?_
  rintro e aI ⟨rfl,aQ⟩
  have aj:=be aO aQ;replace U:=ai U aj;clear df
  go_wp2
  go_ret2
  exact⟨none,0,rfl,bn.nil,(ai U ao)⟩
 .have cI:=I aB
  have bl:rT m= mr m.bQ m.bQ.length:=by simp [rT,aB]
  rw [bl]
  clear aB bl
  go_in
  go_upto_region 1 with fail
  refine dh λaO ar aC=>?_
  obtain⟨bk,bg,bp,bj,cD⟩:=Xv bk bg bp bj cD ar;have U:=ar;have df:=aC.aH
  go_wp2_with fail
  refine (Hk m h0 h1 h2 h3 h4 _ cI.o (bk.ad ao) (bg.ad ao) (bp.ad ao) (bj.ad ao) (cD.ad ao) ev eU cL dS hl).mono ?_
  rintro e aI ⟨rfl,aQ⟩
  have aj:=be aO aQ;replace U:=ai U aj;replace cD:=cD.ad aj;replace aC:=aC.to aj;replace df:=aC.aH;have iM:=bn.made (f:=cE) (sz:=1) aI (B:=aI) (XZ _) 3;have uu:=U.size;have jt:=aC.lt
  go_wp2
  clear df
  go_loopw [4,14] (λy i wr=>∃k:Nat,k<=m.bQ.length/\i= .int .i64 k/\bn aI 3 1 cE wr y (mr m.bQ k)/\Below aI aI wr) (λ_ i _=>m.bQ.length - (intOf i).toNat)
  case atStart=>exact⟨0,Xd _,rfl,iM,bP _ _⟩
  case round=>
   obtain⟨k,ax,rfl,aV,aB⟩:=hrel
   by_cases bC:k < m.bQ.length
   .obtain⟨eV,iA,x,rfl,eN,av,bO⟩:=cD.at_ aB bC
    obtain⟨iZ,eY,lz⟩:=x
    have cG:=bO 0 _ rfl;have dJ:=bO 1 _ rfl;have dt:=bO 2 _ rfl
    simp only [XW] at cG
    have g0:=cG (aD.self _);have g1:=dJ (aD.self _);have g2:=dt (aD.self _)
    simp only [aD.self] at g0
    simp only [aD.self] at g1
    simp only [aD.self] at g2
    replace av:=I av;clear bO cG dJ dt
    go_upto_region 7 with fail
    have uA:=aV.alloc (.cells #[iZ,eY,lz] 163);have bz:=ay.new wr 163 #[iZ,eY,lz];have hW:=aB.alloc aB.size (.cells #[iZ,eY,lz] 163)
    generalize wr.alloc (.cells #[iZ,eY,lz] 163)= gH at *
    clear g0 g1 g2 aV;have cA:=(bz.cell 0).trans (show _= some (.int .i64 iZ) from rfl);have cB:=(bz.cell 2).trans (show _= some (.bool lz) from rfl)
    cases lz
    .have de:=aci av.o rfl
     exact aHt
    .have de:=acj av.o rfl
     have nG:=I de;clear de
     go_wp2_with ((at_builtin;refine ke rfl _ _ 38 rfl aI 3 i0 _ 1 8 Tryz.underlying38 bo dP dZ dV rfl WG cE fR qU _ (mr m.bQ k) rfl (uA.alloc _) ⟨gH,0,none⟩ 1 iZ rfl (aX.one _ _) (by have:=Gh m.bQ k;unfold maxLen;omega) (by have:=Gh m.bQ k;omega) ZP ?_;intro v4 bH fb ed mx))
     have zz:Below aI aI bH:=(hW.alloc hW.size _).grown ed ZP (λq bt=>(uA.lt q bt).1)
     exact aly
   .obtain rfl:k= m.bQ.length:=KK
    obtain⟨Y,iC,rfl,_,_,_⟩:=aV.form fR
    go_wp2
    go_ret2
    exact⟨Y,iC,rfl,aV.base uu,ai U aB⟩
theorem azA (m:di) (aq au ak al aF:QR) (c0 aw c2 c3 c4:Nat) (h0:m.bT) (h1:m.ch) (h2:m.cz) (h3:m.cC) (h4:m.bQ) (w:World) (bk:aX 7 aM.cells w aq m.bT) (bg:aX 3 aZ.cells w au m.ch) (bp:aX 1 cE w ak m.cz) (bj:aX 3 aW.cells w al m.cC) (cD:aX 3 Out.cells w aF m.bQ) (ev:m.bT.length<=c0) (eU:m.ch.length<=aw) (cL:m.cz.length<=c2) (dS:m.cC.length<=c3) (hl:m.bQ.length<=c4):
 Rd 192 #[.agg #[aq m.bT c0,au m.ch aw,m.dw,m.dp,m.dF,ak m.cz c2,al m.cC c3,aF m.bQ c4]] w λe ah=>∃A c,e= .returned (.tuple #[.slice A (rT m).length c,.bool (qW m)])/\bn w 3 1 cE ah (.slice A (rT m).length c) (rT m)/\Below w w ah:=by
 obtain⟨i0,bo,dP,dZ,dV⟩:=Xo vK
 cases aB:qW m
 .have cI:=I aB
  have bl:rT m= []:=by simp [rT,aB]
  rw [bl]
  clear aB bl
  go_in
  go_upto_region 1 with fail
  refine dh λaO ar aC=>?_
  obtain⟨bk,bg,bp,bj,cD⟩:=Xv bk bg bp bj cD ar;have U:=ar
  obtain⟨dD,dc,dr,eb,eL,gw,hN,gB⟩:=aC.aH
  go_upto_region 2 with fail
  have aV:=bn.made (f:=cE) (sz:=1) aO (B:=aO) (XZ _) 3;have Jq:=U.size;have ec:Below aO aO (aO.alloc (.cells #[] 3)):=bP _ _
  generalize MU:aO.alloc (.cells #[] 3)= ic at *
  have fW:=I aV;clear aV;have aj:=be aO ec;replace U:=ai U aj;obtain⟨bk,bg,bp,bj,cD⟩:=Xv bk bg bp bj cD aj;replace aC:=aC.to aj;clear dD dc dr eb eL gw hN gB
  obtain⟨dD,dc,dr,eb,eL,gw,hN,gB⟩:=aC.aH
  go_wp2_with fail
  refine (Hq m h0 h1 h2 h3 h4 _ cI.o (bk.ad ao) (bg.ad ao) (bp.ad ao) (bj.ad ao) (cD.ad ao) ev eU cL dS hl).mono ?_
  rintro e bw ⟨rfl,bG⟩
  have aY:=be ic bG;replace U:=ai U aY;clear dD dc dr eb eL gw hN gB;have aV:=fW.o.aK aY
  go_wp2
  go_ret2
  exact⟨_,0,rfl,aV.base Jq,(ai U ao)⟩
 .have cI:=I aB
  have bl:rT m= mr m.bQ m.bQ.length:=by simp [rT,aB]
  rw [bl]
  clear aB bl
  go_in
  go_upto_region 1 with fail
  refine dh λaO ar aC=>?_
  obtain⟨bk,bg,bp,bj,cD⟩:=Xv bk bg bp bj cD ar;have U:=ar
  obtain⟨dD,dc,dr,eb,eL,gw,hN,gB⟩:=aC.aH
  go_upto_region 2 with fail
  have aV:=bn.made (f:=cE) (sz:=1) aO (B:=aO) (XZ _) 3;have gi:=I aC;have UJ:=I cD;have ve:=I U;have Jq:=U.size;have ec:Below aO aO (aO.alloc (.cells #[] 3)):=bP _ _
  generalize MU:aO.alloc (.cells #[] 3)= ic at *
  have fW:=I aV;clear aV;have aj:=be aO ec;obtain⟨bk,bg,bp,bj,cD⟩:=Xv bk bg bp bj cD aj;replace aC:=aC.to aj;clear dD dc dr eb eL gw hN gB
  obtain⟨dD,dc,dr,eb,eL,gw,hN,gB⟩:=aC.aH
  go_wp2_with fail
  refine (Hq m h0 h1 h2 h3 h4 _ cI.o (bk.ad ao) (bg.ad ao) (bp.ad ao) (bj.ad ao) (cD.ad ao) ev eU cL dS hl).mono ?_
  rintro e bw ⟨rfl,bG⟩
  have aY:=be ic bG;replace aC:=aC.to aY;clear dD dc dr eb eL gw hN gB
  obtain⟨dD,dc,dr,eb,eL,gw,hN,gB⟩:=aC.aH
  have aV:=fW.o.aK aY;have arQ:=ai ec aY
  go_wp2
  clear dD dc dr eb eL gw hN gB aC bk bg bp bj cD U
  go_loopw [4,5] (λy i wr=>∃k:Nat,k<=m.bQ.length/\i= .int .i64 k/\bn aO 3 1 cE wr y (mr m.bQ k)/\Below aO aO wr) (λ_ i _=>m.bQ.length - (intOf i).toNat)
  case atStart=>exact⟨0,Xd _,rfl,aV,arQ⟩
  case round=>
   clear aV
   obtain⟨k,ax,rfl,aV,aB⟩:=hrel
   have aC:=gi.o.ad aB gi.o.lt
   by_cases bC:k < m.bQ.length
   .obtain⟨eV,iA,x,yV,eN,av,bO⟩:=UJ.o.at_ aB bC
    obtain⟨iZ,eY,lz⟩:=x
    have gB:=(aC.cell 7).trans (show _= some (aF m.bQ c4) from rfl)
    subst yV
    have cG:=bO 0 _ rfl;have dJ:=bO 1 _ rfl;have dt:=bO 2 _ rfl
    simp only [XW] at cG
    have g0:=cG (aD.self _);have g1:=dJ (aD.self _);have g2:=dt (aD.self _)
    simp only [aD.self] at g0
    simp only [aD.self] at g1
    simp only [aD.self] at g2
    replace av:=I av;clear bO cG dJ dt
    cases lz
    .have de:=aci av.o rfl
     have nG:=I de;clear de
     go_wp2
     go_roundw
     case rel=>exact⟨k + 1,by omega,by go_num,by rw [nG.o];exact aV,aB⟩
     case measure=>simp [intOf];omega
    .have de:=acj av.o rfl
     have nG:=I de;clear de;have uA:=aV;have hW:=aB
     go_wp2_with ((at_builtin;refine ke rfl _ _ 38 rfl aO 3 i0 _ 1 8 Tryz.underlying38 bo dP dZ dV rfl WG cE fR qU _ (mr m.bQ k) rfl (uA.alloc _) ⟨wr,0,none⟩ 1 iZ rfl (aX.one _ _) (by have:=Gh m.bQ k;unfold maxLen;omega) (by have:=Gh m.bQ k;omega) ZP ?_;intro v4 bH fb ed mx))
     have zz:Below aO aO bH:=(hW.alloc hW.size _).grown ed ZP (λq bt=>(uA.lt q bt).1)
     exact aly
   .obtain rfl:k= m.bQ.length:=KK
    obtain⟨Y,iC,rfl,_,_,_⟩:=aV.form fR
    have gB:=(aC.cell 7).trans (show _= some (aF m.bQ c4) from rfl)
    go_wp2
    go_ret2
    exact⟨Y,iC,rfl,aV.base Jq,ai ve.o aB⟩
theorem BF {w:World}   {o:Oper}   (qm:o.guard= none) (s x:Operand) (t:TypeId)
  (dn:o.op= .call {callee:= .builtin .append,args:=#[s,x],argTypes:=#[t,t]})
  (B:Nat) (e:TypeId) (i:TypeInfo) (z:Value) (sz bytes:Nat) (cJ:P.underlying t= some (.slice e)) (bo:P.info? e= some i) (cF:i.zero= some z)
  (zF:i.size= sz) (sJ:i.bytes= bytes) (zM:z.cells.size= sz) (gd:0 < sz) {T:Type} (f:T->List Value) (hf:∀y,(f y).length= sz) (lL:∀y u,u ∈ f y->u.oneCell'= true)
  (g:Nat) (aP:a.eval s= .slice g 0 0) (cy:ay w g e #[]) (qG:B<=g) (ak:QR) (c2:Nat) (ys:List T) (av:a.eval x= .slice ak ys c2) (bB:aX sz f w ak ys) (bl:ak= none->ys= []/\c2= 0)
  (h63:ys.length<=maxLen) (zm:ys.length * bytes<=140737488355328)
  (h:∀bS dq ah,bn B e sz f ah (.slice (some ⟨bS,0,none⟩) ys dq) ys->Below w w ah->wpList P ops Q rest (a.put o.dst (.slice (some ⟨bS,0,none⟩) ys dq)) ah):wpList P ops Q (o ::rest) a w:=by
 cases ak with
 | some eH=>exact aki qm s x t dn B e i z sz bytes cJ bo cF zF sJ zM gd f hf lL g aP cy qG eH c2 ys av bB h63 zm (λbS dq ah h1 h2 _=>h bS dq ah h1 h2)
 | none=>
  obtain⟨rfl,rfl⟩:=bl rfl
  have aV:bn B e sz f w (g 0 0) ([]:List T):=bn.Ou (xs:=[]) (cap:=0) cy qG (XZ _) (Xd _) Wn (λi x av=>by simp at av) hf
  exact wpList_append_own_none qm s x t dn B e i sz cJ bo (g 0 0) 0 [] aP aV av (h g 0 w aV (Wt _ _))
theorem Mh (v:Value):DF [v,(),(),(),()]:=by
 have bq:∀k:Nat,some k≠(Value.slice none 0 0).ownBlock:=λk h=>by cases h
 have hm:∀k:Nat,(Value.slice none 0 0).ownBlock≠some k:=λk h=>by cases h
 unfold DF
 refine Yv (λu hu k _=>?_) (Yv (λu hu k h=>absurd h (hm k)) (Yv (λu hu k h=>absurd h (hm k)) (Yv (λu hu k h=>absurd h (hm k)) (Yv (λu hu=>by simp at hu) List.Pairwise.nil))))
 simp only [Xl,YT,or_false,or_self] at hu
 subst hu;exact bq k
def hZ (rs:List aM) (tu se:Int):Bool:=xf tu se && jR rs
def hR (rs:List aM) (tu se:Int):di:=if hZ rs tu se then ⟨rs,[],tu,se,0,[],[],[]⟩ else ⟨[],[],0,0,0,[],[],[]⟩
theorem Se (h:hZ rs tu se= true):hR rs tu se=⟨rs,[],tu,se,0,[],[],[]⟩:=by simp [hR,h]
theorem Om (h:hZ rs tu se= false):hR rs tu se=⟨[],[],0,0,0,[],[],[]⟩:=by simp [hR,h]
theorem oT (x:aM):(aM.cells x).length= 7:=rfl
theorem alo (h:v:=by
 intro u hu
 simp only [aM.cells,Xl,YT,or_false] at hu
 rcases hu with rfl | rfl | rfl | rfl | rfl | rfl | rfl <;> rfl):v:=h
theorem aGo (x:aM):∀u,u ∈ aM.cells x->u.oneCell'= true:=by
 exact alo
def Sg (rs:List aM) (e:TypeId):mZ (Nat×Nat) where
 par:=λn=>match n with
  | 2=>[0]
  | _=>[]
 val:=λn p=>match n with
  | 0=> .slice (some ⟨p.1,0,none⟩) 0 0
  | 2=> .slice (some ⟨p.1,0,none⟩) rs.length p.2
  | _=>undef
 post:=λn bA p dy V=>match n with
  | 0=>dy.heap.size= p.1/\ay V p.1 e #[]
  | 2=>bn (bA 0).1 e 7 aM.cells V (.slice (some ⟨p.1,0,none⟩) rs.length p.2) rs
  | _=>True
theorem akI (h:v:=by
 go_in
 go_upto_region 1 with fail
 refine dh λaO ar J=>?_
 replace bB:=bB.ad ar;have U:=ar;have af:=J.aH;have hC:=J.lt
 go_wp2_with fail
 refine (aiM tu se gj.o _).mono ?_
 rintro e aI ⟨rfl,aQ⟩
 have aj:=be aO aQ;replace U:=ai U aj;replace bB:=bB.ad aj;replace J:=J.to aj;replace af:=J.aH;have Pj:=aj.size
 go_upto_region 2 with fail
 refine dh λyp aY ag=>?_
 replace bB:=bB.ad aY;replace U:=ai U aY;have aJ:=ag.aL;replace J:=J.to aY;replace af:=J.aH
 go_wp2_with fail
 refine (zO bq _ cI.o (bB.ad ao)).mono ?_
 rintro e bH ⟨rfl,db⟩
 have cj:=be yp db;replace U:=ai U cj;replace bB:=bB.ad cj;replace ag:=ag.to cj;replace aJ:=ag.aL;replace J:=J.to cj;replace af:=J.aH;have eg:=J.iX;have mY:=ag.lt;have eE:=J.lt
 go_wp2
 clear aJ af
 refine iO 0 λcP aE=>?_
 replace U:=aE.aN U;replace ag:=aE.dj ag;replace J:=aE.iV J;have Fm:=aE.sz;have aJ:=ag.aL;have af:=J.aH
 refine XY (v:= .tuple #[.agg #[(),(),(0:Int),(0:Int),(0:Int),(),(),()],false]) aGH rfl ?_
 rw [Om jM.o,jM.o]
 exact⟨none,0,none,0,none,0,none,0,none,0,rfl,bn.nil,bn.nil,bn.nil,bn.nil,bn.nil,Mh _,U⟩):v:=h
theorem Xn {Q:Act->Prop} (h:wpQuiet P O C Q [] a):wpQuiet P O C Q [] a:=h
theorem XV {w:World} (h:wpList P O Q [x0] a w):wpList P O Q [x0] a w:=h
theorem Xp {Q:Act->Prop} (h:wpQuiet P O C Q [x0] a):wpQuiet P O C Q [x0] a:=h
theorem YB {Q:Act->Prop} (h:wpQuiet P O C Q [x0,x1] a):wpQuiet P O C Q [x0,x1] a:=h
theorem aiO (A:QR) (c:Nat) (rs:List aM) (bq:rs) (tu se:Int) (w:World) (bB:aX 7 aM.cells w A rs) (bl:A= none->rs= []/\c= 0) (gn:rs.length<=c):
 Rd 78 #[A rs c,tu,se] w λe ah=>∃bN d0 bZ d1 aU d2 bd d3 bI d4,e= .returned (.tuple #[.agg #[.slice bN (hR rs tu se).bT.length d0,.slice bZ (hR rs tu se).ch.length d1,.int .i64 (hR rs tu se).dw,.int .i64 (hR rs tu se).dp,.int .i64 (hR rs tu se).dF,.slice aU (hR rs tu se).cz.length d2,.slice bd (hR rs tu se).cC.length d3,.slice bI (hR rs tu se).bQ.length d4],.bool (hZ rs tu se)])/\bn w 89 7 aM.cells ah (.slice bN (hR rs tu se).bT.length d0) (hR rs tu se).bT/\bn w 115 3 aZ.cells ah (.slice bZ (hR rs tu se).ch.length d1) (hR rs tu se).ch/\bn w 3 1 cE ah (.slice aU (hR rs tu se).cz.length d2) (hR rs tu se).cz/\bn w 214 3 aW.cells ah (.slice bd (hR rs tu se).cC.length d3) (hR rs tu se).cC/\bn w 163 3 Out.cells ah (.slice bI (hR rs tu se).bQ.length d4) (hR rs tu se).bQ/\DF [.slice bN (hR rs tu se).bT.length d0,.slice bZ (hR rs tu se).ch.length d1,.slice aU (hR rs tu se).cz.length d2,.slice bd (hR rs tu se).cC.length d3,.slice bI (hR rs tu se).bQ.length d4]/\Below w w ah:=by
 obtain⟨i0,bo,dP,dZ,dV⟩:=Xo JK
 have gu:=I bB;have ub:=I bl;clear bl
 cases hQ:jR rs
 .have cI:=I hQ
  have jM:Hid (hZ rs tu se= false):=I (by simp [hZ,hQ]);clear hQ
  cases qN:xf tu se
  .have gj:=I qN;clear qN
   exact akI
  .have gj:=I qN;clear qN
   go_in
   go_upto_region 1 with fail
   refine dh λaO ar J=>?_
   replace bB:=bB.ad ar;have U:=ar;have af:=J.aH
   go_wp2_with fail
   refine (aGt tu se gj.o _).mono ?_
   rintro e aI ⟨rfl,aQ⟩
   have aj:=be aO aQ;replace U:=ai U aj;replace bB:=bB.ad aj;replace J:=J.to aj;replace af:=J.aH
   go_upto_region 2 with fail
   refine dh λyp aY ag=>?_
   replace bB:=bB.ad aY;replace U:=ai U aY;replace J:=J.to aY;replace af:=J.aH
   go_wp2_with fail
   refine (zO bq _ cI.o (bB.ad ao)).mono ?_
   rintro e bH ⟨rfl,db⟩
   have cj:=be yp db;replace U:=ai U cj;replace J:=J.to cj;replace af:=J.aH;have eg:=J.iX
   go_wp2
   clear af
   refine iO 0 λcP aE=>?_
   replace U:=aE.aN U;replace J:=aE.iV J;have af:=J.aH
   refine XY (v:= .tuple #[.agg #[(),(),(0:Int),(0:Int),(0:Int),(),(),()],false]) aGH rfl ?_
   rw [Om jM.o,jM.o]
   exact⟨none,0,none,0,none,0,none,0,none,0,rfl,bn.nil,bn.nil,bn.nil,bn.nil,bn.nil,Mh _,U⟩
 cases qN:xf tu se
 .have gj:=I qN
  have cI:=I hQ;have jM:Hid (hZ rs tu se= false):=I (by simp [hZ,qN]);clear qN hQ
  exact akI
 .have gj:=I qN
  have cI:=I hQ;have jM:Hid (hZ rs tu se= true):=I (by simp [hZ,qN,hQ]);clear qN hQ
  go_in
  go_upto_region 1 with fail
  refine dh λaO ar J=>?_
  replace bB:=bB.ad ar;have U:=ar;have af:=J.aH;have hC:=J.lt
  go_wp2_with fail
  refine (aGt tu se gj.o _).mono ?_
  rintro e aI ⟨rfl,aQ⟩
  have aj:=be aO aQ;replace U:=ai U aj;replace bB:=bB.ad aj;replace J:=J.to aj;replace af:=J.aH;have Pj:=aj.size
  go_upto_region 2 with fail
  refine dh λyp aY ag=>?_
  replace bB:=bB.ad aY;replace U:=ai U aY;have aJ:=ag.aL;replace J:=J.to aY;replace af:=J.aH
  go_wp2_with fail
  refine (zO bq _ cI.o (bB.ad ao)).mono ?_
  rintro e bH ⟨rfl,db⟩
  have cj:=be yp db;replace U:=ai U cj;replace ag:=ag.to cj;replace aJ:=ag.aL;replace J:=J.to cj;replace af:=J.aH;have pY:=J.lt;have Be:=U.size;have bl:=ub.o
  obtain⟨Fx,MK⟩ :∃X:World->Prop,∀V,X V↔(Below w w V/\ay V aI 41 #[tu,se,(0:Int),(),()]):=⟨_,λ_=>Xt⟩
  have qd:=I MK;clear MK
  haveI:Nonempty (cM Fx):=⟨⟨bH,((qd.o _).2 ⟨U,ag⟩)⟩⟩
  clear af;replace aJ:=ay.kG (λK:cM Fx=>((qd.o _).1 K.holds).2)
  go_wp2
  refine DB (Sg rs 89) Fx [([],0),([1],2)] [3,4] [([],5)] [6] PV PV ((qd.o _).2 ⟨U.drew,ag⟩) (λW fz h k=>((qd.o _).2 ⟨((qd.o _).1 h).1.trans (k.mono ((qd.o _).1 h).1.size),((qd.o _).1 h).2.ad k ((qd.o _).1 h).2.lt⟩)) ?_
  intro bA
  refine iP (some 24) rfl (.slice (some ⟨(bA 0).1,0,none⟩) 0 0) rfl λhE eu=>?_
  refine Xn ?_
  refine VF ?_
  refine⟨λk fQ=>?_,eu _ ?_⟩
  .refine XV ?_
   go_wp2
   exact hz ⟨(_,0),rfl,bP _ _,rfl,ay.new _ _ _⟩
  simp only [Act.put]
  go_simp
  refine iP (some 26) rfl (.slice (some ⟨(bA 2).1,0,none⟩) rs.length (bA 2).2) rfl λhE eu=>?_
  refine Xp ?_
  repeat go_big_quiet_step (fail)
  refine VF ?_
  refine⟨λk fQ=>?_,eu _ ?_⟩
  .refine XV ?_
   obtain⟨gZ,uf,pn,⟨lJ,lb⟩,ld⟩:=fQ 0 (by simp [Sg])
   have jG:=lb.to ld;have pa:=I (gu.o.ad ((qd.o _).1 k.holds).1);replace jG:=I jG;clear lb lJ pn ld fQ
   go_wp2_with ((at_builtin;refine BF rfl _ _ 29 rfl (bA 0).1 89 i0 _ 7 48 Tryz.underlying29 bo dP dZ dV rfl WG aM.cells oT aGo (bA 0).1 rfl jG.o (XZ _) A c rs rfl pa.o bl Xz KK ?_;intro bS dq ah fW fM))
   first | exact hz ⟨(bS,dq),rfl,fM,fW⟩ | exact hz ⟨bS,dq,rfl,fM,fW⟩
  simp only [Act.put]
  go_simp
  refine tU ?_
  refine YB ?_
  repeat go_big_quiet_step (fail)
  refine VF ?_
  intro dy V W aC cv
  have ix:bn (bA 0).1 89 7 aM.cells (V 2) (.slice (some ⟨(bA 2).1,0,none⟩) rs.length (bA 2).2) rs:=aC.post 2 Wn
  obtain⟨Oy,_⟩ :(dy 0).heap.size= (bA 0).1/\ay (V 0) (bA 0).1 89 #[]:=aC.post 0 Wn
  have NB:=(aC.oj 0 Wn).size;have aV:=(ix.aK (aC.aK 2 Wn)).base (B':=bH) (by rw [<- Oy];exact NB);clear aJ;have gm:Below bH bH W:=ai ao (aC.whole 2 Wn).rI;replace U:=ai U gm;replace ag:=ag.to gm;replace J:=J.to gm;have af:=J.aH;clear aC ix NB Oy cv
  generalize bA 0= cG at *
  generalize bA 2= dt at *
  obtain⟨g9,c9⟩:=dt
  refine gA λff da=>?_
  refine Xn ?_
  refine VF ?_
  refine XV ?_
  have eg:=J.iX
  go_wp2
  clear af
  refine iO 0 λEd jL=>?_
  replace U:=jL.aN U;replace ag:=jL.dj ag;replace J:=jL.iV J;replace aV:=aV.cS jL (λk ax=>by first | exact aHC k ax | (have:=aV.lt k ax;omega));have af:=J.aH
  refine gb (((qd.o _).2 ⟨U,ag⟩)) (da _ _ ?_)
  refine ky ?_
  refine Xp ?_
  repeat go_big_quiet_step (fail)
  refine VF ?_
  go_wp2
  refine XY (v:= .tuple #[.agg #[g9 rs c9,(),tu,se,(0:Int),(),(),()],true]) aGH rfl ?_
  rw [Se jM.o,jM.o]
  exact⟨some ⟨g9,0,none⟩,c9,none,0,none,0,none,0,none,0,rfl,aV.base KK,bn.nil,bn.nil,bn.nil,bn.nil,Mh _,U⟩
theorem aqb (A:QR) (c:Nat) (xs:List Int) (bq:xs) (bl:A= none->xs= []/\c= 0) (w:World) (bB:aX 1 cE w A xs):
 Rd 245 #[A xs c] w λe ah=>∃mg dq,e= .returned (.slice mg xs dq)/\bn w 3 1 cE ah (.slice mg xs dq) xs/\Below w w ah:=by
 obtain⟨i0,bo,dP,dZ,dV⟩:=Xo vK
 exact amP
theorem hI (x:aW):(aW.cells x).length= 3:=rfl
theorem yg (x:aW):∀u,u ∈ aW.cells x->u.oneCell'= true:=by
 intro u hu
 simp only [aW.cells,Xl,YT,or_false] at hu
 rcases hu with rfl | rfl | rfl <;> rfl
structure kq (B:Nat) (w:World) (aU:Option Addr) (d2:Nat) (bd:Option Addr) (d3:Nat) (ws:List Int) (ae:List aW):Prop where
 fc:bn B 3 1 cE w (.slice aU ws.length d2) ws
 fE:bn B 214 3 aW.cells w (.slice bd ae.length d3) ae
 ap:∀k,(Value.slice aU ws.length d2).ownBlock= some k->some k≠(Value.slice bd ae.length d3).ownBlock
theorem kq.aK {w:World} (h:kq B w aU d2 bd d3 ws ae) (aB:Below w w ah):kq B ah aU d2 bd d3 ws ae:=⟨h.fc.aK aB,h.fE.aK aB,h.ap⟩
theorem kq.base {B':Nat} {w:World} (h:kq B w aU d2 bd d3 ws ae) (aB:B'<=B):kq B' w aU d2 bd d3 ws ae:=⟨h.fc.base aB,h.fE.base aB,h.ap⟩
theorem MC {w:World}:kq B w none 0 none 0 [] []:=⟨bn.nil,bn.nil,λk h=>by cases h⟩
theorem Ol (h2:ws) (h3:ae) (n2:ak= none->ws= []/\c2= 0) (n3:al= none->ae= []/\c3= 0) {w:World} (bp:aX 1 cE w ak ws) (bj:aX 3 aW.cells w al ae):
 Rd 166 #[.agg #[tu,se,sp,ak ws c2,al ae c3]] w λe ah=>∃aU d2 g3 d3,e= .returned (.agg #[tu,se,sp,.slice aU ws d2,.slice (some ⟨g3,0,none⟩) ae d3])/\kq w ah aU d2 (some ⟨g3,0,none⟩) d3 ws ae/\Below w w ah:=by
 obtain⟨i0,bo,dP,dZ,dV⟩:=Xo Hl
 refine sa ?_ bp bj n2 n3;clear bp bj n2 n3;intro bp bj n2 n3
 go_in
 go_upto_region 1 with fail
 refine fU λaO ar ag J=>?_
 have U:=ar;have aJ:=ag.aL;have af:=J.aL;have hC:=J.lt
 go_wp2_with fail
 refine (aqb ak c2 ws h2 n2.o _ (bp.o.ad (ai U ao))).mono ?_
 rintro e aI ⟨aU,d2,rfl,bh,aQ⟩
 have aj:=be aO aQ;replace U:=ai U aj;replace ag:=ag.to aj;replace aJ:=ag.aL;replace J:=J.to aj;replace af:=J.aL;have aqW:=ag.frozen 3;have mY:=ag.lt;have eE:=J.lt
 go_upto_region 2 with fail
 clear aJ af
 refine kL 3 λkE vY=>?_
 replace U:=vY.aN U;replace ag:=vY.HK ag;replace J:=vY.dj J;replace bh:=bh.cS vY (λk ax=>by first | exact eo k ax | (have:=bh.lt k ax;omega));have aJ:=ag.aL;have af:=J.aL
 have kS:∀k,(Value.slice aU ws d2).ownBlock= some k->k < kE.heap.size:=λk ax=>(bh.lt k ax).2
 have mY:=ag.lt;have eE:=J.lt;replace kS:=I kS;have aoF:=I (λe=>(bj.o.ad (ai U (bP kE (.cells #[] e)))):∀e:TypeId,aX 3 aW.cells (kE.alloc (.cells #[] e)) al ae);have xT:=n3.o
 go_upto_region 3 with ((at_builtin;refine BF rfl _ _ 39 rfl kE 214 i0 _ 3 24 Tryz.underlying39 bo dP dZ dV rfl WG aW.cells hI yg kE rfl (ay.new _ _ _) (XZ _) al c3 ae rfl (aoF.o _) xT Xz KK ?_;intro g3 d3 bw bf bG;have vv:Below kE kE bw:=ai (bP _ _) bG;have VM:=ag.to vv;have kH:=VM.frozen 4;have aqQ:=(VM.cell 4).trans (show _= some (Value.slice al ae c3) from rfl)))
 clear VM kH aqQ xT;have aY:=be kE bG;replace U:=ai U aY;replace bh:=bh.aK aY;replace ag:=ag.to aY;replace aJ:=ag.aL;replace J:=J.to aY;replace af:=J.aL;have pv:=(bf.lt g3 rfl).1;clear aJ af
 refine kL 4 λEd jL=>?_
 replace U:=jL.aN U;replace ag:=jL.aHR ag;replace J:=jL.dj J;replace bh:=bh.cS jL (λk ax=>by first | exact eo k ax | (have:=bh.lt k ax;omega));replace bf:=bf.cS jL (λk ax=>by first | exact dL k ax | (have:=bf.lt k ax;omega))
 have aJ:=ag.aL;have af:=J.aL;have eg:=J.iW
 go_wp2
 clear aJ af
 refine hs 0 λcP aE=>?_
 replace U:=aE.aN U;replace J:=aE.iK J;replace bh:=bh.cS aE (λk ax=>by first | exact eo k ax | (have:=bh.lt k ax;omega));replace bf:=bf.cS aE (λk ax=>by first | exact dL k ax | (have:=bf.lt k ax;omega));have af:=J.aL
 exact hV ⟨aU,d2,g3,d3,rfl,⟨bh.base KK,bf.base KK,λk ax e=>by have h5:=kS.o k ax;have h6:k= g3:=Wx e;omega⟩,U⟩ (by simp [results,Tryz.results166,go_sem,af])
theorem aCa {w:World}   {o:Oper}   (qm:o.guard= none) (s x:Operand) (t:TypeId)
  (dn:o.op= .call {callee:= .builtin .append,args:=#[s,x],argTypes:=#[t,t]})
  (B:Nat) (e:TypeId) (i:TypeInfo) (z:Value) (sz bytes:Nat) (cJ:P.underlying t= some (.slice e)) (bo:P.info? e= some i) (cF:i.zero= some z)
  (zF:i.size= sz) (sJ:i.bytes= bytes) (zM:z.cells.size= sz) (gd:0 < sz) {T:Type} (f:T->List Value) (hf:∀y,(f y).length= sz) (lL:∀y u,u ∈ f y->u.oneCell'= true)
  (g:Nat) (aP:a.eval s= .slice g 0 0) (cy:ay w g e #[]) (qG:B<=g) (ak:QR) (c2:Nat) (ys:List T) (av:a.eval x= .slice ak ys c2) (bB:aX sz f w ak ys) (bl:ak= none->ys= []/\c2= 0)
  (h63:ys.length<=maxLen) (zm:ys.length * bytes<=140737488355328)
  (h:∀bS dq ah,bn B e sz f ah (.slice (some ⟨bS,0,none⟩) ys dq) ys->Below w w ah->(bS= g\/w.heap.size<=bS)->wpList P ops Q rest (a.put o.dst (.slice (some ⟨bS,0,none⟩) ys dq)) ah):wpList P ops Q (o ::rest) a w:=by
 cases ak with
 | some eH=>exact aki qm s x t dn B e i z sz bytes cJ bo cF zF sJ zM gd f hf lL g aP cy qG eH c2 ys av bB h63 zm (λbS dq ah h1 h2 h3=>h bS dq ah h1 h2 h3)
 | none=>
  obtain⟨rfl,rfl⟩:=bl rfl
  have aV:bn B e sz f w (g 0 0) ([]:List T):=bn.Ou (xs:=[]) (cap:=0) cy qG (XZ _) (Xd _) Wn (λi x av=>by simp at av) hf
  exact wpList_append_own_none qm s x t dn B e i sz cJ bo (g 0 0) 0 [] aP aV av (h g 0 w aV (Wt _ _) (.inl rfl))
def agF (ws:List Int) (ae:List aW):mZ (Option Addr×Nat) where
 par:=λn=>match n with
  | 12=>[9]
  | _=>[]
 val:=λn p=>match n with
  | 8=> .slice p.1 ws.length p.2
  | 9=> .slice p.1 0 0
  | 12=> .slice p.1 ae.length p.2
  | _=>undef
 post:=λn bA p dy V=>match n with
  | 8=>bn dy.heap.size 3 1 cE V (.slice p.1 ws.length p.2) ws
  | 9=>p.1= some ⟨dy.heap.size,0,none⟩/\ay V dy.heap.size 214 #[]
  | 12=>∃g bS,(bA 9).1= some ⟨g,0,none⟩/\p.1= some ⟨bS,0,none⟩/\(bS= g\/dy.heap.size<=bS)/\bn g 214 3 aW.cells V (.slice p.1 ae.length p.2) ae
  | _=>True
theorem ZR {Q:Act->Prop} {x2 x3 x4 x5 x6 x7:Oper} (h:wpQuiet P O C Q [x0,x1,x2,x3,x4,x5,x6,x7] a):wpQuiet P O C Q [x0,x1,x2,x3,x4,x5,x6,x7] a:=h
theorem NZ (h2:ws) (h3:ae) (n2:ak= none->ws= []/\c2= 0) (n3:al= none->ae= []/\c3= 0) {w:World} (bp:aX 1 cE w ak ws) (bj:aX 3 aW.cells w al ae):
 Rd 183 #[.agg #[tu,se,sp,ak ws c2,al ae c3]] w λe ah=>∃aU d2 bd d3,e= .returned (.agg #[tu,se,sp,.slice aU ws d2,.slice bd ae d3])/\kq w ah aU d2 bd d3 ws ae/\Below w w ah:=by
 obtain⟨i0,bo,dP,dZ,dV⟩:=Xo Hl
 refine sa ?_ bp bj n2 n3;clear bp bj n2 n3;intro bp bj n2 n3
 go_in
 go_upto_region 1 with fail
 refine fU λaO ar ag J=>?_
 have U:=ar;have aJ:=ag.aL;have af:=J.aL;have hC:=J.lt;have xT:=n3.o
 obtain⟨yy,Ep⟩ :∃X:World->Prop,∀V,X V↔(Below w w V/\ay V w 41 #[tu,se,sp,ak ws c2,al ae c3]):=⟨_,λ_=>Xt⟩
 have kr:=I Ep;clear Ep
 haveI:Nonempty (cM yy):=⟨⟨aO,((kr.o _).2 ⟨U,ag⟩)⟩⟩
 clear af;replace aJ:=ay.kG (λK:cM yy=>((kr.o _).1 K.holds).2)
 go_wp2
 refine DB (agF ws ae) yy [([0,1,2,3,4,5,6,7],8),([],9),([10,11],12)] [13] [([],14)] [] PV PV ((kr.o _).2 ⟨U.drew,ag⟩) (λW fz h k=>((kr.o _).2 ⟨((kr.o _).1 h).1.trans (k.mono ((kr.o _).1 h).1.size),((kr.o _).1 h).2.ad k ((kr.o _).1 h).2.lt⟩)) ?_
 intro bA
 refine iP (some 11) rfl (.slice (bA 8).1 ws.length (bA 8).2) rfl λhE eu=>?_
 refine ZR ?_
 repeat go_big_quiet_step (fail)
 refine VF ?_
 refine⟨λk fQ=>?_,eu _ ?_⟩
 .refine XV ?_
  go_wp2_with fail
  refine (XM ak c2 ws h2 n2.o _ (bp.o.ad ((kr.o _).1 k.holds).1)).mono ?_
  rintro e eB ⟨aU,d2,rfl,bh,eJ⟩
  go_wp2
  exact hz ⟨(aU,d2),rfl,eJ,bh⟩
 simp only [Act.put]
 go_simp
 refine iP (some 12) rfl (.slice (bA 9).1 0 0) rfl λhE eu=>?_
 refine Xn ?_
 refine VF ?_
 refine⟨λk fQ=>?_,eu _ ?_⟩
 .refine XV ?_
  go_wp2
  exact hz ⟨(some ⟨k.world.heap.size,0,none⟩,0),rfl,bP _ _,rfl,ay.new _ _ _⟩
 simp only [Act.put]
 go_simp
 refine iP (some 15) rfl (.slice (bA 12).1 ae.length (bA 12).2) rfl λhE eu=>?_
 refine YB ?_
 repeat go_big_quiet_step (fail)
 refine VF ?_
 refine⟨λk fQ=>?_,eu _ ?_⟩
 .refine XV ?_
  obtain⟨gZ,uf,pn,⟨lJ,lb⟩,ld⟩:=fQ 9 (by simp [agF])
  have jG:=lb.to ld;have iN:(bA 9).1= some ⟨gZ,0,none⟩:=lJ;have pa:=I (bj.o.ad ((kr.o _).1 k.holds).1);replace jG:=I jG;clear lb lJ pn ld fQ
  rw [iN]
  replace iN:=I iN
  go_wp2_with ((at_builtin;refine aCa rfl _ _ 39 rfl gZ 214 i0 _ 3 24 Tryz.underlying39 bo dP dZ dV rfl WG aW.cells hI yg gZ rfl jG.o (XZ _) al c3 ae rfl pa.o xT Xz KK ?_;intro bS dq ah fW fM GJ))
  first | exact hz ⟨(some ⟨bS,0,none⟩,dq),rfl,fM,gZ,bS,iN.o,rfl,GJ,fW⟩ | exact hz ⟨some ⟨bS,0,none⟩,dq,rfl,fM,gZ,bS,iN.o,rfl,GJ,fW⟩
 simp only [Act.put]
 go_simp
 refine tU ?_
 refine Xp ?_
 repeat go_big_quiet_step (fail)
 refine VF ?_
 intro dy V W aC cv
 have VZ:bn (dy 8) 3 1 cE (V 8) (.slice (bA 8).1 ws.length (bA 8).2) ws:=aC.post 8 Wn
 obtain⟨g,bS,e9,e12,CK,pT⟩ :∃g bS,(bA 9).1= some ⟨g,0,none⟩/\(bA 12).1= some ⟨bS,0,none⟩/\(bS= g\/(dy 12).heap.size<=bS)/\bn g 214 3 aW.cells (V 12) (.slice (bA 12).1 ae.length (bA 12).2) ae:=aC.post 12 Wn
 obtain⟨adb,sE⟩ :(bA 9).1= some ⟨(dy 9),0,none⟩/\ay (V 9) (dy 9) 214 #[]:=aC.post 9 Wn
 have Mv:(dy 9).heap.size= g:=by rw [adb] at e9;exact Xc Addr.block (Wx e9)
 have en:g < (V 9).heap.size:=Mv ▸ sE.lt;have aiy:=(aC.oj 8 Wn).size;have aiz:=(aC.oj 9 Wn).size;have a1:=aC.apart 8 Wn 9 Wn WG;have a2:=aC.apart 8 Wn 12 Wn WG;have bh:=(VZ.aK (aC.aK 8 Wn)).base (B':=aO) aiy;have bf:=(pT.aK (aC.aK 12 Wn)).base (B':=aO) (by rw [<- Mv];exact aiz)
 have kS:∀k,(Value.slice (bA 8).1 ws.length (bA 8).2).ownBlock= some k->some k≠(Value.slice (bA 12).1 ae.length (bA 12).2).ownBlock:=λk ax e=>by
  have h5:=VZ.lt k ax
  rw [e12] at e
  have h6:k= bS:=Wx e;have h10:=pT.lt bS (by rw [e12];rfl)
  rcases CK with h | h <;> rcases a1 with h1 | h1 <;> rcases a2 with h2 | h2 <;> omega
 have oc:=I kS;clear aJ;have aY:Below aO aO W:=ai ao (aC.whole 8 Wn).rI;replace U:=ai U aY;replace ag:=ag.to aY;replace J:=J.to aY;have af:=J.aL;clear aC VZ pT sE kS cv a1 a2 aiy aiz en Mv e9 adb e12 CK
 generalize bA 8= axT at *
 generalize bA 12= axS at *
 obtain⟨aU,d2⟩:=axT
 obtain⟨bd,d3⟩:=axS
 refine gA λff da=>?_
 refine Xn ?_
 refine VF ?_
 refine XV ?_
 have eg:=J.iW
 go_wp2
 clear af
 refine hs 0 λcP aE=>?_
 replace U:=aE.aN U;replace ag:=aE.dj ag;replace J:=aE.iK J;replace bh:=bh.cS aE (λk ax=>by first | exact eo k ax | (have:=bh.lt k ax;omega));replace bf:=bf.cS aE (λk ax=>by first | exact dL k ax | (have:=bf.lt k ax;omega));have af:=J.aL
 refine gb (((kr.o _).2 ⟨U,ag⟩)) (da _ _ ?_)
 refine ky ?_
 refine Xn ?_
 refine VF ?_
 go_wp2
 exact hV ⟨aU,d2,bd,d3,rfl,⟨bh.base KK,bf.base KK,oc.o⟩,U⟩ (by simp [results,Tryz.results183,go_sem,af])
theorem SI (w:World) (acL aAu ty elem:TypeId) (i:TypeInfo) (g o m acK aqi:Nat) (a:Addr) (aiF azD:Nat) (cur:Array Value) (t:TypeId) (cs:List Value)
 (hu:P.underlying acL= some (.slice elem)) (bo:P.info? elem= some i) (cy:ay w g t cur) (hm:Nat.min aiF acK= m) (bq:cs.length= m * i.size)
 (Hg:∀j v,cs[j]? =some v->w.cell? (a.add j)= some v) (CJ:o + cs.length<=cur.size) (h1:∀v ∈ cs,v.oneCell'= true):
  (Builtin.copy_ #[acL,aAu] ty #[.slice (some ⟨g,o,none⟩) acK aqi,.slice (some a) aiF azD]).run P w =
   .ok (goInt m) (w.setRow g (cur.toList.take o ++ cs ++ cur.toList.drop (o + cs.length)).toArray):=by
 have aT:=run_loadCells_list (P:=P) w a cs Hg;have jI:=run_storeCells_at (P:=P) g o t cs 0 cur w cy (by simpa using CJ) h1
 simp [Builtin.copy_,run_underlying hu,Builtin.lenOf,Builtin.firstCells,sizeOf,typeInfo,bo,hm,<- bq,aT,jI]
theorem Ti (w:World)   {o:Oper}   (qm:o.guard= none) (d s:Operand) (t gr:TypeId)
  (dn:o.op= .call {callee:= .builtin .copy,args:=#[d,s],argTypes:=#[t,gr]}) (v u:Value) (cr:a.eval d= v) (aP:a.eval s= u) {mW:Value} 
  (bu:(Builtin.copy_ #[t,gr] o.type #[v,u]).run P w= .ok mW ah) (h:wpList P ops Q rest (a.put o.dst mW) ah):wpList P ops Q (o ::rest) a w:=
 wpList_plain qm λ_ fj=>by
  unfold Oper.wp execOp
  simp only [dn,resolve,invoke,builtin,Sem.run_bind,Sem.run_pure,Result.andThen_ok,List.map_toArray,List.map_cons,List.map_nil,cr,aP,bu]
  exact fj _ _ h
theorem awa {T:Type} {f:T->List Value} (hf:∀y,(f y).length= sz) (xs:List T) (i:Nat) (bo:i<=xs.length) (s:T) (cur Eh:List Value) (N:Nat) (aT:cur.length= N * sz) (bU:xs.length + 1<=N)
 (tG:cur.take (i * sz)= (xs.take i).flatMap f) (h2:Eh= cur.take (i * sz) ++ f s ++ (xs.drop i).flatMap f ++ cur.drop ((xs.length + 1) * sz)):
  Eh.length= N * sz/\Eh.take ((xs.length + 1) * sz)= (xs.take i ++ s ::xs.drop i).flatMap f:=by
 have e1:((xs.drop i).flatMap f).length= (xs.length - i) * sz:=by rw [nQ hf];simp
 have e2:((xs.take i).flatMap f).length= i * sz:=by rw [nQ hf,YA,Nat.min_eq_left bo]
 have e3:(xs.length + 1) * sz= i * sz + sz + (xs.length - i) * sz:=by
  conv=>lhs;rw [show xs.length + 1= i + 1 + (xs.length - i) by omega,Nat.add_mul,Nat.add_mul,Nat.one_mul]
 have e4:(xs.length + 1) * sz<=N * sz:=ZA sz bU
 have e5:(cur.take (i * sz) ++ f s ++ (xs.drop i).flatMap f).length= (xs.length + 1) * sz:=by
  rw [tG];simp only [Xu,e1,e2,hf];omega
 refine⟨?_,?_⟩
 .rw [h2,Xu,e5,YQ,aT];omega
 .rw [h2,List.take_left' e5,tG]
  simp
theorem aga {T:Type} {f:T->List Value} (hf:∀y,(f y).length= sz) (xs:List T) (i:Nat) (bo:i<=xs.length) (s:T) (cur Eh:List Value) (N g:Nat) (W:World) (aT:cur.length= N * sz) (bU:xs.length + 1<=N) (asi:N<=maxLen)
 (tG:cur.take (i * sz)= (xs.take i).flatMap f) (h2:Eh= cur.take (i * sz) ++ f s ++ (xs.drop i).flatMap f ++ cur.drop ((xs.length + 1) * sz)) (bz:ay W g e Eh.toArray) (qG:B<=g):
  bn B e sz f W (g (xs.length + 1) N) (xs.take i ++ s ::xs.drop i):=by
 obtain⟨h3,h4⟩:=awa hf xs i bo s cur Eh N aT bU tG h2
 have hlen:(xs.take i ++ s ::xs.drop i).length= xs.length + 1:=Xq
 unfold bn
 rw [hlen]
 refine⟨by rw [nQ hf,hlen],.inr ⟨g,N,Eh.toArray,rfl,qG,bz,bU,asi,by simp [h3],?_⟩⟩
 simpa using h4
theorem Vu {T:Type} {f:T->List Value} (hf:∀y,(f y).length= sz):∀(xs:List T) (k:Nat),(xs.take k).flatMap f= (xs.flatMap f).take (k * sz)
 | [],k=>by simp
 | x ::xs,0=>by simp
 | x ::xs,k + 1=>by
  have eR:=Vu hf xs k
  have ax:(k + 1) * sz= sz + k * sz:=by rw [Nat.succ_mul];omega
  simp only [List.take_succ_cons,Yd]
  rw [eR,ax,List.take_append,hf,YO (l:=f x) (by rw [hf];omega)]
  congr 2
  omega
theorem bn.parts {T:Type} {f:T->List Value} {w:World} {n c:Nat} {xs:List T} (h:bn B e sz f w (g n c) xs):
  n= xs.length/\B<=g/\xs.length<=c/\c<=maxLen/\∃cur:Array Value,ay w g e cur/\cur.size= c * sz/\cur.toList.take (xs.length * sz)= xs.flatMap f:=by
 rcases h.2 with ⟨h0,_⟩ | ⟨bS,cap,cur,az,bz,gl,vC,pV,cK,Bg⟩
 .cases h0
 .injection az with e1 e2 e3
  cases e1;subst e3
  exact⟨e2,bz,vC,pV,cur,gl,cK,Bg⟩
theorem ay.shape {w:World} {t:TypeId} {cs:Array Value} (h:ay w g t cs):w.shape? g= some (t,cs.size):=by
 unfold ay at h
 simp [World.shape?,h]
theorem amH (h:v:=by
 go_in
 go_wp2_with ((at_builtin;refine ke rfl _ _ 39 rfl B 214 i0 _ 3 24 Tryz.underlying39 bo dP dZ dV rfl WG aW.cells hI yg _ xs rfl aV.o ⟨jS,0,none⟩ 1 s rfl Wc.o Xz KK qH ?_;intro v4 bH fb ed mx))
 have fw:w.grownBy bH (some g):=ed;clear ed mx;have aef:=fb
 obtain⟨bS,cap,cs,rfl,_,_,_,_,_,_⟩:=fb.whole hI Wn
 go_wp2
 go_ret
 have aT:(xs ++ [s]).length= xs.length + 1:=Wn
 rw [aT] at aef
 exact⟨bS,cap,by rw [aT];rfl,aef,fw⟩):v:=h
theorem avW (B:Nat) (g c:Nat) (xs:List aW) (bq:xs.length<=1048575) (s:aW) (jS:Nat) (w:World) (qH:B<=w.heap.size)
 (aV:bn B 214 3 aW.cells w (g xs c) xs) (iq:ay w jS 214 (aW.cells s).toArray):
 Rd 331 #[g xs c,.int .i64 (xs.length:Int),jS 1 1] w λe ah=>
  ∃bS dq,e= .returned (.slice (some ⟨bS,0,none⟩) (xs.length + 1) dq)/\bn B 214 3 aW.cells ah (.slice (some ⟨bS,0,none⟩) (xs.length + 1) dq) (xs ++ [s])/\w.grownBy ah (some g):=by
 obtain⟨i0,bo,dP,dZ,dV⟩:=Xo Hl
 have Wc:aX 3 aW.cells w (some ⟨jS,0,none⟩) [s]:=λ_=>⟨jS,0,rfl,iq.lt,λi y hy j u hu=>by
  have h0:i= 0:=by have:=(Xg.1 hy).1;simp at this;omega
  subst h0;simp at hy;subst hy
  rw [Xy,YF]
  exact (iq.cell _).trans (by simpa using hu)⟩
 have aey:xs.length<=c:=aV.parts.2.2.1;replace Wc:=I Wc;replace aV:=I aV;clear iq
 by_cases po:c= xs.length
 .subst po
  exact amH
 .skip
  exact amH
theorem aAW:∀w,(Go.sizeOf 214).run Tryz.prog w= .ok 3 w:=λ_=>by kernel_rfl
theorem avY (B:Nat) (g c:Nat) (xs:List aW) (bq:xs.length<=1048575) (i:Nat) (Ns:i < xs.length) (aFW:xs.length + 1<=c) (s:aW) (jS:Nat) (w:World) (ew:jS≠g)
 (aV:bn B 214 3 aW.cells w (g xs c) xs) (iq:ay w jS 214 (aW.cells s).toArray):
 Rd 331 #[g xs c,.int .i64 (i:Int),jS 1 1] w λe ah=>
  ∃bS dq,e= .returned (.slice (some ⟨bS,0,none⟩) (xs.length + 1) dq)/\bn B 214 3 aW.cells ah (.slice (some ⟨bS,0,none⟩) (xs.length + 1) dq) (xs.take i ++ s ::xs.drop i)/\w.grownBy ah (some g):=by
 obtain⟨i0,bo,dP,dZ,dV⟩:=Xo Hl
 obtain⟨_,qG,_,pV,cur,bz,cK,CU⟩:=aV.parts
 have aDQ:c<=9223372036854775807:=pV
 have tG:cur.toList.take (i * 3)= (xs.take i).flatMap aW.cells:=by
  rw [Vu hI,<- CU,List.take_take]
  congr 1;omega
 have Hg:∀j v,((xs.drop i).flatMap aW.cells)[j]? =some v->w.cell? (Addr.add ⟨g,i * 3,none⟩ j)= some v:=λj v az=>by
  have h1:=adw hI xs i j v az
  rw [<- CU,Yb] at h1
  split at h1
  .have e:Addr.add ⟨g,i * 3,none⟩ j=⟨g,i * 3 + j,none⟩:=by unfold Addr.add;split <;> simp_all
   rw [e,bz.cell]
   simpa using h1
  .cases h1
 have lK:((xs.drop i).flatMap aW.cells).length= (xs.length - i) * 3:=by rw [nQ hI];simp
 have MG:∀v ∈ (xs.drop i).flatMap aW.cells,v.oneCell'= true:=λu hu=>by obtain⟨y,_,hy⟩:=List.mem_flatMap.1 hu;exact yg y u hy
 have aFM:∀lx Gj,(callFunc 341 #[jS 1 1,.slice (some ⟨g,(i + 1) * 3,none⟩) lx Gj]).run Tryz.prog w= .ok (.value (.bool false)) w:=λlx Gj=>by
  rw [run_callFunc_extern Tryz.func341 PV PV PV (e:=Extern.SlicesOverlaps.overlaps #[39,39] #[4]) PV,
   Lib.run_overlaps_apart w 39 4 214 Tryz.underlying39 3 aAW ⟨jS,0,none⟩ ⟨g,(i + 1) * 3,none⟩ 1 1 lx Gj ew _ _ _ _ iq.shape bz.shape (by rw [cK];omega) (iq.frozen 0) (iq.frozen _)]
  rfl
 have rY:∀ty uk dT,(Builtin.copy_ #[39,39] ty #[.slice (some ⟨g,(i + 1) * 3,none⟩) (xs.length - i) uk,.slice (some ⟨g,i * 3,none⟩) (xs.length + 1 - i) dT]).run Tryz.prog w.drew= .ok (goInt ((xs.length - i:Nat):Int)) (w.drew.setRow g (cur.toList.take ((i + 1) * 3) ++ (xs.drop i).flatMap aW.cells ++ cur.toList.drop ((i + 1) * 3 + ((xs.drop i).flatMap aW.cells).length)).toArray):=λty uk dT=>
  SI w.drew _ _ ty 214 i0 g ((i + 1) * 3) (xs.length - i) (xs.length - i) uk ⟨g,i * 3,none⟩ (xs.length + 1 - i) dT cur 214 ((xs.drop i).flatMap aW.cells) Tryz.underlying39 bo bz Zs (by rw [lK,dZ]) Hg (by rw [lK,cK];omega) MG
 obtain⟨aw,hX⟩ :∃aw,aw= (cur.toList.take ((i + 1) * 3) ++ (xs.drop i).flatMap aW.cells ++ cur.toList.drop ((i + 1) * 3 + ((xs.drop i).flatMap aW.cells).length)):=⟨_,rfl⟩
 rw [<- hX] at rY
 have lf:cur.toList.length= c * 3:=by rw [YV];exact cK
 have iS:aw.length= c * 3:=by
  rw [hX];simp only [Xu,YA,YQ,lK,lf];omega
 have Em:ay (w.drew.setRow g aw.toArray) g 214 aw.toArray:=(show ay w.drew g 214 cur from bz).setRow;have fI:w.grownBy (w.drew.setRow g aw.toArray) (some g):=bx (bL (Wt _ _).drew (some g)) ME;have aek:ay (w.drew.setRow g aw.toArray) jS 214 (aW.cells s).toArray:=(fI.block jS iq.lt (λe=>ew (Wx e))).trans iq
 generalize w.drew.setRow g aw.toArray= na at *
 have nj:∀ty uk,(Builtin.copy_ #[39,39] ty #[.slice (some ⟨g,i * 3,none⟩) (xs.length + 1 - i) uk,jS 1 1]).run Tryz.prog na= .ok (goInt 1) (na.setRow g (aw.take (i * 3) ++ aW.cells s ++ aw.drop (i * 3 + (aW.cells s).length)).toArray):=λty uk=>by
  have h:=SI (P:=Tryz.prog) na 39 39 ty 214 i0 g (i * 3) 1 (xs.length + 1 - i) uk ⟨jS,0,none⟩ 1 1 aw.toArray 214 (aW.cells s) Tryz.underlying39 bo Em Zs (by rw [dZ];rfl)
   (λj v cc=>by
    have e:Addr.add ⟨jS,0,none⟩ j=⟨jS,j,none⟩:=by unfold Addr.add;split <;> simp_all
    rw [e,aek.cell];simpa using cc) (by rw [hI,List.size_toArray,iS];omega) (λv az=>yg s v az)
  simpa using h
 obtain⟨c2,kI⟩ :∃c2,c2= aw.take (i * 3) ++ aW.cells s ++ aw.drop (i * 3 + (aW.cells s).length):=⟨_,rfl⟩
 rw [<- kI] at nj
 have ov:c2= cur.toList.take (i * 3) ++ aW.cells s ++ (xs.drop i).flatMap aW.cells ++ cur.toList.drop ((xs.length + 1) * 3):=by
  have t1:(cur.toList.take ((i + 1) * 3)).length= (i + 1) * 3:=by rw [YA,lf];omega
  have a1:aw.take (i * 3)= cur.toList.take (i * 3):=by
   rw [hX,YX,List.take_append,t1,List.take_take,show min (i * 3) ((i + 1) * 3)= i * 3 by omega,show i * 3 - (i + 1) * 3= 0 by omega,List.take_zero,Yq]
  have a2:aw.drop (i * 3 + (aW.cells s).length)= (xs.drop i).flatMap aW.cells ++ cur.toList.drop ((xs.length + 1) * 3):=by
   rw [hI,show i * 3 + 3= (i + 1) * 3 by omega,hX,YX,List.drop_left' t1,lK,show (i + 1) * 3 + (xs.length - i) * 3= (xs.length + 1) * 3 by omega]
  rw [kI,a1,a2,YX,YX,YX]
 have iL:ay (na.setRow g c2.toArray) g 214 c2.toArray:=Em.setRow;have JE:=aga (B:=B) hI xs i KK s cur.toList c2 c g _ lf aFW pV tG ov iL qG;have eI:w.grownBy (na.setRow g c2.toArray) (some g):=bx fI ME;replace JE:=I JE;replace eI:=I eI;clear iL ov kI aek Em iS hX Hg tG CU MG lK fI lf
 have bD:¬(c= i):=KK
 have aQ:¬(c= i + 1):=KK
 replace rY:=I rY;replace nj:=I nj;replace aFM:=I aFM;clear aV bz iq
 haveI:Nonempty (cM (λ_:World=>True)):=⟨⟨w,trivial⟩⟩
 go_in
 go_wp2_with (simp only [aFM.o])
 refine nZ (λ_=>True) [([0,1,2,3,4,5,6,7],8)] [] PV PV trivial ?_
 refine gA λK fj=>?_
 refine ZR ?_
 repeat go_big_quiet_step (fail)
 refine VF ?_
 refine XV ?_
 go_wp2_with (with_reducible refine Ti _ rfl _ _ 39 39 rfl _ _ rfl rfl (rY.o _ _ _) ?_)
 refine gb (C:=λ_:World=>True) trivial (fj _ _ ?_)
 refine ky ?_
 refine VF ?_
 go_wp2_with (with_reducible refine Ti _ rfl _ _ 39 39 rfl _ _ rfl rfl (nj.o _ _) ?_)
 go_wp2
 go_ret
 exact⟨g,c,rfl,JE.o,eI.o⟩
theorem avX (B:Nat) (g:Nat) (xs:List aW) (bq:xs.length<=1048575) (i:Nat) (Ns:i < xs.length) (s:aW) (jS:Nat) (w:World) (qH:B<=w.heap.size)
 (aV:bn B 214 3 aW.cells w (g xs xs) xs) (iq:ay w jS 214 (aW.cells s).toArray):
 Rd 331 #[g xs xs,.int .i64 (i:Int),jS 1 1] w λe ah=>
  ∃bS dq,e= .returned (.slice (some ⟨bS,0,none⟩) (xs.length + 1) dq)/\bn B 214 3 aW.cells ah (.slice (some ⟨bS,0,none⟩) (xs.length + 1) dq) (xs.take i ++ s ::xs.drop i)/\w.grownBy ah (some g):=by
 obtain⟨i0,bo,dP,dZ,dV⟩:=Xo Hl
 obtain⟨_,qG,_,pV,cur,bz,cK,CU⟩:=aV.parts
 have afj:cur.toList.take (i * 3)= (xs.take i).flatMap aW.cells:=by
  rw [Vu hI,<- CU,List.take_take]
  congr 1;omega
 have Hg:∀(W:World),ay W g 214 cur->∀j v,((xs.drop i).flatMap aW.cells)[j]? =some v->W.cell? (Addr.add ⟨g,i * 3,none⟩ j)= some v:=λW cv j v az=>by
  have h1:=adw hI xs i j v az
  rw [<- CU,Yb] at h1
  split at h1
  .have e:Addr.add ⟨g,i * 3,none⟩ j=⟨g,i * 3 + j,none⟩:=by unfold Addr.add;split <;> simp_all
   rw [e,cv.cell]
   simpa using h1
  .cases h1
 have lK:((xs.drop i).flatMap aW.cells).length= (xs.length - i) * 3:=by rw [nQ hI];simp
 have Jx:((xs.take i).flatMap aW.cells).length= i * 3:=by rw [nQ hI,YA,Nat.min_eq_left KK]
 have MG:∀v ∈ (xs.drop i).flatMap aW.cells,v.oneCell'= true:=λu hu=>by obtain⟨y,_,hy⟩:=List.mem_flatMap.1 hu;exact yg y u hy
 have hold:(Builtin.firstCells i0.size i (g i xs.length)).run Tryz.prog w.drew= .ok ((xs.take i).flatMap aW.cells).toArray w.drew:=by
  rw [dZ]
  exact run_firstCells_some w.drew 3 i ⟨g,0,none⟩ i xs.length ((xs.take i).flatMap aW.cells) Jx (λj v cc=>by
   have e:Addr.add ⟨g,0,none⟩ j=⟨g,j,none⟩:=by unfold Addr.add;split <;> simp_all
   rw [e,(show ay w.drew g 214 cur from bz).cell]
   rw [<- afj,Yb] at cc
   split at cc
   .simpa using cc
   .cases cc)
 have zs:(xs.length:Int) + 1 - (i:Int)= ((xs.length + 1 - i:Nat):Int):=KK
 have JA:i + (xs.length + 1 - i)= xs.length + 1:=KK
 obtain⟨G,dd⟩ :∃G,G= grownCap w (xs.length + 1) xs.length 214:=⟨_,rfl⟩
 obtain⟨z,cF⟩ :∃z:Value,z= .agg #[(0:Int),(0:Int),(0:Int)]:=⟨_,rfl⟩
 rw [<- cF] at dP
 have RA:z.cells.size= 3:=by rw [cF];rfl
 obtain⟨ROW,QN⟩ :∃ROW:Array Value,ROW= ((xs.take i).flatMap aW.cells).toArray ++ Builtin.zeroCells z.cells (xs.length + 1 - i) ++ Builtin.zeroCells z.cells (G - (xs.length + 1)):=⟨_,rfl⟩
 have arU:xs.length + 1<=G:=by rw [dd];exact grownCap_ge w _ _ _
 have adX:G<=maxLen:=by rw [dd];exact grownCap_le_maxLen w _ _ _ Xz
 have aDz:G<=9223372036854775807:=adX
 have NF:∀ty,(Builtin.append_ #[39,3] ty #[g i xs.length,.int .i64 ((xs.length:Int) + 1 - (i:Int))]).run Tryz.prog w= .ok (.slice w (xs.length + 1) G) (w.drew.alloc (.cells ROW 214)):=λty=>by
  have h:=Lib.run_append_grow_zeros w 39 3 ty 214 i0 z .i64 .i64 Tryz.underlying39 Tryz.underlying3 bo dP (some ⟨g,0,none⟩) i xs.length ((xs.take i).flatMap aW.cells) hold (xs.length + 1 - i) KK KK KK KK (by rw [dV];omega) (by rw [dV,JA];exact growslice_fits KK KK)
  rw [JA,<- dd,<- QN] at h
  rw [zs]
  exact h
 have Wd:ROW.size= G * 3:=by
  rw [QN]
  simp only [Array.size_append,List.size_toArray,size_zeroCells,RA,Jx]
  omega
 have QO:ROW.toList.length= G * 3:=by rw [YV];exact Wd
 have tG:ROW.toList.take (i * 3)= (xs.take i).flatMap aW.cells:=by
  rw [QN]
  simp only [Array.toList_append,YX]
  exact List.take_left' Jx
 have Jj:ay (w.drew.alloc (.cells ROW 214)) w 214 ROW:=ay.new w.drew 214 ROW;have MI:Below w w (w.drew.alloc (.cells ROW 214)):=(Wt _ _).drew.alloc (XZ _) _;have Wg:=iq.to MI;have GK:=bz.to MI;have ath:=bz.lt;have auh:=iq.lt
 obtain⟨N,bU⟩ :∃N,N= w.heap.size:=⟨_,rfl⟩
 rw [<- bU] at NF Jj ath auh
 clear QN hold JA zs bz iq
 obtain⟨na,Jm⟩ :∃na,na= w.drew.alloc (.cells ROW 214):=⟨_,rfl⟩
 rw [<- Jm] at NF Jj MI Wg GK
 have rY:∀ty uk,(Builtin.copy_ #[39,39] ty #[.slice (some ⟨N,i * 3,none⟩) (xs.length + 1 - i) uk,jS 1 1]).run Tryz.prog na= .ok (goInt 1) (na.setRow N (ROW.toList.take (i * 3) ++ aW.cells s ++ ROW.toList.drop (i * 3 + (aW.cells s).length)).toArray):=λty uk=>by
  have h:=SI (P:=Tryz.prog) na 39 39 ty 214 i0 N (i * 3) 1 (xs.length + 1 - i) uk ⟨jS,0,none⟩ 1 1 ROW 214 (aW.cells s) Tryz.underlying39 bo Jj Zs (by rw [dZ];rfl)
   (λj v cc=>by
    have e:Addr.add ⟨jS,0,none⟩ j=⟨jS,j,none⟩:=by unfold Addr.add;split <;> simp_all
    rw [e,Wg.cell];simpa using cc) (by rw [hI,Wd];omega) (λv az=>yg s v az)
  simpa using h
 obtain⟨aw,hX⟩ :∃aw,aw= ROW.toList.take (i * 3) ++ aW.cells s ++ ROW.toList.drop (i * 3 + (aW.cells s).length):=⟨_,rfl⟩
 rw [<- hX] at rY
 have iS:aw.length= G * 3:=by
  rw [hX];simp only [Xu,YA,YQ,hI,QO];omega
 have Em:ay (na.setRow N aw.toArray) N 214 aw.toArray:=Jj.setRow;have fI:na.grownBy (na.setRow N aw.toArray) (some N):=ME;have WI:ay (na.setRow N aw.toArray) g 214 cur:=(fI.block g GK.lt (λe=>by have:=Wx e;omega)).trans GK
 obtain⟨kE,Jn⟩ :∃kE,kE= na.setRow N aw.toArray:=⟨_,rfl⟩
 rw [<- Jn] at rY Em fI WI
 have nj:∀ty uk dT,(Builtin.copy_ #[39,39] ty #[.slice (some ⟨N,(i + 1) * 3,none⟩) (xs.length - i) uk,.slice (some ⟨g,i * 3,none⟩) (xs.length - i) dT]).run Tryz.prog kE.drew= .ok (goInt ((xs.length - i:Nat):Int)) (kE.drew.setRow N (aw.take ((i + 1) * 3) ++ (xs.drop i).flatMap aW.cells ++ aw.drop ((i + 1) * 3 + ((xs.drop i).flatMap aW.cells).length)).toArray):=λty uk dT=>by
  have h:=SI (P:=Tryz.prog) kE.drew 39 39 ty 214 i0 N ((i + 1) * 3) (xs.length - i) (xs.length - i) uk ⟨g,i * 3,none⟩ (xs.length - i) dT aw.toArray 214 ((xs.drop i).flatMap aW.cells) Tryz.underlying39 bo Em Zs (by rw [lK,dZ]) (Hg _ WI) (by rw [lK,List.size_toArray,iS];omega) MG
  simpa using h
 obtain⟨c2,kI⟩ :∃c2,c2= aw.take ((i + 1) * 3) ++ (xs.drop i).flatMap aW.cells ++ aw.drop ((i + 1) * 3 + ((xs.drop i).flatMap aW.cells).length):=⟨_,rfl⟩
 rw [<- kI] at nj
 have ov:c2= ROW.toList.take (i * 3) ++ aW.cells s ++ (xs.drop i).flatMap aW.cells ++ ROW.toList.drop ((xs.length + 1) * 3):=by
  have t1:(ROW.toList.take (i * 3) ++ aW.cells s).length= (i + 1) * 3:=by rw [Xu,YA,QO,hI];omega
  have a1:aw.take ((i + 1) * 3)= ROW.toList.take (i * 3) ++ aW.cells s:=by
   rw [hX,List.take_left' t1]
  have a2:aw.drop ((i + 1) * 3 + ((xs.drop i).flatMap aW.cells).length)= ROW.toList.drop ((xs.length + 1) * 3):=by
   rw [lK,<- Zg,hX,List.drop_left' t1,Zg,hI]
   congr 1;omega
  rw [kI,a1,a2]
 have iL:ay (kE.drew.setRow N c2.toArray) N 214 c2.toArray:=(show ay kE.drew N 214 aw.toArray from Em).setRow;have JE:=aga (B:=B) hI xs i KK s ROW.toList c2 G N _ QO arU adX tG ov iL KK
 have eI:w.grownBy (kE.drew.setRow N c2.toArray) (some g):=by
  have h1:Below w w kE:=(Cu (fI) (bU ▸ (show N<=na.heap.size from Nat.le_of_lt Jj.lt)) (λk ax=>by have:=Wx ax;omega):Below w na kE) |> MI.trans;have h2:Below w w (kE.drew.setRow N c2.toArray):=h1.drew.trans (Cu (ME (w:=kE.drew)) (by have:=h1.size;show w.heap.size<=kE.heap.size;exact this) (λk ax=>by have:=Wx ax;omega))
  exact bL h2 _
 have Ud:=I JE;have Ir:=I eI
 have xQ:¬(G= i):=KK
 have nw:¬(G= i + 1):=KK
 have atr:¬(xs.length= i):=KK
 have pY:(xs.length:Int) < (xs.length:Int) + 1:=KK
 replace rY:=I rY;replace nj:=I nj;replace NF:=I NF;clear JE eI iL ov kI WI fI Em iS hX Wg GK MI Jj tG QO Wd cF RA Hg CU afj MG lK Jx aV Jm Jn dd bU
 haveI:Nonempty (cM (λ_:World=>True)):=⟨⟨w,trivial⟩⟩
 go_in
 go_wp2_with (first
  | (at_builtin;refine Lib.wpList_append_run _ rfl _ _ _ _ rfl _ _ rfl rfl _ _ (NF.o _) ?_)
  | (with_reducible refine Ti _ rfl _ _ 39 39 rfl _ _ rfl rfl (rY.o _ _) ?_))
 refine nZ (λ_=>True) [([0,1,2,3,4,5,6,7],8)] [] PV PV trivial ?_
 refine gA λK fj=>?_
 refine ZR ?_
 repeat go_big_quiet_step (fail)
 refine VF ?_
 refine XV ?_
 go_wp2_with (with_reducible refine Ti _ rfl _ _ 39 39 rfl _ _ rfl rfl (nj.o _ _ _) ?_)
 refine gb (C:=λ_:World=>True) trivial (fj _ _ ?_)
 refine ky ?_
 refine VF ?_
 go_wp2
 go_ret
 exact⟨N,G,rfl,Ud.o,Ir.o⟩
theorem afZ (B:Nat) (g c:Nat) (xs:List aW) (bq:xs.length<=1048575) (i:Nat) (bo:i<=xs.length) (s:aW) (jS:Nat) (w:World) (qH:B<=w.heap.size) (ew:jS≠g)
 (aV:bn B 214 3 aW.cells w (g xs c) xs) (iq:ay w jS 214 (aW.cells s).toArray):
 Rd 331 #[g xs c,.int .i64 (i:Int),jS 1 1] w λe ah=>
  ∃bS dq,e= .returned (.slice (some ⟨bS,0,none⟩) (xs.length + 1) dq)/\bn B 214 3 aW.cells ah (.slice (some ⟨bS,0,none⟩) (xs.length + 1) dq) (xs.take i ++ s ::xs.drop i)/\w.grownBy ah (some g):=by
 by_cases h1:i= xs.length
 .subst h1
  rw [Yh,List.drop_length]
  exact avW B g c xs bq s jS w qH aV iq
 .by_cases h2:xs.length + 1<=c
  .exact avY B g c xs bq i KK h2 s jS w ew aV iq
  .have h3:=aV.parts.2.2.1
   obtain rfl:c= xs.length:=KK
   exact avX B g xs bq i KK s jS w qH aV iq
theorem iT (x:aZ):(aZ.cells x).length= 3:=rfl
theorem vQ (x:aZ):∀u,u ∈ aZ.cells x->u.oneCell'= true:=by
 intro u hu
 simp only [aZ.cells,Xl,YT,or_false] at hu
 rcases hu with rfl | rfl | rfl <;> rfl
def jz {T:Type} (o:Option (List T)):List T:=o.getD []
theorem ady {T V:Type} {f:T->List V} (hf:∀y,(f y).length= sz) {y:T} {u:V} (bo:i < sz):∀(xs:List T) (j:Nat) (x:T),xs[j]? =some x->f y= (f x).set i u->(xs.set j y).flatMap f= (xs.flatMap f).set (j * sz + i) u
 | [],j,x,h,_=>by simp at h
 | z ::xs,0,x,h,hy=>by
  simp at h;subst h
  simp only [List.set_cons_zero,Yd,Xy,YF]
  rw [List.set_append_left _ _ (by rw [hf];exact bo),hy]
 | z ::xs,j + 1,x,h,hy=>by
  have eR:=ady hf bo xs j x ZQ hy
  simp only [List.set_cons_succ,Yd]
  rw [eR,List.set_append_right _ _ (by rw [hf,Nat.succ_mul];omega),hf]
  congr 1
  congr 1
  rw [Nat.succ_mul];omega
theorem vP {T:Type} {f:T->List Value} {w:World} {n c:Nat} {xs:List T} (h:bn B e sz f w (g n c) xs) (hf:∀y,(f y).length= sz) {x y:T} (av:xs[j]? =some x) (bo:i < sz) (hy:f y= (f x).set i u):bn B e sz f (w.setCell ⟨g,j * sz + i,none⟩ u) (g n c) (xs.set j y):=by
 unfold bn at h ⊢
 rw [List.length_set,ady hf bo xs j x av hy]
 exact ahA h rfl
theorem vO {T:Type} {f:T->List Value} {w:World} {n c:Nat} {xs:List T} (h:bn B e sz f w (g n c) xs) (hf:∀y,(f y).length= sz) (cc:j < xs.length) (bo:i < sz):w.frozen? ⟨g,j * sz + i,none⟩ =false:=by
 refine (ahz h rfl ?_).2
 rw [nQ hf]
 have:(j + 1) * sz<=xs.length * sz:=ZA _ cc
 rw [Nat.succ_mul] at this
 omega
theorem me {T:Type} {f:T->List Value} {w:World} {n c:Nat} {xs:List T} (h:bn B e sz f w (g n c) xs) (hf:∀y,(f y).length= sz) {x:T} (av:xs[j]? =some x) (hu:(f x)[i]? =some u):w.cell? ⟨g,j * sz + i,none⟩ =some u:=by
 obtain⟨mg,dq,gx,_,bB,_⟩:=h.form hf
 injection gx with e1 _ _
 subst e1
 obtain⟨ui,aEJ,y,e9,_,hy,aN⟩:=bB.at_ (Wt _ _) (k:=j) (Xg.1 av).1
 cases e9
 obtain rfl:x= y:=Wx (av.symm.trans hy)
 have:=aN i u hu (aD.self _)
 simp only [aD.self,YF] at this
 exact this
theorem va {w:World}   {o:Oper}   (qm:o.guard= none) (s x:Operand) (t:TypeId)
  (dn:o.op= .call {callee:= .builtin .append,args:=#[s,x],argTypes:=#[t,t]})
  (B:Nat) (e:TypeId) (i:TypeInfo) (z:Value) (sz bytes:Nat) (cJ:P.underlying t= some (.slice e)) (bo:P.info? e= some i) (cF:i.zero= some z)
  (zF:i.size= sz) (sJ:i.bytes= bytes) (zM:z.cells.size= sz) (gd:0 < sz) {T:Type} (f:T->List Value) (hf:∀y,(f y).length= sz) (lL:∀y u,u ∈ f y->u.oneCell'= true)
  (g:Nat) (aP:a.eval s= .slice g 0 0) (cy:ay w g e #[]) (qG:B<=g) (ak:QR) (c2:Nat) (ys:List T) (n:Nat) (bq:n= ys.length) (av:a.eval x= .slice ak n c2) (bB:aX sz f w ak ys) (bl:ak= none->ys= []/\c2= 0)
  (h63:ys.length<=maxLen) (zm:ys.length * bytes<=140737488355328)
  (h:∀bS dq ah,bn B e sz f ah (.slice (some ⟨bS,0,none⟩) ys dq) ys->Below w w ah->wpList P ops Q rest (a.put o.dst (.slice (some ⟨bS,0,none⟩) n dq)) ah):wpList P ops Q (o ::rest) a w:=by
 subst bq
 exact BF qm s x t dn B e i z sz bytes cJ bo cF zF sJ zM gd f hf lL g aP cy qG ak c2 ys av bB bl h63 zm h
def oA (rs:List aM) (qs:List aZ):Bool:=ee rs qs && mb rs qs
theorem aHx (h:v:=by
 rintro e bm ⟨rfl,bD⟩
 have ar:=be w bD;have U:Below w w bm:=ar
 go_wp2
 go_ret
 exact⟨rfl,(ai U ao)⟩):v:=h
theorem Hu (aq:QR) (c0:Nat) (rs:List aM) (h0:rs) (gn:rs.length<=c0) (au:QR) (aw:Nat) (qs:List aZ) (h1:qs) (v:Bool) (az:oA rs qs= v) (w:World) (bk:aX 7 aM.cells w aq rs) (bg:aX 3 aZ.cells w au qs):Rd 262 #[aq rs c0,au qs aw] w λe ah=>e= .returned (.bool v)/\Below w w ah:=by
 subst az
 cases aS:ee rs qs
 .have fh:=I aS
  have e:oA rs qs= false:=by simp [oA,aS]
  rw [e]
  clear aS e
  go_in
  go_wp2_with fail
  refine (qh aq c0 rs h0 gn au aw qs h1 _ fh.o _ (bk.ad ao) (bg.ad ao)).mono ?_
  exact aHx
 .by_cases jW:qs.length= 0
  .have fh:=I aS
   have e:oA rs qs= false:=by rw [oA,RN jW,Bool.and_false]
   rw [e]
   clear aS e
   obtain rfl:=YD.1 jW
   clear jW
   go_in
   go_wp2_with fail
   refine (qh aq c0 rs h0 gn au aw [] h1 _ fh.o _ (bk.ad ao) (bg.ad ao)).mono ?_
   exact aHx
  .obtain⟨j,cc⟩ :∃j,qs.length= j + 1:=⟨qs.length - 1,by omega⟩
   obtain⟨eV,iA,q,rfl,_,bt,_⟩:=bg.at_ (Wt _ _) (k:=j) KK
   obtain⟨t,cJ⟩:=pB aS bt
   have e:oA rs qs= mC t q:=by rw [oA,aS,Dh cc bt cJ];rfl
   rw [e]
   obtain⟨qr,cQ,ei⟩:=q
   have fh:=I aS;have eS:=I bt;have bX:=I cJ;have fT:=I cc
   have iy:j<=1048576:=KK
   clear aS bt cJ e jW
   obtain⟨v,az⟩ :∃v,mC t ⟨qr,cQ,ei⟩ =v:=⟨_,rfl⟩
   have cI:=I az
   rw [az]
   clear az;have fl:=I (λW (h:aX 7 aM.cells W aq rs) (ez:aX 3 aZ.cells W (some ⟨eV,iA,none⟩) qs)=>qh aq c0 rs h0 gn (some ⟨eV,iA,none⟩) aw qs h1 _ fh.o W h ez)
   rw [cc] at fl ⊢
   clear cc
   go_in
   go_wp2_with fail
   refine (fl.o _ (bk.ad ao) (bg.ad ao)).mono ?_
   rintro e bm ⟨rfl,bD⟩
   have ar:=be w bD;have U:Below w w bm:=ar;replace bk:=bk.ad ar;replace bg:=bg.ad ar
   obtain⟨_,_,y,e9,eJ,hy,dC⟩:=bg.at_ (Wt _ _) (k:=j) YG
   cases e9
   obtain rfl:(⟨qr,cQ,ei⟩ :aZ)= y:=Wx (eS.o.symm.trans hy)
   clear hy;have cG:=dC 0 _ rfl;have dJ:=dC 1 _ rfl;have dt:=dC 2 _ rfl
   simp only [XW] at cG
   have g0:=cG (aD.self _);have g1:=dJ (aD.self _);have g2:=dt (aD.self _)
   simp only [aD.self] at g0
   simp only [aD.self] at g1
   simp only [aD.self] at g2
   clear dC cG dJ dt
   go_wp2_with fail
   refine (zQ h0 ⟨qr,cQ,ei⟩ t bX.o v cI.o (bk.ad ao)).mono ?_
   rintro e aI ⟨rfl,aQ⟩
   have aj:=be bm aQ;replace U:=ai U aj
   go_wp2
   go_ret
   exact⟨rfl,(ai U ao)⟩
theorem ahg (h:ee rs qs= false):kU rs qs id mem= none:=by simp [kU,h]
theorem ahh (h:fy mem= false):kU rs qs id mem= none:=by simp [kU,h]
theorem ahi (h:hasB (gD rs qs) id= false):kU rs qs id mem= none:=by simp [kU,h]
theorem ahj (h:ee rs qs= true) (h2:fy mem= true) (h3:hasB (gD rs qs) id= true):kU rs qs id mem= some (qs ++ [⟨id,mem,false⟩]):=by simp [kU,h,h2,h3]
theorem anz (h:v:=by
 clear aS
 go_in
 go_wp2_with fail
 refine (qh aq c0 rs h0 gn au aw qs h1 _ fh.o _ (bk.ad ao) (bg.ad ao)).mono ?_
 rintro e bm ⟨rfl,bD⟩
 have ar:=be w bD;have U:Below w w bm:=ar
 go_wp2
 go_ret2
 exact⟨none,0,rfl,bn.nil,(ai U ao)⟩):v:=h
theorem anH (h:v:=by
 rintro e bm ⟨rfl,bD⟩
 have ar:=be w bD;have U:Below w w bm:=ar
 go_wp2_with fail
 refine (kx _ gi.o _).mono ?_
 rintro e w0 ⟨rfl,h0⟩
 rw [h0]
 clear h0 w0
 go_wp2
 go_ret2
 exact⟨none,0,rfl,bn.nil,(ai U ao)⟩):v:=h
theorem ala (h:v:=by
 rintro e bw ⟨rfl,bG⟩
 have aY:=be aI bG;replace U:=ai U aY;replace bg:=bg.ad aY;clear Eb;have bl:=ub.o;have mI:=I (λe u=>(bg.ad (bP bw (.cells #[] e))):∀(e:TypeId) (u:Unit),aX 3 aZ.cells (bw.alloc (.cells #[] e)) au qs);have yl:=U.size
 go_wp2_with ((first
  | (at_builtin;refine BF rfl _ _ 37 rfl bw 115 i0 _ 3 24 Tryz.underlying37 bo dP dZ dV rfl WG aZ.cells iT vQ bw rfl (ay.new _ _ _) (XZ _) au aw qs rfl (mI.o _ ()) bl Xz KK ?_;intro bS dq iB fW fM;have qK:Below bw bw iB:=ai (bP _ _) fM;have aIQ:=qK.size;clear bl)
  | (at_builtin;refine ke rfl _ _ 37 rfl bw 115 i0 _ 3 24 Tryz.underlying37 bo dP dZ dV rfl WG aZ.cells iT vQ _ qs rfl (fW.alloc _) ⟨iB,0,none⟩ 1 ⟨id,mem,false⟩ rfl (aX.one (f:=aZ.cells) ⟨id,mem,false⟩ _) Xz KK Xq ?_;intro v4 bH fb ed mx)))
 have fm:Below bw bw bH:=(qK.alloc KK _).grown ed Xq (λq bt=>(fW.lt q bt).1)
 obtain⟨Y,iC,rfl,_,_,_⟩:=fb.form iT
 go_wp2
 go_ret2
 exact⟨Y,iC,rfl,fb.base KK,ai U fm⟩):v:=h
theorem afM (aq:QR) (c0:Nat) (rs:List aM) (h0:rs) (gn:rs.length<=c0) (au:QR) (aw:Nat) (qs:List aZ) (h1:qs) (bl:au= none->qs= []/\aw= 0) (id mem:Int) (w:World) (bk:aX 7 aM.cells w aq rs) (bg:aX 3 aZ.cells w au qs):Rd 254 #[aq rs c0,au qs aw,id,mem] w λe ah=>∃A c,e= .returned (.tuple #[.slice A (jz (kU rs qs id mem)).length c,.bool (kU rs qs id mem).isSome])/\bn w 115 3 aZ.cells ah (.slice A (jz (kU rs qs id mem)).length c) (jz (kU rs qs id mem))/\Below w w ah:=by
 obtain⟨i0,bo,dP,dZ,dV⟩:=Xo xd
 have ub:=I bl;clear bl
 cases aS:ee rs qs
 .have fh:=I aS
  rw [ahg aS]
  exact anz
 cases hm:fy mem
 .have fh:=I aS;have gi:=I hm
  rw [ahh hm]
  clear aS hm
  go_in
  go_wp2_with fail
  refine (qh aq c0 rs h0 gn au aw qs h1 _ fh.o _ (bk.ad ao) (bg.ad ao)).mono ?_
  exact anH
 have jm:(gD rs qs).length<=1048576:=Xr (Of rs qs) h0
 cases aP:hasB (gD rs qs) id
 .have fh:=I aS;have gi:=I hm;have fL:=I aP
  rw [ahi aP]
  clear aS hm aP
  go_in
  go_wp2_with fail
  refine (qh aq c0 rs h0 gn au aw qs h1 _ fh.o _ (bk.ad ao) (bg.ad ao)).mono ?_
  rintro e bm ⟨rfl,bD⟩
  have ar:=be w bD;have U:Below w w bm:=ar;replace bk:=bk.ad ar;replace bg:=bg.ad ar
  go_wp2_with fail
  refine (kx _ gi.o _).mono ?_
  rintro e w0 ⟨rfl,h0⟩
  rw [h0]
  clear h0 w0
  go_wp2_with fail
  refine (aFB aq c0 rs h0 au aw qs h1 fh.o _ (bk.ad ao) (bg.ad ao)).mono ?_
  rintro e aI ⟨sq,c5,rfl,hd,aQ⟩
  have aj:=be bm aQ;replace U:=ai U aj;have Eb:=hd.ej (hf:=fR);clear hd
  go_wp2_with fail
  refine (Gm sq c5 (gD rs qs) id jm _ fL.o _ (Eb.ad ao)).mono ?_
  rintro e bw ⟨rfl,bG⟩
  have aY:=be aI bG;replace U:=ai U aY
  go_wp2
  go_ret2
  exact⟨none,0,rfl,bn.nil,(ai U ao)⟩
 .have fh:=I aS;have gi:=I hm;have fL:=I aP
  rw [ahj aS hm aP]
  clear aS hm aP
  go_in
  go_wp2_with fail
  refine (qh aq c0 rs h0 gn au aw qs h1 _ fh.o _ (bk.ad ao) (bg.ad ao)).mono ?_
  rintro e bm ⟨rfl,bD⟩
  have ar:=be w bD;have U:Below w w bm:=ar;replace bk:=bk.ad ar;replace bg:=bg.ad ar
  go_wp2_with fail
  refine (kx _ gi.o _).mono ?_
  rintro e w0 ⟨rfl,h0⟩
  rw [h0]
  clear h0 w0
  go_wp2_with fail
  refine (aFB aq c0 rs h0 au aw qs h1 fh.o _ (bk.ad ao) (bg.ad ao)).mono ?_
  rintro e aI ⟨sq,c5,rfl,hd,aQ⟩
  have aj:=be bm aQ;replace U:=ai U aj;replace bg:=bg.ad aj;have Eb:=hd.ej (hf:=fR);clear hd
  go_wp2_with fail
  refine (Gm sq c5 (gD rs qs) id jm _ fL.o _ (Eb.ad ao)).mono ?_
  exact ala
end Go.Proofs.YtlaaemmmbodaaaaGreatDoor
