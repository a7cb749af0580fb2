/- Parts. -/
import Derived.Test.YtlaaemmmbodaaaaGreatDoorFx3
set_option maxHeartbeats 16000000
set_option maxRecDepth 100000
set_option linter.all false
open Go Go.RowKit Go.Sort Go.Proofs.YtlaaemmmbodaaaaGreatDoor
variable {g B sz n k j b off:Nat} {t e:TypeId} {cs:Array Value} {v:Value} {xs ae:List aW} {s:aW} {P:Program} {O:Array Oper} {C:World->Prop} {Q:Act->Prop} {x0 x1 x2 x3 x4 x5:Oper} {a:Act} {tu se sp sm st cR mem:Int} {ak A:QR} {q:aZ} {rs:List aM} {qs:List aZ} {z:Prop}
namespace Go.Proofs.YtlaaemmmbodaaaaGreatDoor
theorem Yx (h:z:=by intro e;have:=Option.some.inj e;omega):z:=h
theorem aGS (h:z:=by have h1:=oe.out;have h2:=lF.out;rw [List.length_append,h1,h2];simp only [List.length_cons,List.length_nil];unfold maxLen;omega):z:=h
theorem aGT (h:z:=by have h1:=oe.out;have h2:=lF.out;rw [List.length_append,h1,h2];simp only [List.length_cons,List.length_nil];omega):z:=h
theorem ZU (h:z:=by have:=lF.out;unfold maxLen;omega):z:=h
theorem Zk (h:z:=by rw [<- t0];exact (aC.oj 0 (by simp)).size):z:=h
theorem Zm (h:z:=by simp [results,Tryz.results258,go_sem,af]):z:=h
theorem aGy (h:z:=by simp [results,Tryz.results259,go_sem,af]):z:=h
theorem ZV (h:z:=by have:=lF.out;omega):z:=h
theorem aGL (h:z:=by have:g3= k:=Option.some.inj ax;omega):z:=h
theorem aGO (h:z:=by have:=fT.out;unfold maxLen;omega):z:=h
theorem ay.jE {w ah:World} {row:Option Nat} (h:ay w g t cs) (cy:w.grownBy ah row) (ew:some g≠row):ay ah g t cs:=(cy.block g h.lt ew).trans h
theorem bn.Dm {T:Type} {f:T->List Value} {w:World} {c p:Nat} {xs:List T} (h:bn B e sz f w (g n c) xs) (aB:ay w p t cs) (ew:t≠e):p≠g:=by
 rintro rfl
 obtain⟨_,_,_,_,cur,bz,_⟩:=h.parts
 unfold ay at aB bz
 rw [aB] at bz
 injection bz with h1
 injection h1 with _ h2 _
 exact ew h2
theorem bn.mP {T:Type} {f:T->List Value} {w:World} {p:Nat} {xs:List T} (h:bn B e sz f w v xs) (aB:ay w p t cs) (ew:t≠e):∀k,v.ownBlock= some k->k≠p:=by
 rintro k ax rfl
 rcases h.2 with ⟨rfl,_⟩ | ⟨g,cap,cur,rfl,bz,gl,r⟩
 .cases ax
 .have a1:g= k:=Wx ax
  subst a1
  unfold ay at aB
  rw [aB] at gl
  injection gl with h1
  injection h1 with _ h2 _
  exact ew h2
theorem bn.bK {T:Type}  {f:T->List Value}  {w:World}  {p:Nat} {xs:List T}  (h:bn B e sz f w v xs) (aB:ay w p t cs) (ew:t≠e:=by decide):∀k,v.ownBlock= some k->k≠p:=h.mP aB ew
theorem bn.apart {T abT:Type} {B' aBu:Nat} {f:T->List Value} {aJ:abT->List Value} {gx:TypeId} {w:World} {mW:Value} {xs:List T} {ys:List abT} (h:bn B e sz f w v xs) (ez:bn B' gx aBu aJ w mW ys) (ew:e≠gx):∀k,v.ownBlock= some k->some k≠mW.ownBlock:=by
 intro k ax e1
 rcases h.2 with ⟨rfl,_⟩ | ⟨g,cap,cur,rfl,bz,gl,r⟩
 .cases ax
 .rcases ez.2 with ⟨rfl,_⟩ | ⟨bS,UU,aCN,rfl,adK,aeO,hr⟩
  .cases e1
  .have a1:g= k:=Wx ax
   have a2:k= bS:=Wx e1
   subst a1;subst a2
   rw [gl] at aeO
   injection aeO with h1
   injection h1 with _ h2 _
   exact ew h2
theorem aAS {x:aW} (ax:k < xs.length) (h1:∀i y,i < k->xs[i]? =some y->y.mem < s.mem) (av:xs[k]? =some x) (h2:¬x.mem < s.mem) (h3:x.mem= s.mem):gg xs s= xs.set k s:=by
 rw [Kt (k:=k) KK h1 (λy hy=>by rw [av] at hy;cases hy;exact h2),av]
 simp only [h3,if_true]
 rw [List.set_eq_take_append_cons_drop,XX ax]
theorem aji (ax:k<=xs.length) (h1:∀i y,i < k->xs[i]? =some y->y.mem < s.mem) (h2:∀x,xs[k]? =some x->¬x.mem < s.mem) (h3:∀x,xs[k]? =some x->x.mem≠s.mem):gg xs s= xs.take k ++ s ::xs.drop k:=by
 rw [Kt ax h1 h2]
 cases av:xs[k]? with
 | none=>simp only [List.drop_of_length_le (List.getElem?_eq_none_iff.1 av)]
 | some x=>simp only [XU (h3 x av)]
theorem aky (h:z:=by
 rintro e oG ⟨bS,dq,rfl,iR,fI⟩
 have MN:=Lh.o.jE fI (by intro e;exact GY (Wx e));have atP:=iR.Dm MN WG;have eI:=bx (bL FG.o (some g)) fI;clear Pr Lh PI PB FG fI
 go_wp2
 refine rP (da _ _ ?_)
 refine jj λxE oq=>?_
 refine VF ?_
 refine YB ?_
 repeat go_big_quiet_step (fail)
 refine VF ?_
 refine XV ?_
 have arD:=MN.frozen 4;have aqP:=(MN.cell 4).trans (show _= some (g ae c) from rfl);have Ip:=I (MN.ey 4 (bS (ae.length + 1) dq));have lD:=I (iR.kept (fZ (j:=4) (ht oG (some p)) (bS (ae.length + 1) dq)) (λq bt e=>by have h1:bS= q:=Wx bt;have h2:q= p:=Wx e;omega))
 have rl:=I eI;have ua:=I (fZ (j:=4) (ht oG (some p)) (bS (ae.length + 1) dq));clear MN iR eI
 go_wp2
 refine rP (oq _ _ ?_)
 refine qu ?_
 refine VF ?_
 refine VF ?_
 go_wp2
 have hle:(gg ae s).length= ae.length + 1:=by rw [cf.o,Xu,YK,YA,YQ];omega
 refine⟨rfl,Value.tuple #[],by simp [results,Tryz.results307,go_sem],rfl,bS,dq,oG,rl.o,ua.o,?_,?_,atP⟩
 .rw [hle];exact Ip.o
 .have h:=lD.o
  rw [hle,cf.o,es];exact h):z:=h
theorem Zf {x6:Oper} (h:wpQuiet P O C Q [x0,x1,x2,x3,x4,x5,x6] a):wpQuiet P O C Q [x0,x1,x2,x3,x4,x5,x6] a:=h
theorem Yn (h:wpQuiet P O C Q [x0,x1,x2,x3,x4,x5] a):wpQuiet P O C Q [x0,x1,x2,x3,x4,x5] a:=h
theorem ajj {p:Nat} (yn:Value) {c:Nat} (bq:ae.length<=1048575) (s:aW) (es:s=⟨sm,st,cR⟩) {w:World} (VJ:B<=p) (qH:B<=w.heap.size) (GY:p≠g)
 (ag:ay w p 41 #[tu,se,sp,yn,g ae c]) (aV:bn B 214 3 aW.cells w (g ae c) ae):
 Rd 307 #[.pointer (some ⟨p,0,none⟩),.agg #[sm,st,cR]] w λe ah=>e= .returned (.tuple #[])/\∃bS dq bm,w.grownBy bm (some g)/\bm.grownBy ah (some p)/\ay ah p 41 #[tu,se,sp,yn,.slice (some ⟨bS,0,none⟩) (gg ae s).length dq]/\bn B 214 3 aW.cells ah (.slice (some ⟨bS,0,none⟩) (gg ae s).length dq) (gg ae s)/\p≠bS:=by
 have yD:=I ag;have pN:=I aV;have Ru:=ag.lt;clear ag aV
 go_in
 go_upto_region 1 with fail
 have po:Below w w (w.alloc (.cells #[sm,st,cR] 214)):=bP w _;have bJ:=ay.new w 214 #[sm,st,cR];have ag:=yD.o.ad po yD.o.lt;have aV:=pN.o.aK po
 obtain⟨w0,vH⟩ :∃w0,w0= w.alloc (.cells #[sm,st,cR] 214):=⟨_,rfl⟩
 rw [<- vH] at po bJ ag aV
 replace bJ:=I bJ;replace ag:=I ag;replace aV:=I aV;clear yD pN
 generalize w.alloc (.cells #[sm,st,cR] 214)= Pg at *
 subst vH
 go_wp2
 go_loopw [4] (λi wr=>∃k:Nat,k<=ae.length/\i= .int .i64 k/\(∀j x,j < k->ae[j]? =some x->x.mem < s.mem)/\Below w0 w0 wr) (λi _=>ae.length - (intOf i).toNat)
 case atStart=>exact⟨0,Xd _,rfl,λj x h=>absurd h KK,Wt _ _⟩
 case round=>
  obtain⟨k,ax,rfl,aT,aB⟩:=hrel
  replace aT:=I aT;have hv:=ag.o.ad aB ag.o.lt;have iY:=bJ.o.ad aB bJ.o.lt;have hOr:=aV.o.aK aB
  have c4:=λK:aD wr wr=>((hv.ad K.ad hv.lt).cell 4).trans (show _= some (g ae c) from rfl)
  have cT:=ay.kF (λK:aD wr wr=>(iY.ad K.ad iY.lt));have mH:=I hv;have og:=I iY;have oK:=I hOr;clear hv iY hOr
  by_cases bC:k < ae.length
  .obtain⟨⟨eY,kp,Fs⟩,av⟩ :∃x,ae[k]? =some x:=⟨_,Xj bC⟩
   have cA:=λK:aD wr wr=>me (oK.o.aK K.ad) hI av (i:=0) (u:= .int .i64 eY) rfl
   simp only [XW] at cA
   replace av:=I av;have uI:decide ((k:Int) < (ae.length:Int))= true:=Xh KK
   by_cases hm:eY < sm
   .go_wp2
    refine eQ PV PV ?_
    repeat (go_big_quiet_step ((fail)))
    refine VF ?_
    intro K
    clear c4 cT cA
    go_wp2
    go_roundw
    case rel=>exact⟨k + 1,by omega,by go_num,λj y cc hy=>by
     by_cases e:j= k
     .subst e;rw [av.o] at hy;cases hy;rw [es];exact hm
     .exact aT.o j y KK hy,ai aB K.ad⟩
    case measure=>simp [intOf];omega
   .have Ba:decide (eY < sm)= false:=Xe hm
    go_wp2
    refine eQ PV PV ?_
    repeat (go_big_quiet_step ((fail)))
    refine VF ?_
    intro K
    clear c4 cT cA Ba;have fM:=ai aB K.ad;have hv:=mH.o.ad K.ad mH.o.lt;have iY:=og.o.ad K.ad og.o.lt;have hOr:=oK.o.aK K.ad;clear mH og oK
    generalize K.world= qc at *
    have c4:=λK:aD qc qc=>((hv.ad K.ad hv.lt).cell 4).trans (show _= some (g ae c) from rfl)
    have cT:=ay.kF (λK:aD qc qc=>(iY.ad K.ad iY.lt))
    have cA:=λK:aD qc qc=>me (hOr.aK K.ad) hI av.o (i:=0) (u:= .int .i64 eY) rfl
    simp only [XW] at cA
    have mH:=I hv;have og:=I iY;have oK:=I hOr;clear hv iY hOr
    by_cases he:eY= sm
    .go_wp2
     refine eQ PV PV ?_
     repeat (go_big_quiet_step ((fail)))
     refine VF ?_
     intro K
     clear c4 cT cA;have asD:=ai fM K.ad;have hv:=mH.o.ad K.ad mH.o.lt;have iY:=og.o.ad K.ad og.o.lt;have hOr:=oK.o.aK K.ad;clear mH og oK
     generalize K.world= wn at *
     have c4:=λK:aD wn wn=>((hv.ad K.ad hv.lt).cell 4).trans (show _= some (g ae c) from rfl)
     have cT:=ay.kF (λK:aD wn wn=>(iY.ad K.ad iY.lt));have mH:=I hv;have oK:=I hOr;clear hv iY hOr
     go_wp2
     refine Pf 7 PV PV ?_
     refine Zf ?_
     repeat go_big_quiet_step (fail)
     refine VF ?_
     intro K
     refine XV ?_
     clear c4 cT;have bG:=ai asD K.ad;have hv:=mH.o.ad K.ad mH.o.lt;have hOr:=oK.o.aK K.ad;clear mH oK
     generalize K.world= gH at *
     have z0:=vO hOr hI (j:=k) (i:=0) bC WG;have bF:=vO hOr hI (j:=k) (i:=1) bC WG;have z2:=vO hOr hI (j:=k) (i:=2) bC WG;have kz:=me hOr hI av.o (i:=0) (u:= .int .i64 eY) rfl;have sl:=me hOr hI av.o (i:=1) (u:= .int .i64 kp) rfl;have hU:=me hOr hI av.o (i:=2) (u:= .int .i64 Fs) rfl
     simp only [XW] at z0 kz
     have e1:gg ae s= ae.set k s:=aAS bC (λj y cc hy=>aT.o j y cc hy) av.o (by rw [es];show¬eY < sm;omega) (by rw [es];exact he);have iR:=vP hOr hI (y:=⟨sm,kp,Fs⟩) (u:= .int .i64 sm) (i:=0) av.o WG rfl;have ng:=vP iR hI (j:=k) (x:=⟨sm,kp,Fs⟩) (y:=⟨sm,st,Fs⟩) (u:= .int .i64 st) (i:=1) (by rw [List.getElem?_set_self bC]) WG rfl
     have pT:=vP ng hI (j:=k) (x:=⟨sm,st,Fs⟩) (y:=⟨sm,st,cR⟩) (u:= .int .i64 cR) (i:=2) (by rw [List.getElem?_set_self (by rw [List.length_set];exact bC)]) WG rfl
     simp only [List.set_set,XW] at pT
     rw [<- es,<- e1] at pT
     have VL:=((hv.yR (p:=⟨g,k * 3,none⟩) GY (.int .i64 sm)).yR (p:=⟨g,k * 3 + 1,none⟩) GY (.int .i64 st)).yR (p:=⟨g,k * 3 + 2,none⟩) GY (.int .i64 cR);have CK:=bx (bL (ai po bG) (some g)) (fZ (j:=k * 3 + 2) (fZ (j:=k * 3 + 1) (fZ (j:=k * 3) (ht gH (some g)) (.int .i64 sm)) (.int .i64 st)) (.int .i64 cR));replace pT:=I pT
     replace VL:=I VL;replace CK:=I CK;have cf:=I e1;clear iR ng e1 hOr hv
     go_wp2
     refine⟨rfl,Value.tuple #[],by simp [results,Tryz.results307,go_sem],rfl,g,c,_,CK.o,ht _ _,?_,?_,GY⟩
     .have hle:(gg ae s).length= ae.length:=by rw [cf.o,List.length_set]
      rw [hle];exact VL.o
     .have hle:(gg ae s).length= ae.length:=by rw [cf.o,List.length_set]
      have h:=pT.o
      rw [hle];exact h
    .have zn:(eY == sm)= false:=Xb.2 he
     go_wp2
     refine eQ PV PV ?_
     repeat (go_big_quiet_step ((fail)))
     refine VF ?_
     intro K
     clear c4 cT cA zn uI;have vv:=ai fM K.ad;have hv:=mH.o.ad K.ad mH.o.lt;have iY:=og.o.ad K.ad og.o.lt;have hOr:=oK.o.aK K.ad;clear mH og oK
     generalize K.world= wn at *
     have e1:gg ae s= ae.take k ++ s ::ae.drop k:=aji ax (λj y cc hy=>aT.o j y cc hy) (λy hy=>by rw [av.o] at hy;cases hy;rw [es];show¬eY < sm;omega) (λy hy=>by rw [av.o] at hy;cases hy;rw [es];exact he);have Ni:=ai po vv
     haveI:Nonempty (cM (λV=>ay V p 41 #[tu,se,sp,yn,g ae c]/\ay V w 214 #[sm,st,cR])):=⟨⟨wn,hv,iY⟩⟩
     haveI:Nonempty (cM (λ_=>True)):=⟨⟨wn,trivial⟩⟩
     have c4:=λK:cM (λV=>ay V p 41 #[tu,se,sp,yn,g ae c]/\ay V w 214 #[sm,st,cR])=>(K.holds.1.cell 4).trans (show _= some (g ae c) from rfl)
     have cT:=ay.kF (λK:cM (λV=>ay V p 41 #[tu,se,sp,yn,g ae c]/\ay V w 214 #[sm,st,cR])=>K.holds.2);have mH:=I hv;have og:=I iY;have oK:=I hOr;have cf:=I e1;clear hv iY hOr e1
     go_wp2
     refine tV (λV=>ay V p 41 #[tu,se,sp,yn,g ae c]/\ay V w 214 #[sm,st,cR]) [([1,2,3,4,5,6],[0],7,false),([],[],8,true),([],[9,10],11,true)] [] [] PV PV ⟨mH.o,og.o⟩ ?_
     refine jj λK fj=>?_
     refine Yn ?_
     repeat go_big_quiet_step (fail)
     refine VF ?_
     refine Xp ?_
     repeat go_big_quiet_step (fail)
     refine VF ?_
     refine XV ?_
     clear c4 cT;have hv:ay wn.drew p 41 #[tu,se,sp,yn,g ae c]:=mH.o;have iY:ay wn.drew w 214 #[sm,st,cR]:=og.o;have hOr:=oK.o.aK (Wt _ wn).drew;have db:Below w w wn.drew:=Ni.drew;clear mH og oK
     generalize wn.drew= wd at *
     have Pr:=I (ay.new wd 214 #[sm,st,cR]);have Lh:=I (hv.alloc (.cells #[sm,st,cR] 214));have PI:=I (iY.alloc (.cells #[sm,st,cR] 214));have PB:=I (hOr.alloc (.cells #[sm,st,cR] 214));have FG:=I (ai db (bP wd (.cells #[sm,st,cR] 214)))
     have qm:=(hOr.lt g rfl).2;clear hv iY hOr
     go_wp2
     refine nK ⟨Lh.o,PI.o⟩ (fj _ _ ?_)
     refine jj λff da=>?_
     refine VF ?_
     refine VF ?_
     refine XV ?_
     go_wp2_with fail
     refine (afZ B g c ae bq k KK ⟨sm,st,cR⟩ wd _ (by have:=FG.o.size;omega) KK PB.o Pr.o).mono ?_
     exact aky
  .obtain rfl:k= ae.length:=KK
   go_wp2
   refine eQ PV PV ?_
   repeat (go_big_quiet_step ((fail)))
   refine VF ?_
   intro K
   clear c4 cT;have fM:=ai aB K.ad;have hv:=mH.o.ad K.ad mH.o.lt;have iY:=og.o.ad K.ad og.o.lt;have hOr:=oK.o.aK K.ad;clear mH og oK
   generalize K.world= qc at *
   have c4:=λK:aD qc qc=>((hv.ad K.ad hv.lt).cell 4).trans (show _= some (g ae c) from rfl)
   have cT:=ay.kF (λK:aD qc qc=>(iY.ad K.ad iY.lt));have mH:=I hv;have og:=I iY;have oK:=I hOr;clear hv iY hOr
   go_wp2
   refine eQ PV PV ?_
   repeat (go_big_quiet_step ((fail)))
   refine VF ?_
   intro K
   clear c4 cT;have vv:=ai fM K.ad;have hv:=mH.o.ad K.ad mH.o.lt;have iY:=og.o.ad K.ad og.o.lt;have hOr:=oK.o.aK K.ad;clear mH og oK
   generalize K.world= wn at *
   have e1:gg ae s= ae.take ae.length ++ s ::ae.drop ae.length:=aji (XZ _) (λj y cc hy=>aT.o j y cc hy) (λy hy=>by have:=(Xg.1 hy).1;omega) (λy hy=>by have:=(Xg.1 hy).1;omega);have Ni:=ai po vv
   obtain⟨k,Rl⟩ :∃k,k= ae.length:=⟨_,rfl⟩
   haveI:Nonempty (cM (λV=>ay V p 41 #[tu,se,sp,yn,g ae c]/\ay V w 214 #[sm,st,cR])):=⟨⟨wn,hv,iY⟩⟩
   haveI:Nonempty (cM (λ_=>True)):=⟨⟨wn,trivial⟩⟩
   have c4:=λK:cM (λV=>ay V p 41 #[tu,se,sp,yn,g ae c]/\ay V w 214 #[sm,st,cR])=>(K.holds.1.cell 4).trans (show _= some (g ae c) from rfl)
   have cT:=ay.kF (λK:cM (λV=>ay V p 41 #[tu,se,sp,yn,g ae c]/\ay V w 214 #[sm,st,cR])=>K.holds.2);have mH:=I hv;have og:=I iY;have oK:=I hOr;have cf:=I e1;clear hv iY hOr e1
   go_wp2
   refine tV (λV=>ay V p 41 #[tu,se,sp,yn,g ae c]/\ay V w 214 #[sm,st,cR]) [([1,2,3,4,5,6],[0],7,false),([],[],8,true),([],[9,10],11,true)] [] [] PV PV ⟨mH.o,og.o⟩ ?_
   refine jj λK fj=>?_
   refine Yn ?_
   repeat go_big_quiet_step (fail)
   refine VF ?_
   refine Xp ?_
   repeat go_big_quiet_step (fail)
   refine VF ?_
   refine XV ?_
   clear c4 cT;have hv:ay wn.drew p 41 #[tu,se,sp,yn,g ae c]:=mH.o;have iY:ay wn.drew w 214 #[sm,st,cR]:=og.o;have hOr:=oK.o.aK (Wt _ wn).drew;have db:Below w w wn.drew:=Ni.drew;clear mH og oK
   generalize wn.drew= wd at *
   have Pr:=I (ay.new wd 214 #[sm,st,cR]);have Lh:=I (hv.alloc (.cells #[sm,st,cR] 214));have PI:=I (iY.alloc (.cells #[sm,st,cR] 214));have PB:=I (hOr.alloc (.cells #[sm,st,cR] 214));have FG:=I (ai db (bP wd (.cells #[sm,st,cR] 214)))
   have qm:=(hOr.lt g rfl).2;clear hv iY hOr
   go_wp2
   refine nK ⟨Lh.o,PI.o⟩ (fj _ _ ?_)
   refine jj λff da=>?_
   refine VF ?_
   refine VF ?_
   refine XV ?_
   go_wp2_with fail
   refine (afZ B g c ae bq ae.length (XZ _) ⟨sm,st,cR⟩ wd _ (by have:=FG.o.size;omega) KK PB.o Pr.o).mono ?_
   exact aky
theorem Vv {f:fp} (h:f.ok= true):f.ws.length<=10/\f.ae.length<=99:=by
 have H:=nt.1 h
 refine⟨H.l,aFA (N:=99) (lo:=0) H.ord λx av=>?_⟩
 have:=zZ.1 (H.ok x av);have:=qT.1 this.1
 omega
def aCj (sp st cR:Int):mZ Nat where
 par:=λ_=>[]
 val:=λn p=>match n with
  | 7=> .agg #[.int .i64 sp,.int .i64 st,.int .i64 cR]
  | 8=> .pointer (some ⟨p,0,none⟩)
  | _=>undef
 post:=λn _ p dy V=>match n with
  | 8=>dy.heap.size= p/\ay V p 214 #[.int .i64 0,.int .i64 0,.int .i64 0]
  | _=>True
theorem aac (h:z:=by
 refine XV ?_
 go_wp2
 exact hz ⟨k.world,rfl,bP _ _,rfl,ay.new _ _ _⟩):z:=h
theorem akl {p:Nat} {Dk Qp:Nat} {c:Nat} (bq:ae.length<=1048575) (st cR:Int) (aP:fr ae sp=⟨sp,st,cR⟩) (h0:0<=st) (h1:st<=1000) {w:World} (VJ:B<=p) (qH:B<=w.heap.size)
 (ag:ay w p 41 #[tu,se,sp,ak Dk Qp,g ae c]) (aV:bn B 214 3 aW.cells w (g ae c) ae):
 Rd 308 #[.pointer (some ⟨p,0,none⟩)] w λe ah=>e= .returned (.tuple #[])/\∃bS dq bm,w.grownBy bm (some g)/\bm.grownBy ah (some p)/\ay ah p 41 #[tu,se,(0:Int),ak Dk Qp,.slice (some ⟨bS,0,none⟩) (gg ae ⟨sp,st + 1,cR⟩).length dq]/\bn B 214 3 aW.cells ah (.slice (some ⟨bS,0,none⟩) (gg ae ⟨sp,st + 1,cR⟩).length dq) (gg ae ⟨sp,st + 1,cR⟩)/\p≠bS:=by
 have Ru:=ag.lt;have GY:=aV.Dm ag WG;replace ag:=I ag;replace aV:=I aV;replace aP:=I aP
 go_in
 obtain⟨BK,Eo⟩ :∃X:World->Prop,∀V,X V↔(Below w w V):=⟨_,λ_=>Xt⟩
 have oY:=I Eo;clear Eo
 haveI:Nonempty (cM BK):=⟨⟨w,((oY.o _).2 ((Wt _ _)))⟩⟩
 have c0:=ay.kG (λK:cM BK=>(ag.o.ad ((oY.o _).1 K.holds) ag.o.lt))
 go_wp2
 refine DB (aCj sp st cR) BK [([0,1,2,3,4,5,6],7),([],8)] [] [([],9)] [] PV PV ((oY.o _).2 ((Wt _ _).drew)) (λW fz h k=>((oY.o _).2 (((oY.o _).1 h).trans (k.mono ((oY.o _).1 h).size)))) ?_
 intro bA
 refine iP (some 10) rfl (.agg #[sp,st,cR]) rfl λhE eu=>?_
 refine Zf ?_
 repeat go_big_quiet_step (fail)
 refine VF ?_
 refine⟨λk fQ=>?_,eu _ ?_⟩
 .refine XV ?_
  go_wp2_with fail
  refine (Dw tu se sp ak Dk Qp (some ⟨g,0,none⟩) c ae KK sp ⟨sp,st,cR⟩ aP.o _ (aV.o.aK ((oY.o _).1 k.holds)).ej).mono ?_
  rintro e eB ⟨rfl,eJ⟩
  go_wp2
  exact hz ⟨0,rfl,eJ,trivial⟩
 simp only [Act.put]
 go_simp
 refine iP (some 2) rfl (.pointer (some ⟨bA 8,0,none⟩)) rfl λhE eu=>?_
 refine Xn ?_
 refine VF ?_
 refine⟨λk fQ=>?_,eu _ ?_⟩
 .exact aac
 simp only [Act.put]
 go_simp
 refine tU ?_
 refine Xn ?_
 refine VF ?_
 intro dy V W aC cv
 clear c0
 obtain⟨gy,dd⟩ :(dy 8).heap.size= bA 8/\ay (V 8) (bA 8) 214 #[(0:Int),(0:Int),(0:Int)]:=aC.post 8 Wn
 have aEB:w.heap.size<=bA 8:=gy ▸ (aC.oj 8 Wn).size;have Cx:=dd.ad (aC.aK 8 Wn) dd.lt;have aj:Below w w W:=ai ao (aC.whole 8 Wn).rI;have U:Below w w W:=aj;clear aC dd gy cv
 generalize bA 8= q at *
 have fJ:=Cx.cb
 refine gA λff da=>?_
 refine Xn ?_
 refine VF ?_
 refine XV ?_
 obtain⟨aDb,aqX,aDc⟩:=Cx.kH
 go_wp2
 clear fJ
 refine ra 0 λEd jL=>?_
 replace U:=jL.aN U;replace Cx:=jL.AH Cx;have fJ:=Cx.cb
 refine gb (((oY.o _).2 U)) (da _ _ ?_)
 refine ky ?_
 refine Xn ?_
 refine VF ?_
 have qR:IntKind.i64.wrap (st + 1)= st + 1:=by rw [IntKind.wrap_i64];omega
 have aqX:=Cx.frozen 1
 go_upto_region 2 with fail
 clear fJ
 refine kL 1 λpP gz=>?_
 replace U:=gz.aN U;replace Cx:=gz.ahK Cx;have fJ:=Cx.cb;have VN:=ag.o.ad U ag.o.lt;have fb:=aV.o.aK U;have CS:=U.size;replace VN:=I VN;replace fb:=I fb
 go_wp2_with fail
 refine (ajj (ak Dk Qp) bq _ rfl VJ KK GY VN.o fb.o).mono ?_
 rintro e cO ⟨rfl,bS,dq,bm,fI,eI,QK,vt,aFP⟩
 have arD:=QK.frozen 2;have aqP:=(QK.cell 2).trans (show _= some (.int .i64 sp) from rfl);have Ip:=I (QK.ey 2 (.int .i64 0));have lD:=I (vt.kept (fZ (j:=2) (ht cO (some p)) (.int .i64 0)) (λk ax e=>by have h1:bS= k:=Wx ax;have h2:k= p:=Wx e;omega));have Pw:=I (bx (bL U (some g)) fI);have Ir:=I (fZ (j:=2) eI (.int .i64 0))
 clear QK vt fI eI fJ
 go_wp2
 exact⟨rfl,Value.tuple #[],by simp [results,Tryz.results308,go_sem],rfl,bS,dq,bm,Pw.o,Ir.o,Ip.o,lD.o,aFP⟩
theorem akU (h:z:=by
 refine hs 0 λcP aE=>?_
 replace U:=aE.aN U;replace J:=aE.iK J;have af:=J.aL
 exact hV ⟨rfl,U⟩ (by simp [results,Tryz.results261,go_sem,af])):z:=h
theorem avN (tu se sp:Int) (ak:QR) (c2:Nat) (ws:List Int) (al:QR) (c3:Nat) (ae:List aW) (h2:ws) (h3:ae) (n2:ak= none->ws= []/\c2= 0) (n3:al= none->ae= []/\c3= 0) (cL:ws.length<=c2) (az:oH ⟨tu,se,sp,ws,ae⟩ =false) (w:World) (bp:aX 1 cE w ak ws) (bj:aX 3 aW.cells w al ae):
 Rd 261 #[.agg #[tu,se,sp,ak ws c2,al ae c3]] w λe ah=>e= .returned (.tuple #[.agg #[(0:Int),(0:Int),(0:Int),(),()],false])/\Below w w ah:=by
 replace bp:=I bp;replace bj:=I bj;clear n2 n3
 cases hf:hG tu se sp ws ae
 .have cI:=I hf;clear hf az
  go_in
  go_upto_region 1 with fail
  refine fU λaO ar ag J=>?_
  have U:=ar;have aJ:=ag.aL;have af:=J.aL
  go_wp2_with fail
  refine (oy c2 h2 h3 cL _ cI.o (bp.o.ad (ai U ao)) (bj.o.ad (ai U ao))).mono ?_
  rintro e aI ⟨rfl,aQ⟩
  have aj:=be aO aQ;replace U:=ai U aj;clear aJ;replace J:=J.to aj;replace af:=J.aL;have eg:=J.iW
  go_wp2
  clear af
  exact akU
 .have aP:(sp == 0)= true:=by simpa [oH,fp.ok,hf] using az
  have cI:=I hf;clear hf az
  go_in
  go_upto_region 1 with fail
  refine fU λaO ar ag J=>?_
  have U:=ar;have aJ:=ag.aL;have af:=J.aL
  go_wp2_with fail
  refine (oy c2 h2 h3 cL _ cI.o (bp.o.ad (ai U ao)) (bj.o.ad (ai U ao))).mono ?_
  rintro e aI ⟨rfl,aQ⟩
  have aj:=be aO aQ;replace U:=ai U aj;replace ag:=ag.to aj;replace aJ:=ag.aL;replace J:=J.to aj;replace af:=J.aL;have eg:=J.iW
  go_wp2
  clear aJ af
  exact akU
theorem alB (h:z:=by
 exact⟨aU,d2,some ⟨g5,0,none⟩,c5,rfl,⟨bh.base KK,bf.base KK,bh.apart bf WG⟩,U⟩):z:=h
theorem avO (tu se sp:Int) (ak:QR) (c2:Nat) (ws:List Int) (al:QR) (c3:Nat) (ae:List aW) (h2:ws) (h3:ae) (n2:ak= none->ws= []/\c2= 0) (n3:al= none->ae= []/\c3= 0) (cL:ws.length<=c2) (az:oH ⟨tu,se,sp,ws,ae⟩ =true) (w:World) (bp:aX 1 cE w ak ws) (bj:aX 3 aW.cells w al ae):
 Rd 261 #[.agg #[tu,se,sp,ak ws c2,al ae c3]] w λe ah=>∃aU d2 bd d3,e= .returned (.tuple #[.agg #[tu,se,(0:Int),.slice aU ws d2,.slice bd (oV ⟨tu,se,sp,ws,ae⟩).ae.length d3],true])/\kq w ah aU d2 bd d3 ws (oV ⟨tu,se,sp,ws,ae⟩).ae/\Below w w ah:=by
 refine sa ?_ bp bj n2 n3;clear bp bj n2 n3;intro bp bj n2 n3
 have fo:(⟨tu,se,sp,ws,ae⟩ :fp).ok= true:=by simp only [oH,Xa] at az;exact az.1
 have aP:(sp == 0)= false:=by simp only [oH,Xa,YJ] at az;exact az.2
 have hlen:=Vv fo
 obtain⟨rY,nj,sP⟩:=Kd fo (Xb.1 aP)
 have Hi:=(nt.1 fo).t
 obtain⟨ar,aj,aY⟩:=zZ.1 nj
 have jH:=SU (xs:=ae) (m:=sp)
 obtain⟨⟨eP,st,cR⟩,lM⟩ :∃x,fr ae sp= x:=⟨_,rfl⟩
 have My:yw ⟨tu,se,sp,ws,ae⟩ =⟨sp,st + 1,cR⟩:=by simp [yw,lM]
 have e1:(oV ⟨tu,se,sp,ws,ae⟩).ae= gg ae ⟨sp,st + 1,cR⟩:=by simp [oV,My]
 simp only at sP aj aY
 rw [lM] at sP aj aY jH
 simp only at sP aj aY jH Hi
 subst jH
 rw [e1]
 have cI:Hid (hG tu se eP ws ae= true):=I fo;have rN:=I lM
 have aFY:ae.length<=1048575:=by simp only at hlen;omega
 clear fo az rY nj ar lM My e1 hlen
 go_in
 go_upto_region 1 with fail
 refine fU λaO ar ag J=>?_
 have U:=ar;have aJ:=ag.aL;have af:=J.aL;have hC:=J.lt
 go_wp2_with fail
 refine (oy c2 h2 h3 cL _ cI.o (bp.o.ad (ai U ao)) (bj.o.ad (ai U ao))).mono ?_
 rintro e aI ⟨rfl,aQ⟩
 have aj:=be aO aQ;replace U:=ai U aj;replace ag:=ag.to aj;replace aJ:=ag.aL;replace J:=J.to aj;replace af:=J.aL
 go_wp2_with fail
 refine (Ol h2 h3 n2.o n3.o (bp.o.ad (ai U ao)) (bj.o.ad (ai U ao))).mono ?_
 rintro e bw ⟨aU,d2,g3,d3,rfl,dv,bG⟩
 have aY:=be aI bG;replace U:=ai U aY;clear aJ;replace J:=J.to aY;replace af:=J.aL
 go_upto_region 4 with fail
 refine Xi λbH cj aR=>?_;have fb:=dv.aK cj;have lf:=(dv.fE.lt g3 rfl)
 have kI:=λk ax=>(dv.fc.lt k ax).2
 have ql:aI.heap.size<=bw.heap.size:=bG.size;replace kI:=I kI;clear dv
 replace U:=ai U cj;have bE:=aR.aL;replace J:=J.to cj;replace af:=J.aL;have lN:=aR.lt;have pE:=aj.size;replace aR:=I aR;replace fb:=I fb;clear bE
 go_wp2_with fail
 refine (akl aFY st cR rN.o KK KK KK KK aR.o fb.o.fE).mono ?_
 rintro e cO ⟨rfl,g5,c5,dk,fI,eI,nh,vt,aFP⟩
 have dB:=(J.jE fI Yx).jE eI Yx;have ng:=(fb.o.fc.kept fI (λk ax e=>fb.o.ap k ax (by rw [e];rfl))).kept eI (λk ax e=>by have h1:=kI.o k ax;have h2:k= bw.heap.size:=Wx e;omega);have FD:Below w w cO:=(U.grown fI KK (λk ax=>by have:=Wx ax;omega)).grown eI (by have:=fI.size;omega) (λk ax=>by have:=Wx ax;omega)
 replace vt:=I vt;replace ng:=I ng;clear fI eI aFP J ag;replace U:=FD;clear FD;replace af:=dB.aL;have bE:=nh.aL;have aDe:=dB.frozen 0;have aDf:=dB.frozen 1;have aDg:=dB.frozen 2;have aDh:=dB.frozen 3;have aDi:=dB.frozen 4;have bh:=ng.o;have bf:=vt.o
 go_wp2
 clear af bE
 refine hs 0 λcP aE=>?_
 replace U:=aE.aN U;replace dB:=aE.iK dB;replace bh:=bh.cS aE (λk ax=>by first | exact eo k ax | (have:=bh.lt k ax;omega));replace bf:=bf.cS aE (λk ax=>by first | exact dL k ax | (have:=bf.lt k ax;omega));have af:=dB.aL
 refine XY (v:= .tuple #[.agg #[tu,se,(0:Int),.slice aU ws d2,g5 (gg ae ⟨eP,st + 1,cR⟩).length c5],true]) (by simp [results,Tryz.results261,go_sem,af]) rfl ?_
 exact alB
def aBf (tu se sp st cR:Int) (ws:List Int) (ae:List aW):mZ ((Option Addr×Nat)×Nat×Nat) where
 par:=λ_=>[]
 val:=λn p=>match n with
  | 1=> .agg #[.int .i64 tu,.int .i64 se,.int .i64 sp,.slice p.1.1 ws.length p.1.2,.slice (some ⟨p.2.1,0,none⟩) ae.length p.2.2]
  | 5=> .agg #[.int .i64 sp,.int .i64 st,.int .i64 cR]
  | 6=> .pointer (some ⟨p.2.1,0,none⟩)
  | 7=> .pointer (some ⟨p.2.1,0,none⟩)
  | _=>undef
 post:=λn _ p dy V=>match n with
  | 1=>kq dy.heap.size V p.1.1 p.1.2 (some ⟨p.2.1,0,none⟩) p.2.2 ws ae
  | 6=>dy.heap.size= p.2.1/\ay V p.2.1 41 #[.int .i64 0,.int .i64 0,.int .i64 0,.slice none 0 0,.slice none 0 0]
  | 7=>dy.heap.size= p.2.1/\ay V p.2.1 214 #[.int .i64 0,.int .i64 0,.int .i64 0]
  | _=>True
theorem akB (h:z:=by
 have eg:=J.iW
 go_wp2
 clear aJ af
 refine hs 0 λcP aE=>?_
 replace U:=aE.aN U;replace J:=aE.iK J;have af:=J.aL
 exact hV ⟨rfl,U⟩ (by simp [results,Tryz.results260,go_sem,af])):z:=h
theorem avG (tu se sp:Int) (ak:QR) (c2:Nat) (ws:List Int) (al:QR) (c3:Nat) (ae:List aW) (h2:ws) (h3:ae) (n2:ak= none->ws= []/\c2= 0) (n3:al= none->ae= []/\c3= 0) (cL:ws.length<=c2) (n:Int) (az:qq ⟨tu,se,sp,ws,ae⟩ n= false) (w:World) (bp:aX 1 cE w ak ws) (bj:aX 3 aW.cells w al ae):
 Rd 260 #[.agg #[tu,se,sp,ak ws c2,al ae c3],n] w λe ah=>e= .returned (.tuple #[.agg #[(0:Int),(0:Int),(0:Int),(),()],(0:Int),false])/\Below w w ah:=by
 replace bp:=I bp;replace bj:=I bj;clear n2 n3
 cases hf:hG tu se sp ws ae
 .have cI:=I hf;clear hf az
  go_in
  go_upto_region 1 with fail
  refine fU λaO ar ag J=>?_
  have U:=ar;have aJ:=ag.aL;have af:=J.aL
  go_wp2_with fail
  refine (oy c2 h2 h3 cL _ cI.o (bp.o.ad (ai U ao)) (bj.o.ad (ai U ao))).mono ?_
  rintro e aI ⟨rfl,aQ⟩
  have aj:=be aO aQ;replace U:=ai U aj;clear aJ;replace J:=J.to aj;replace af:=J.aL;have eg:=J.iW
  go_wp2
  clear af
  refine hs 0 λcP aE=>?_
  replace U:=aE.aN U;replace J:=aE.iK J;have af:=J.aL
  exact hV ⟨rfl,U⟩ (by simp [results,Tryz.results260,go_sem,af])
 .cases aP:(sp == 0)
  case true=>
   have cI:=I hf;clear hf az
   go_in
   go_upto_region 1 with fail
   refine fU λaO ar ag J=>?_
   have U:=ar;have aJ:=ag.aL;have af:=J.aL
   go_wp2_with fail
   refine (oy c2 h2 h3 cL _ cI.o (bp.o.ad (ai U ao)) (bj.o.ad (ai U ao))).mono ?_
   rintro e aI ⟨rfl,aQ⟩
   have aj:=be aO aQ;replace U:=ai U aj;replace ag:=ag.to aj;replace aJ:=ag.aL;replace J:=J.to aj;replace af:=J.aL
   exact akB
  case false=>
   have bo:fB n 1 3600= false:=by simpa [qq,fp.ok,hf,aP] using az
   replace bo:=I bo;have cI:=I hf;clear hf az
   go_in
   go_upto_region 1 with fail
   refine fU λaO ar ag J=>?_
   have U:=ar;have aJ:=ag.aL;have af:=J.aL
   go_wp2_with fail
   refine (oy c2 h2 h3 cL _ cI.o (bp.o.ad (ai U ao)) (bj.o.ad (ai U ao))).mono ?_
   rintro e aI ⟨rfl,aQ⟩
   have aj:=be aO aQ;replace U:=ai U aj;replace ag:=ag.to aj;replace aJ:=ag.aL;replace J:=J.to aj;replace af:=J.aL
   go_wp2_with fail
   refine (ku _ bo.o _).mono ?_
   rintro e w0 ⟨rfl,h0⟩
   rw [h0]
   clear h0 w0
   exact akB
theorem alz (h:z:=by
 refine XV ?_
 go_wp2
 exact hz ⟨((none,0),k.world,0),rfl,bP _ _,rfl,ay.new _ _ _⟩):z:=h
theorem amR (h:z:=by
 have e0:(vV ⟨tu,se,eP,ws,ae⟩ n).dp= (⟨tu,se,eP,ws,ae⟩ :fp).se:=by rw [KS.o];exact zp
 have e2:Aa ⟨tu,se,eP,ws,ae⟩ n=⟨tu,se,eP,ws,gg ae ⟨eP,st,cR + u⟩⟩:=by simp only [Aa];rw [KS.o]
 rw [lp,XX e0,e2]
 refine⟨rfl,?_⟩
 have e3:yw ⟨tu,se,eP,ws,gg ae ⟨eP,st,cR + u⟩⟩ =⟨eP,st + 1,cR + u⟩:=by simp only [yw];rw [EP.o]
 simp only [oV];rw [e3]):z:=h
theorem akN (h:z:=by
 have e0:¬(vV ⟨tu,se,eP,ws,ae⟩ n).dp= (⟨tu,se,eP,ws,ae⟩ :fp).se:=by rw [KS.o];exact zp
 rw [lp,XU e0]
 refine⟨rfl,?_⟩
 simp only [Aa];rw [KS.o]):z:=h
theorem YI (h:wpQuiet P O C Q [x0,x1,x2] a):wpQuiet P O C Q [x0,x1,x2] a:=h
theorem avH (tu se sp:Int) (ak:QR) (c2:Nat) (ws:List Int) (al:QR) (c3:Nat) (ae:List aW) (h2:ws) (h3:ae) (n2:ak= none->ws= []/\c2= 0) (n3:al= none->ae= []/\c3= 0) (cL:ws.length<=c2) (n:Int) (az:qq ⟨tu,se,sp,ws,ae⟩ n= true) (w:World) (bp:aX 1 cE w ak ws) (bj:aX 3 aW.cells w al ae):
 Rd 260 #[.agg #[tu,se,sp,ak ws c2,al ae c3],n] w λe ah=>∃aU d2 bd d3,e= .returned (.tuple #[.agg #[tu,se,.int .i64 (lp ⟨tu,se,sp,ws,ae⟩ n).sp,.slice aU ws d2,.slice bd (lp ⟨tu,se,sp,ws,ae⟩ n).ae.length d3],.int .i64 (yh ⟨tu,se,sp,ws,ae⟩ n),true])/\kq w ah aU d2 bd d3 ws (lp ⟨tu,se,sp,ws,ae⟩ n).ae/\Below w w ah:=by
 refine sa ?_ bp bj n2 n3;clear bp bj n2 n3;intro bp bj n2 n3
 obtain⟨fo,tI,tF,zv⟩:=OS az
 have aP:(sp == 0)= false:=Xb.2 tI;have hlen:=Vv fo
 obtain⟨rY,nj,sP⟩:=Kd fo tI
 have Hi:=(nt.1 fo).t;have zD:=(nt.1 fo).s
 obtain⟨ar,aj,aY⟩:=zZ.1 nj
 have jH:=SU (xs:=ae) (m:=sp);have GX:=(nt.1 fo).ord
 obtain⟨⟨eP,st,cR⟩,lM⟩ :∃x,fr ae sp= x:=⟨_,rfl⟩
 simp only at sP aj aY GX
 rw [lM] at sP aj aY jH
 simp only at sP aj aY jH Hi zD
 have aFZ:=lM
 subst jH
 obtain⟨u,hu⟩ :∃u,u= (if n < se - cR then n else se - cR):=⟨_,rfl⟩
 have Gr:yh ⟨tu,se,eP,ws,ae⟩ n= u:=by simp [yh,lM,hu]
 have aug:0<=u/\u<=se - cR:=by rw [hu];split <;> omega
 have Mr:vV ⟨tu,se,eP,ws,ae⟩ n=⟨eP,st,cR + u⟩:=by simp [vV,lM,Gr]
 rw [Gr]
 have cI:Hid (hG tu se eP ws ae= true):=I fo;have kA:Hid (fB n 1 3600= true):=I (qT.2 ⟨tF,zv⟩);have rN:=I lM;have KS:=I Mr;have Uk:=I hu
 have aFY:ae.length<=1048574:=by simp only at hlen;omega
 have Hf:(gg ae ⟨eP,st,cR + u⟩).length<=1048575:=by have:=HT ae ⟨eP,st,cR + u⟩;omega
 have EP:fr (gg ae ⟨eP,st,cR + u⟩) eP=⟨eP,st,cR + u⟩:=by rw [Ku eP GX,XX rfl]
 replace EP:=I EP;replace Hf:=I Hf;clear fo az rY nj ar lM hlen aFZ GX Mr tI hu Gr tF zv
 go_in
 go_upto_region 1 with fail
 refine fU λaO ar ag J=>?_
 have U:=ar;have aJ:=ag.aL
 obtain⟨z0,bF,z2,z3,z4⟩:=J.aL
 have hC:=J.lt
 go_wp2_with fail
 refine (oy c2 h2 h3 cL _ cI.o (bp.o.ad (ai U ao)) (bj.o.ad (ai U ao))).mono ?_
 rintro e aI ⟨rfl,aQ⟩
 have aj:=be aO aQ;replace U:=ai U aj;replace ag:=ag.to aj;replace aJ:=ag.aL;replace J:=J.to aj;clear z0 bF z2 z3 z4
 obtain⟨z0,bF,z2,z3,z4⟩:=J.aL
 go_wp2_with fail
 refine (ku _ kA.o _).mono ?_
 rintro e w0 ⟨rfl,h0⟩
 rw [h0]
 clear h0 w0;have pE:=aj.size
 go_upto_region 3 with fail
 have arW:=U
 obtain⟨Fw,ux⟩ :∃X:World->Prop,∀V,X V↔(Below w w V/\ay V w 41 #[tu,se,eP,ak ws c2,al ae c3]):=⟨_,λ_=>Xt⟩
 have wh:=I ux;clear ux
 haveI:Nonempty (cM Fw):=⟨⟨aI,((wh.o _).2 ⟨U,ag⟩)⟩⟩
 clear z0 bF z2 z3 z4;replace aJ:=ay.kG (λK:cM Fw=>((wh.o _).1 K.holds).2)
 go_wp2
 refine DB (aBf tu se eP st cR ws ae) Fw [([0],1),([2,3,4],5),([],6),([],7)] [] [([],8),([],9)] [] PV PV ((wh.o _).2 ⟨U.drew,ag⟩) (λW fz h k=>((wh.o _).2 ⟨((wh.o _).1 h).1.trans (k.mono ((wh.o _).1 h).1.size),((wh.o _).1 h).2.ad k ((wh.o _).1 h).2.lt⟩)) ?_
 intro bA
 refine iP (some 25) rfl (.agg #[tu,se,eP,.slice (bA 1).1.1 ws.length (bA 1).1.2,.slice (some ⟨(bA 1).2.1,0,none⟩) ae.length (bA 1).2.2]) rfl λhE eu=>?_
 refine Xp ?_
 repeat go_big_quiet_step (fail)
 refine VF ?_
 refine⟨λk fQ=>?_,eu _ ?_⟩
 .refine XV ?_
  go_wp2_with fail
  refine (Ol h2 h3 n2.o n3.o (bp.o.ad ((wh.o _).1 k.holds).1) (bj.o.ad ((wh.o _).1 k.holds).1)).mono ?_
  rintro e eB ⟨aU,d2,g3,d3,rfl,dv,eJ⟩
  go_wp2
  exact hz ⟨((aU,d2),g3,d3),rfl,eJ,dv⟩
 simp only [Act.put]
 go_simp
 refine iP (some 29) rfl (.agg #[eP,st,cR]) rfl λhE eu=>?_
 refine YI ?_
 repeat go_big_quiet_step (fail)
 refine VF ?_
 refine⟨λk fQ=>?_,eu _ ?_⟩
 .refine XV ?_
  go_wp2_with fail
  refine (Dw tu se eP ak ws.length c2 al c3 ae h3 eP ⟨eP,st,cR⟩ rN.o _ (bj.o.ad ((wh.o _).1 k.holds).1)).mono ?_
  rintro e eB ⟨rfl,eJ⟩
  go_wp2
  exact hz ⟨((none,0),0,0),rfl,eJ,trivial⟩
 simp only [Act.put]
 go_simp
 refine iP (some 7) rfl (.pointer (some ⟨(bA 6).2.1,0,none⟩)) rfl λhE eu=>?_
 refine Xn ?_
 refine VF ?_
 refine⟨λk fQ=>?_,eu _ ?_⟩
 .exact alz
 simp only [Act.put]
 go_simp
 refine iP (some 8) rfl (.pointer (some ⟨(bA 7).2.1,0,none⟩)) rfl λhE eu=>?_
 refine Xn ?_
 refine VF ?_
 refine⟨λk fQ=>?_,eu _ ?_⟩
 .exact alz
 simp only [Act.put]
 go_simp
 refine tU ?_
 refine Xn ?_
 refine VF ?_
 intro dy V W aC cv
 have VY:kq (dy 1) (V 1) (bA 1).1.1 (bA 1).1.2 (some ⟨(bA 1).2.1,0,none⟩) (bA 1).2.2 ws ae:=aC.post 1 Wn
 obtain⟨fx,VO⟩ :(dy 6).heap.size= (bA 6).2.1/\ay (V 6) (bA 6).2.1 41 #[(0:Int),(0:Int),(0:Int),(),()]:=aC.post 6 Wn
 obtain⟨kt,QM⟩ :(dy 7).heap.size= (bA 7).2.1/\ay (V 7) (bA 7).2.1 214 #[(0:Int),(0:Int),(0:Int)]:=aC.post 7 Wn
 have ek:aI.heap.size<=(bA 6).2.1:=fx ▸ (aC.oj 6 Wn).size;have ig:aI.heap.size<=(bA 7).2.1:=kt ▸ (aC.oj 7 Wn).size
 have WJ:(bA 7).2.1≠(bA 1).2.1:=by
  have a1:=aC.apart 1 Wn 7 Wn WG;have a2:=VY.fE.lt (bA 1).2.1 rfl;have a3:=QM.lt
  omega
 have dv:=(VY.aK (aC.aK 1 Wn)).base (B':=aI) (aC.oj 1 Wn).size;have aR:=VO.ad (aC.aK 6 Wn) VO.lt;have bJ:=QM.ad (aC.aK 7 Wn) QM.lt;have cj:Below aI aI W:=ai ao (aC.whole 1 Wn).rI;replace U:=ai U cj;replace ag:=ag.to cj;replace aJ:=ag.aL;replace J:=J.to cj
 obtain⟨z0,bF,z2,z3,z4⟩:=J.aL
 clear aC VY fx VO kt QM cv
 generalize bA 1= dJ at *
 generalize bA 6= tN at *
 generalize bA 7= HF at *
 obtain⟨⟨aU,d2⟩,g3,d3⟩:=dJ
 obtain⟨_,x,_⟩:=tN
 obtain⟨_,s,_⟩:=HF
 simp only at dv aR bJ ek ig WJ
 have GL:s≠g3:=WJ;clear WJ
 have Bi:x≠s:=by
  rintro rfl
  unfold ay at aR bJ
  rw [aR] at bJ
  injection bJ with bJ
  injection bJ with _ h9 _
  exact absurd h9 WG
 have afz:x≠g3:=dv.fE.Dm aR WG
 have Hd:∀k,(Value.slice aU ws d2).ownBlock= some k->k≠x/\k≠s:=λk ax=>by
  obtain⟨_,g,e,cy⟩ :∃(c:Unit) (g:Nat),aU= some ⟨g,0,none⟩/\g= k:=by
   rcases dv.fc.2 with ⟨e1,_⟩ | ⟨bS,cap,cur,e1,_⟩
   .injection e1 with e2 _ _;subst e2;cases ax
   .injection e1 with e2 _ _;subst e2;exact⟨(),bS,rfl,Wx ax⟩
  subst cy
  have UE:=dv.fc
  rw [e] at UE
  exact⟨λe9=>UE.Dm aR WG e9.symm,λe9=>UE.Dm bJ WG e9.symm⟩
 replace Hd:=I Hd;have bh:=dv.fc;have bf:=dv.fE;clear dv;have bE:=aR.aL;have cT:=bJ.cb
 refine gA λff da=>?_
 refine Xn ?_
 refine VF ?_
 refine XV ?_
 have Vq:=aR.iW
 go_wp2
 clear Vq
 have eo:∀k,(Value.slice aU ws d2).ownBlock= some k->¬k= x:=λk ax=>(Hd.o k ax).1
 have dL:∀k,(Value.slice g3 ae d3).ownBlock= some k->¬k= x:=λk ax e=>afz aGL
 clear aJ z0 bF z2 z3 z4 bE cT
 refine hs 0 λEd jL=>?_
 replace U:=jL.aN U;replace ag:=jL.dj ag;replace J:=jL.dj J;replace aR:=jL.iK aR;replace bJ:=jL.dj bJ;replace bh:=bh.cS jL eo;replace bf:=bf.cS jL dL;have aJ:=ag.aL
 obtain⟨z0,bF,z2,z3,z4⟩:=J.aL
 have bE:=aR.aL;have cT:=bJ.cb;clear eo dL
 refine gb (((wh.o _).2 ⟨U,ag⟩)) (da _ _ ?_)
 refine gA λff da=>?_
 refine Xn ?_
 refine VF ?_
 refine XV ?_
 obtain⟨arn,Vp,MB⟩:=bJ.kH
 go_wp2
 clear arn Vp MB
 have eo:∀k,(Value.slice aU ws d2).ownBlock= some k->¬k= s:=λk ax=>(Hd.o k ax).2
 have dL:∀k,(Value.slice g3 ae d3).ownBlock= some k->¬k= s:=λk ax e=>GL aGL
 clear aJ z0 bF z2 z3 z4 bE cT
 refine ra 0 λpP gz=>?_
 replace U:=gz.aN U;replace ag:=gz.dj ag;replace J:=gz.dj J;replace aR:=gz.dj aR;replace bJ:=gz.AH bJ;replace bh:=bh.cS gz eo;replace bf:=bf.cS gz dL;have aJ:=ag.aL
 obtain⟨z0,bF,z2,z3,z4⟩:=J.aL
 have bE:=aR.aL;have cT:=bJ.cb;clear eo dL
 refine gb (((wh.o _).2 ⟨U,ag⟩)) (da _ _ ?_)
 refine ky ?_
 refine Xn ?_
 refine VF ?_
 go_upto_region 5 with fail
 have aff:min n (se - cR)= u:=by
  rw [Uk.o]
  by_cases aN:n < se - cR
  .rw [XX aN];omega
  .rw [XU aN];omega
 rw [aff]
 clear aff
 have qR:IntKind.i64.wrap (cR + u)= cR + u:=by rw [IntKind.wrap_i64];omega
 have MB:=bJ.frozen 2
 go_upto_region 6 with fail
 clear MB
 have eo:∀k,(Value.slice aU ws d2).ownBlock= some k->¬k= s:=λk ax=>(Hd.o k ax).2
 have dL:∀k,(Value.slice g3 ae d3).ownBlock= some k->¬k= s:=λk ax e=>GL aGL
 clear aJ z0 bF z2 z3 z4 bE cT
 refine kL 2 λCh jA=>?_
 replace U:=jA.aN U;replace ag:=jA.dj ag;replace J:=jA.dj J;replace aR:=jA.dj aR;replace bJ:=jA.aHQ bJ;replace bh:=bh.cS jA eo;replace bf:=bf.cS jA dL;have aJ:=ag.aL
 obtain⟨z0,bF,z2,z3,z4⟩:=J.aL
 have bE:=aR.aL;have cT:=bJ.cb;clear eo dL qR;have yl:=U.size;have aFf:=aR.lt;have kS:=bh.apart bf WG;have CK:=(bf.lt g3 rfl).1;have afr:w.heap.size<=aI.heap.size:=arW.size
 have He:aI.heap.size<=Ch.heap.size:=KK
 refine sa ?_ aR ag J kS;clear aR ag J kS;intro aR ag J kS;have jD:=I bf;have jC:=I bh;have nr:=I bJ;have FD:=I U;clear bf bh bE aJ z0 bF z2 z3 z4
 go_wp2_with fail
 refine (ajj (.slice aU ws d2) KK ⟨eP,st,cR + u⟩ rfl ek He afz aR.o jD.o).mono ?_
 rintro e dk ⟨rfl,g5,c5,Pg,fI,eI,xM,aeg,aEo⟩
 have adT:=(ag.o.jE fI Yx).jE eI Yx;have xN:=(J.o.jE fI Yx).jE eI Yx;have jd:=(nr.o.jE fI (by intro e;exact GL (Wx e))).jE eI (by intro e;exact Bi (Wx e).symm)
 have ng:=(jC.o.kept fI (λk ax e=>kS.o k ax (by rw [e];rfl))).kept eI (λk ax e=>(Hd.o k ax).1 (Wx e));have aax:Below w w dk:=(FD.o.grown fI KK (λk ax=>by have:=Wx ax;omega)).grown eI (by have:=fI.size;omega) (λk ax=>by have:=Wx ax;omega);clear fI eI bJ;replace U:=aax;clear aax
 have aJ:=adT.aL
 obtain⟨z0,bF,z2,z3,z4⟩:=xN.aL
 have bE:=xM.aL;replace cT:=jd.cb;have aFe:=xN.lt;have aFd:=jd.lt;have bh:=ng;have bf:=aeg;clear ng aeg
 by_cases zp:cR + u= se
 .have wS:(cR + u == se)= true:=Xx.2 zp
  have e1:(lp ⟨tu,se,eP,ws,ae⟩ n).sp= 0/\(lp ⟨tu,se,eP,ws,ae⟩ n).ae= gg (gg ae ⟨eP,st,cR + u⟩) ⟨eP,st + 1,cR + u⟩:=by
   exact amR
  replace e1:=I e1;have wo:=I xM;have TW:=I bf;have aor:=I bh;have lW:=I xN;have anY:=I (bh.apart bf WG);have FE:=I U;have aDU:=(bf.lt g5 rfl).1;clear zp
  go_upto_region 8 with fail
  clear xM bf bh xN adT jd aJ z0 bF z2 z3 z4 bE cT
  go_wp2_with fail
  refine (akl Hf.o st (cR + u) EP.o KK KK ek KK wo.o TW.o).mono ?_
  rintro e du ⟨rfl,g7,AL,wr,fI,eI,zg,nT,aEp⟩
  have wO:=(lW.o.jE fI Yx).jE eI Yx;have ng:=(aor.o.kept fI (λk ax e=>anY.o k ax (by rw [e];rfl))).kept eI (λk ax e=>(Hd.o k ax).1 (Wx e));have xz:Below w w du:=(FE.o.grown fI KK (λk ax=>by have:=Wx ax;omega)).grown eI (by have:=fI.size;omega) (λk ax=>by have:=Wx ax;omega)
  replace U:=xz;clear xz
  obtain⟨z0,bF,z2,z3,z4⟩:=wO.aL
  have bE:=zg.aL;have bh:=ng;have bf:=nT;clear ng nT;have aDo:=wO.frozen 0;have aDp:=wO.frozen 1;have aDq:=wO.frozen 2;have aDr:=wO.frozen 3;have aDs:=wO.frozen 4
  go_wp2
  clear z0 bF z2 z3 z4 bE
  refine hs 0 λcP aE=>?_
  replace U:=aE.aN U;replace wO:=aE.iK wO;replace bh:=bh.cS aE (λk ax=>by first | exact eo k ax | (have:=bh.lt k ax;omega));replace bf:=bf.cS aE (λk ax=>by first | exact dL k ax | (have:=bf.lt k ax;omega))
  have z0:=wO.aL
  refine XY (v:= .tuple #[.agg #[tu,se,(0:Int),.slice aU ws d2,g7 (gg (gg ae ⟨eP,st,cR + u⟩) ⟨eP,st + 1,cR + u⟩).length AL],.int .i64 u,true]) (by simp [results,Tryz.results260,go_sem,z0]) rfl ?_
  rw [e1.o.1,e1.o.2]
  exact⟨aU,d2,some ⟨g7,0,none⟩,AL,rfl,⟨bh.base KK,bf.base KK,bh.apart bf WG⟩,U⟩
 .have wS:(cR + u == se)= false:=Xb.2 zp
  have e1:(lp ⟨tu,se,eP,ws,ae⟩ n).sp= eP/\(lp ⟨tu,se,eP,ws,ae⟩ n).ae= gg ae ⟨eP,st,cR + u⟩:=by
   exact akN
  replace e1:=I e1;clear zp;have aDj:=xN.frozen 0;have aDk:=xN.frozen 1;have aDl:=xN.frozen 2;have aDm:=xN.frozen 3;have aDn:=xN.frozen 4
  go_wp2
  clear aJ z0 bF z2 z3 z4 bE cT
  refine hs 0 λcP aE=>?_
  replace U:=aE.aN U;replace xN:=aE.iK xN;replace bh:=bh.cS aE (λk ax=>by first | exact eo k ax | (have:=bh.lt k ax;omega));replace bf:=bf.cS aE (λk ax=>by first | exact dL k ax | (have:=bf.lt k ax;omega))
  have z0:=xN.aL
  refine XY (v:= .tuple #[.agg #[tu,se,eP,.slice aU ws d2,g5 (gg ae ⟨eP,st,cR + u⟩).length c5],.int .i64 u,true]) (by simp [results,Tryz.results260,go_sem,z0]) rfl ?_
  rw [e1.o.1,e1.o.2]
  exact alB
theorem agc (a:Int) (w:World):Rd 302 #[a] w λe ah=>e= .returned false/\ah= w:=by
 go_in
 go_wp2
 go_ret
 exact⟨by first | rfl | (refine fe ?_;simp),rfl⟩
theorem aHo (h:z:=by
 go_in
 go_wp2_with fail
 refine (agc a _).mono ?_
 rintro e w0 ⟨rfl,h0⟩
 rw [h0]
 clear h0 w0
 go_wp2_with fail
 refine (agc b _).mono ?_
 rintro e w0 ⟨rfl,h0⟩
 rw [h0]
 go_wp2
 go_ret
 exact⟨rfl,rfl⟩):z:=h
theorem apK (a b v:Int) (az:Ja a b= v) (w:World):Rd 252 #[a,b] w λe ah=>e= .returned v/\ah= w:=by
 subst az
 unfold Ja
 by_cases h1:a < b
 .rw [XX h1]
  exact aHo
 .rw [XU h1]
  by_cases h2:b < a
  .rw [XX h2]
   exact aHo
  .rw [XU h2]
   exact aHo
theorem acH (A:QR) (c:Nat) (xs:List Int) (bq:xs) (bl:A= none->xs= []/\c= 0) (w:World) (bB:aX 1 cE w A xs):
 Rd 245 #[A xs c] w λe ah=>∃bS dq,e= .returned (.slice (some ⟨bS,0,none⟩) xs dq)/\bn w 3 1 cE ah (.slice (some ⟨bS,0,none⟩) xs dq) xs/\Below w w ah:=by
 obtain⟨i0,bo,dP,dZ,dV⟩:=Xo vK
 have ju:=I (λe=>(bB.ad (bP w (.cells #[] e))):∀e:TypeId,aX 1 cE (w.alloc (.cells #[] e)) A xs);clear bB
 go_in
 go_wp2_with ((at_builtin;refine BF rfl _ _ 38 rfl w 3 i0 _ 1 8 Tryz.underlying38 bo dP dZ dV rfl WG cE fR qU w rfl (ay.new _ _ _) (XZ _) A c xs rfl (ju.o _) bl Xz KK ?_;intro bS dq bm aV aB))
 go_ret
 exact⟨bS,dq,rfl,aV,ai (bP _ _) aB⟩
theorem arH {T:Type} [Inhabited T] {enc:T->Value} {w:World} {o q:Nat} {d:Array T} {os:Array Obj}:w.grownBy (grow (putRow enc (Sort.ahead w q) g o d) os) (some g):=by
 refine⟨rfl,rfl,rfl,by simp,λk ax ew=>?_⟩
 rw [heap_grow_old _ _ (by simpa using ax)]
 have:g≠k:=λe=>ew (by rw [e])
 simp [putRow,mapBlock,Sort.ahead,Array.getElem?_modify,this]
theorem aka (nO:Nat) (n x:Int) (w:World) (bz:w.cell? ⟨nO,0,none⟩ =some (.int .i64 n)):Rd 330 #[x,.pointer (some ⟨nO,0,none⟩)] w λe ah=>e= .returned (.bool (x == n))/\ah= w:=by
 go_in
 go_wp2
 go_ret
 exact⟨rfl,rfl⟩
theorem aqk (B g cap nO:Nat) (n:Int) (ls:List Int) (aT:ls) (w:World) (aV:bn B 3 1 cE w (g ls cap) ls) (bz:w.cell? ⟨nO,0,none⟩ =some (.int .i64 n)) (eN:nO < w.heap.size) (ql:nO≠g):
 Rd 329 #[g ls cap,.func (.func 330) #[] #[.pointer (some ⟨nO,0,none⟩)]] w λe ah=>
  e= .returned (g (ls.filter λx=>!(x == n)).length cap)/\bn B 3 1 cE ah (g (ls.filter λx=>!(x == n)).length cap) (ls.filter λx=>!(x == n))/\w.grownBy ah (some g):=by
 have fW:bn B 3 1 (λx=>[Value.int .i64 x]) w (g ls cap) ls:=aV
 obtain⟨h1,h2,h3,h4⟩:=axP fW
 have lf:∀W,w.grownBy W (some g)->W.cell? ⟨nO,0,none⟩ =some (.int .i64 n):=λW cv=>(World.cell?_of_block (a:=⟨nO,0,none⟩) (cv.block nO eN (λe=>ql (Wx e)))).trans bz
 have aS:PredAt Tryz.prog 330 #[.pointer (some ⟨nO,0,none⟩)] (Value.int .i64) (λx=>x == n) w:=λW x cv=>
  (aka nO n x W (lf W (bL cv _))).mono λe ah ⟨he,hw⟩=>⟨he,0,hw⟩
 have aFR:PredOver Tryz.prog 330 #[.pointer (some ⟨nO,0,none⟩)] (Value.int .i64) (λx=>x == n) g 0 ls.toArray.size w:=λq os aCX x ax=>
  (aka nO n x _ (lf _ arH)).mono λe ah ⟨he,hw⟩=>⟨he,0,hw⟩
 have h:=Tryz.slices_DeleteFunc (Value.int .i64) (λ_=>rfl) (λx=>x == n) 330 #[.pointer (some ⟨nO,0,none⟩)] (enters_of Tryz.func330 PV rfl) 0 Tryz.zeroValue3 g 0 cap ls.toArray w aS aFR h1 Xq (by simpa using h3)
 rw [List.size_toArray] at h
 refine h.mono ?_
 rintro e ah ⟨rfl,q,rfl⟩
 have hle:(ls.filter λx=>!(x == n)).length<=ls.length:=List.length_filter_le _ _;have h5:=axQ (q:=q) (os:=#[]) (ys:=(ls.filter λx=>!(x == n)) ++ List.replicate (ls.length - (ls.filter λx=>!(x == n)).length) 0) fW (by rw [Xu,List.length_replicate];omega) hle
 rw [List.take_left' rfl,grow_empty] at h5
 exact⟨rfl,h5⟩
theorem aBX (A:QR) (c:Nat) (xs:List Int) (bq:xs) (bl:A= none->xs= []/\c= 0) (n:Int) (w:World) (bB:aX 1 cE w A xs):
 Rd 306 #[A xs c,n] w λe ah=>∃bS dq,e= .returned (.slice (some ⟨bS,0,none⟩) (xs.filter λx=>!(x == n)).length dq)/\bn w 3 1 cE ah (.slice (some ⟨bS,0,none⟩) (xs.filter λx=>!(x == n)).length dq) (xs.filter λx=>!(x == n))/\Below w w ah:=by
 replace bB:=I bB;replace bl:=I bl
 go_in
 go_upto_region 1 with fail
 refine dh λaO ar bz=>?_
 have U:=ar;have dD:=(bz.cell 0).trans (show _= some (.int .i64 n) from rfl);have aDD:=bz.lt
 go_wp2_with fail
 refine (acH A c xs bq bl.o _ (bB.o.ad (ai U ao))).mono ?_
 rintro e aI ⟨g1,aw,rfl,cm,aQ⟩
 have aj:=be aO aQ;replace U:=ai U aj;replace bz:=bz.to aj;replace dD:=(bz.cell 0).trans (show _= some (.int .i64 n) from rfl);have fI:=(cm.lt g1 rfl).1;have aT:=bz.lt;replace cm:=I cm;have vh:=I U;clear bz
 go_wp2_with fail
 refine (aqk aO g1 aw w n xs bq _ cm.o dD aT KK).mono ?_
 rintro e bw ⟨rfl,bf,hH⟩
 have FC:Below w w bw:=vh.o.grown hH (vh.o.size) (λk ax=>by have:=Wx ax;omega);clear dD
 go_wp2
 go_ret
 exact⟨g1,aw,rfl,bf.base KK,FC⟩
theorem aBk (nO:Nat) (tu se sp:Int) (ak:QR) (Dk c2:Nat) (al:QR) (c3:Nat) (ae:List aW) (h3:ae) (a b:Int) (v:Int) (az:Ja (fr ae a).dw (fr ae b).dw= v) (w:World)
 (bz:ay w nO 41 #[tu,se,sp,ak Dk c2,al ae c3]) (bj:aX 3 aW.cells w al ae):
 Rd 251 #[a,b,.pointer (some ⟨nO,0,none⟩)] w λe ah=>e= .returned v/\Below w w ah:=by
 obtain⟨⟨eY,kp,xs⟩,av⟩ :∃x,fr ae a= x:=⟨_,rfl⟩
 obtain⟨⟨ri,sn,ys⟩,hy⟩ :∃y,fr ae b= y:=⟨_,rfl⟩
 rw [av,hy] at az
 simp only at az
 refine sa ?_ av hy az bj;clear av hy az bj;intro av hy az bj
 have f1:=λW=>(show (Instr.field 214 (.agg #[eY,kp,xs]) 1).run Tryz.prog W= .ok (.int .i64 kp) W by kernel_rfl)
 have f2:=λW=>(show (Instr.field 214 (.agg #[ri,sn,ys]) 1).run Tryz.prog W= .ok (.int .i64 sn) W by kernel_rfl)
 have c0:=λK:aD w w=>((bz.ad K.ad bz.lt).cell 0).trans (show _= some (.int .i64 tu) from rfl)
 have aw:=λK:aD w w=>((bz.ad K.ad bz.lt).cell 1).trans (show _= some (.int .i64 se) from rfl)
 have aCJ:=λK:aD w w=>((bz.ad K.ad bz.lt).cell 2).trans (show _= some (.int .i64 sp) from rfl)
 have aCK:=λK:aD w w=>((bz.ad K.ad bz.lt).cell 3).trans (show _= some (ak Dk c2) from rfl)
 have c4:=λK:aD w w=>((bz.ad K.ad bz.lt).cell 4).trans (show _= some (al ae c3) from rfl)
 clear bz
 go_in
 go_wp2
 refine eQ PV PV ?_
 repeat go_big_quiet_step (fail)
 go_big_quiet_step ((go_at_call 201;exact aD.call _ Xm (Dw tu se sp ak Dk c2 al c3 ae h3 a ⟨eY,kp,xs⟩ av.o _ (bj.o.ad (aD.ad _)))))
 repeat go_big_quiet_step (fail)
 go_big_quiet_step ((go_at_call 201;exact aD.call _ Xm (Dw tu se sp ak Dk c2 al c3 ae h3 b ⟨ri,sn,ys⟩ hy.o _ (bj.o.ad (aD.ad _)))))
 repeat go_big_quiet_step (fail)
 go_big_quiet_step ((go_at_call 252;exact aD.same _ (apK kp sn v az.o _)))
 repeat go_big_quiet_step (fail)
 refine VF ?_
 intro K
 go_wp2
 go_ret
 exact⟨rfl,K.ad⟩
theorem aju (tu se sp:Int) (ak:QR) (c2:Nat) (ws:List Int) (al:QR) (c3:Nat) (ae:List aW) (h2:ws) (h3:ae) (n2:ak= none->ws= []/\c2= 0) (n3:al= none->ae= []/\c3= 0) (cL:ws.length<=c2) (hw:ws.length < 20) (w:World) (bp:aX 1 cE w ak ws) (bj:aX 3 aW.cells w al ae):
 Rd 174 #[.agg #[tu,se,sp,ak ws c2,al ae c3]] w λe ah=>∃bS dq,e= .returned (.slice (some ⟨bS,0,none⟩) (mU ⟨tu,se,sp,ws,ae⟩).length dq)/\bn w 3 1 cE ah (.slice (some ⟨bS,0,none⟩) (mU ⟨tu,se,sp,ws,ae⟩).length dq) (mU ⟨tu,se,sp,ws,ae⟩)/\Below w w ah:=by
 replace bp:=I bp;replace bj:=I bj;replace n2:=I n2;clear n3;have hlen:(mU ⟨tu,se,sp,ws,ae⟩).length= ws.length:=Ky _
 rw [hlen]
 clear hlen
 go_in
 go_upto_region 1 with fail
 refine dh λaO ar ag=>?_
 have U:=ar;have aJ:=ag.aL;have aDS:=ag.lt
 go_wp2_with fail
 refine (acH ak c2 ws h2 n2.o _ (bp.o.ad (ai U ao))).mono ?_
 rintro e aI ⟨g1,aw,rfl,cm,aQ⟩
 have aj:=be aO aQ;replace U:=ai U aj;replace ag:=ag.to aj;clear aJ;have fI:=(cm.lt g1 rfl).1;have pE:=aj.size;have nI:=I cm;have fP:=I ag;have vh:=I U;have wm:=I (bj.o.ad U)
 have su:Hid (∀eH,al= some eH->0 < ae.length->eH.block < w.heap.size):=I (λeH e bq=>by
  obtain⟨b,off,e2,aB,_⟩:=bj.o bq
  rw [e] at e2;cases e2;exact aB)
 clear cm ag
 go_upto_region 2 with fail
 go_wp2_with fail
 refine (aAX (wC (kN ⟨tu,se,sp,ws,ae⟩)) ws hw aO g1 aw w _ fI pE nI.o ?_).mono ?_
 .intro x z av cF W cv
  have arR:=fP.o.jE cv Yx
  have aso:aX 3 aW.cells W al ae:=if bq:0 < ae.length then wm.o.grown cv (λeH e e2=>by have h1:=su.o eH e bq;have h2:=Wx e2;have h3:=vh.o.size;omega) else λh0=>absurd h0 bq
  exact aBk w tu se sp ak ws.length c2 al c3 ae h3 x z _ rfl W arR aso
 rintro e bw ⟨rfl,bf,hH⟩
 have FC:Below w w bw:=vh.o.grown hH (vh.o.size) (λk ax=>by have:=Wx ax;omega)
 go_wp2
 go_ret
 exact⟨g1,aw,rfl,bf.base KK,FC⟩
theorem aHm (h:z:=by
 replace af:=J.aL;have eg:=J.iW
 go_wp2
 clear af
 refine hs 0 λcP aE=>?_
 replace U:=aE.aN U;replace J:=aE.iK J;have af:=J.aL
 exact hV ⟨rfl,U⟩ Zm):z:=h
theorem akC (h:z:=by
 have eg:=J.iW
 go_wp2
 clear aJ af
 refine hs 0 λcP aE=>?_
 replace U:=aE.aN U;replace J:=aE.iK J;have af:=J.aL
 exact hV ⟨rfl,U⟩ Zm):z:=h
theorem auy (tu se sp:Int) (ak:QR) (c2:Nat) (ws:List Int) (al:QR) (c3:Nat) (ae:List aW) (h2:ws) (h3:ae) (n2:ak= none->ws= []/\c2= 0) (n3:al= none->ae= []/\c3= 0) (cL:ws.length<=c2) (m:Int) (az:qf ⟨tu,se,sp,ws,ae⟩ m= false) (w:World) (bp:aX 1 cE w ak ws) (bj:aX 3 aW.cells w al ae):
 Rd 258 #[.agg #[tu,se,sp,ak ws c2,al ae c3],m] w λe ah=>e= .returned (.tuple #[.agg #[(0:Int),(0:Int),(0:Int),(),()],false])/\Below w w ah:=by
 replace bp:=I bp;replace bj:=I bj;clear n2 n3
 cases hB:hG tu se sp ws ae
 case false=>
  have cI:=I hB;clear hB;clear az
  go_in
  go_upto_region 1 with fail
  refine fU λaO ar ag J=>?_
  have U:=ar;have aJ:=ag.aL;have af:=J.aL
  go_wp2_with fail
  refine (oy c2 h2 h3 cL _ cI.o (bp.o.ad (ai U ao)) (bj.o.ad (ai U ao))).mono ?_
  rintro e aI ⟨rfl,aQ⟩
  have aj:=be aO aQ;replace U:=ai U aj;clear aJ;replace J:=J.to aj
  exact aHm
 case true=>
  cases hX:fy m
  case false=>
   have cI:=I hB;clear hB;have gi:=I hX;clear hX;clear az
   go_in
   go_upto_region 1 with fail
   refine fU λaO ar ag J=>?_
   have U:=ar;have aJ:=ag.aL;have af:=J.aL
   go_wp2_with fail
   refine (oy c2 h2 h3 cL _ cI.o (bp.o.ad (ai U ao)) (bj.o.ad (ai U ao))).mono ?_
   rintro e aI ⟨rfl,aQ⟩
   have aj:=be aO aQ;replace U:=ai U aj;clear aJ;replace J:=J.to aj;replace af:=J.aL
   go_wp2_with fail
   refine (kx _ gi.o _).mono ?_
   rintro e w0 ⟨rfl,h0⟩
   rw [h0]
   clear h0 w0;have eg:=J.iW
   go_wp2
   clear af
   refine hs 0 λcP aE=>?_
   replace U:=aE.aN U;replace J:=aE.iK J;have af:=J.aL
   exact hV ⟨rfl,U⟩ Zm
  case true=>
   cases kI:(m == sp)
   case true=>
    have cI:=I hB;clear hB;have gi:=I hX;clear hX;clear az
    go_in
    go_upto_region 1 with fail
    refine fU λaO ar ag J=>?_
    have U:=ar;have aJ:=ag.aL;have af:=J.aL
    go_wp2_with fail
    refine (oy c2 h2 h3 cL _ cI.o (bp.o.ad (ai U ao)) (bj.o.ad (ai U ao))).mono ?_
    rintro e aI ⟨rfl,aQ⟩
    have aj:=be aO aQ;replace U:=ai U aj;replace ag:=ag.to aj;replace aJ:=ag.aL;replace J:=J.to aj;replace af:=J.aL
    go_wp2_with fail
    refine (kx _ gi.o _).mono ?_
    rintro e w0 ⟨rfl,h0⟩
    rw [h0]
    clear h0 w0
    exact akC
   case false=>
    cases ry:hasB ws m
    case true=>
     have cI:=I hB;clear hB;have gi:=I hX;clear hX;have hK:=I ry;clear ry;clear az
     go_in
     go_upto_region 1 with fail
     refine fU λaO ar ag J=>?_
     have U:=ar;have aJ:=ag.aL;have af:=J.aL
     go_wp2_with fail
     refine (oy c2 h2 h3 cL _ cI.o (bp.o.ad (ai U ao)) (bj.o.ad (ai U ao))).mono ?_
     rintro e aI ⟨rfl,aQ⟩
     have aj:=be aO aQ;replace U:=ai U aj;replace ag:=ag.to aj;replace aJ:=ag.aL;replace J:=J.to aj;replace af:=J.aL
     go_wp2_with fail
     refine (kx _ gi.o _).mono ?_
     rintro e w0 ⟨rfl,h0⟩
     rw [h0]
     clear h0 w0
     go_wp2_with fail
     refine (Gm ak c2 ws m h2 _ hK.o _ (bp.o.ad (ai U ao))).mono ?_
     rintro e bw ⟨rfl,bG⟩
     have aY:=be aI bG;replace U:=ai U aY;clear aJ;replace J:=J.to aY
     exact aHm
    case false=>
     cases nU:rr tu se (fr ae m)
     case false=>
      have cI:=I hB;clear hB;have gi:=I hX;clear hX;have hK:=I ry;clear ry;have fl:=I nU;clear nU;clear az
      go_in
      go_upto_region 1 with fail
      refine fU λaO ar ag J=>?_
      have U:=ar;have aJ:=ag.aL;have af:=J.aL
      go_wp2_with fail
      refine (oy c2 h2 h3 cL _ cI.o (bp.o.ad (ai U ao)) (bj.o.ad (ai U ao))).mono ?_
      rintro e aI ⟨rfl,aQ⟩
      have aj:=be aO aQ;replace U:=ai U aj;replace ag:=ag.to aj;replace aJ:=ag.aL;replace J:=J.to aj;replace af:=J.aL
      go_wp2_with fail
      refine (kx _ gi.o _).mono ?_
      rintro e w0 ⟨rfl,h0⟩
      rw [h0]
      clear h0 w0
      go_wp2_with fail
      refine (Gm ak c2 ws m h2 _ hK.o _ (bp.o.ad (ai U ao))).mono ?_
      rintro e bw ⟨rfl,bG⟩
      have aY:=be aI bG;replace U:=ai U aY;replace ag:=ag.to aY;replace aJ:=ag.aL;replace J:=J.to aY;replace af:=J.aL
      go_wp2_with fail
      refine (Hm h3 _ fl.o (bj.o.ad (ai U ao))).mono ?_
      rintro e bH ⟨rfl,db⟩
      have cj:=be bw db;replace U:=ai U cj;clear aJ;replace J:=J.to cj
      exact aHm
     case true=>
      have wQ:decide (ws.length= 10)= true:=by simpa [qf,fp.ok,hB,hX,kI,ry,nU] using az
      have cI:=I hB;clear hB;have gi:=I hX;clear hX;have hK:=I ry;clear ry;have fl:=I nU;clear nU
      have cJ:((ws.length:Int) == 10)= true:=by have:=of_decide_eq_true wQ;rw [this];rfl
      clear wQ;clear az
      go_in
      go_upto_region 1 with fail
      refine fU λaO ar ag J=>?_
      have U:=ar;have aJ:=ag.aL;have af:=J.aL
      go_wp2_with fail
      refine (oy c2 h2 h3 cL _ cI.o (bp.o.ad (ai U ao)) (bj.o.ad (ai U ao))).mono ?_
      rintro e aI ⟨rfl,aQ⟩
      have aj:=be aO aQ;replace U:=ai U aj;replace ag:=ag.to aj;replace aJ:=ag.aL;replace J:=J.to aj;replace af:=J.aL
      go_wp2_with fail
      refine (kx _ gi.o _).mono ?_
      rintro e w0 ⟨rfl,h0⟩
      rw [h0]
      clear h0 w0
      go_wp2_with fail
      refine (Gm ak c2 ws m h2 _ hK.o _ (bp.o.ad (ai U ao))).mono ?_
      rintro e bw ⟨rfl,bG⟩
      have aY:=be aI bG;replace U:=ai U aY;replace ag:=ag.to aY;replace aJ:=ag.aL;replace J:=J.to aY;replace af:=J.aL
      go_wp2_with fail
      refine (Hm h3 _ fl.o (bj.o.ad (ai U ao))).mono ?_
      rintro e bH ⟨rfl,db⟩
      have cj:=be bw db;replace U:=ai U cj;replace ag:=ag.to cj;replace aJ:=ag.aL;replace J:=J.to cj;replace af:=J.aL
      exact akC
theorem auz (tu se sp:Int) (ak:QR) (c2:Nat) (ws:List Int) (al:QR) (c3:Nat) (ae:List aW) (h2:ws) (h3:ae) (n2:ak= none->ws= []/\c2= 0) (n3:al= none->ae= []/\c3= 0) (cL:ws.length<=c2) (m:Int) (az:qf ⟨tu,se,sp,ws,ae⟩ m= true) (w:World) (bp:aX 1 cE w ak ws) (bj:aX 3 aW.cells w al ae):
 Rd 258 #[.agg #[tu,se,sp,ak ws c2,al ae c3],m] w λe ah=>∃aU d2 bd d3,e= .returned (.tuple #[.agg #[tu,se,sp,.slice aU (ws ++ [m]).length d2,.slice bd ae d3],true])/\kq w ah aU d2 bd d3 (ws ++ [m]) ae/\Below w w ah:=by
 obtain⟨i0,bo,dP,dZ,dV⟩:=Xo vK
 refine sa ?_ bp bj n2 n3;clear bp bj n2 n3;intro bp bj n2 n3
 obtain⟨hB,hX,aP,ry,nU,wQ⟩ :hG tu se sp ws ae= true/\fy m= true/\(m == sp)= false/\hasB ws m= false/\rr tu se (fr ae m)= true/\ws.length≠10:=by
  simpa [qf,fp.ok] using az
 have cJ:((ws.length:Int) == 10)= false:=Xb.2 KK;have oP:ws.length<=10:=(nt.1 (show (⟨tu,se,sp,ws,ae⟩ :fp).ok= true from hB)).l
 refine sa ?_ hB hX ry nU
 clear hB hX ry nU
 intro hB hX ry nU
 clear wQ az
 go_in
 go_upto_region 1 with fail
 refine fU λaO ar ag J=>?_
 have U:=ar;have aJ:=ag.aL;have af:=J.aL;have hC:=J.lt
 go_wp2_with fail
 refine (oy c2 h2 h3 cL _ hB.o (bp.o.ad (ai U ao)) (bj.o.ad (ai U ao))).mono ?_
 rintro e aI ⟨rfl,aQ⟩
 have aj:=be aO aQ;replace U:=ai U aj;replace ag:=ag.to aj;replace aJ:=ag.aL;replace J:=J.to aj;replace af:=J.aL
 go_wp2_with fail
 refine (kx _ hX.o _).mono ?_
 rintro e w0 ⟨rfl,h0⟩
 rw [h0]
 clear h0 w0
 go_wp2_with fail
 refine (Gm ak c2 ws m h2 _ ry.o _ (bp.o.ad (ai U ao))).mono ?_
 rintro e bw ⟨rfl,bG⟩
 have aY:=be aI bG;replace U:=ai U aY;replace ag:=ag.to aY;replace aJ:=ag.aL;replace J:=J.to aY;replace af:=J.aL
 go_wp2_with fail
 refine (Hm h3 _ nU.o (bj.o.ad (ai U ao))).mono ?_
 rintro e bH ⟨rfl,db⟩
 have cj:=be bw db;replace U:=ai U cj;replace ag:=ag.to cj;replace aJ:=ag.aL;replace J:=J.to cj;replace af:=J.aL
 go_wp2_with fail
 refine (Ol h2 h3 n2.o n3.o (bp.o.ad (ai U ao)) (bj.o.ad (ai U ao))).mono ?_
 rintro e cO ⟨aU,d2,g3,d3,rfl,dv,eM⟩
 have dK:=be bH eM;replace U:=ai U dK;clear aJ;replace J:=J.to dK;replace af:=J.aL;have vX:=U.size;have Tb:=aj.size;have aIa:=aY.size;have aIb:=cj.size;have ajH:=dK.size
 go_upto_region 4 with fail
 refine Xi λdu gm aR=>?_;have fb:=dv.aK gm
 replace U:=ai U gm
 obtain⟨cA,x1,cB,cY,cZ⟩:=aR.aL
 replace J:=J.to gm;replace af:=J.aL;have lN:=aR.lt;have bh:=fb.fc;have bf:=fb.fE;have kS:=bh.apart bf WG;have rz:=bh.lt;have uG:=bh.bK aR
 have wR:∀k,(Value.slice aU ws d2).ownBlock= some k->k≠w.heap.size + 1:=λk ax e=>by have:=(rz k ax).1;have:=Tb;omega
 have jC:=I bh;have jD:=I bf;have fV:=I aR;have jN:=I J;have oc:=I kS;have FL:=I uG;have FM:=I wR;have FK:=I rz;have vh:=I U
 have Nh:bH.heap.size<=du.heap.size:=KK
 clear dv fb bh bf kS uG wR rz;have aHh:=cY;clear cA x1 cB cY cZ af
 go_upto_region 5 with ((at_builtin;refine ke rfl _ _ 38 rfl bH 3 i0 _ 1 8 Tryz.underlying38 bo dP dZ dV rfl WG cE fR qU _ ws rfl (jC.o.alloc _) ⟨du,0,none⟩ 1 m rfl (aX.one (f:=cE) m _) Xz KK Xq ?_;intro v9 eB ix en GD;have eT:=((fV.o.alloc (.cells #[m] 3)).jE en (λe=>FL.o _ e.symm rfl));clear GD;obtain⟨Y,iC,rfl,q1,gM,nn⟩:=ix.form fR;clear q1 gM nn;replace ix:bn bH 3 1 cE eB (Y (ws.length + 1) iC) (ws ++ [m]):=(by rw [Xu] at ix;exact ix);have QH:=eT.frozen 3;have Vm:=(eT.cell 3).trans (show _= some (Value.slice aU ws d2) from rfl)))
 have fg:Below w w eB:=(vh.o.alloc KK (.cells #[m] 3)).grown en Xq (λq bt=>by have:=(FK.o q bt).1;omega);have cp:=(jN.o.alloc (.cells #[m] 3)).jE en (λe=>FM.o _ e.symm rfl);have bf:=(jD.o.alloc (.cells #[m] 3)).kept en (λk ax e=>oc.o k e.symm ax.symm);have bh:=ix;have uG:=bh.bK eT
 have VD:=bf.Dm eT WG;clear aR J ag en ix QH Vm aHh;replace U:=fg;clear fg;have af:=cp.aL
 obtain⟨cA,x1,cB,cY,cZ⟩:=eT.aL
 have eo:∀k,(Value.slice Y (ws.length + 1) iC).ownBlock= some k->¬k= cO.heap.size:=uG
 have dL:∀k,(Value.slice g3 ae d3).ownBlock= some k->¬k= cO.heap.size:=λk ax e=>VD (by have h:g3= k:=Wx ax;omega)
 clear af cA x1 cB cY cZ
 refine kL 3 λQc mo=>?_
 replace U:=mo.aN U;replace cp:=mo.dj cp;replace eT:=mo.HK eT;replace bh:=bh.cS mo eo;replace bf:=bf.cS mo dL;have af:=cp.aL
 obtain⟨cA,x1,cB,cY,cZ⟩:=eT.aL
 clear eo dL
 have eo:∀k,(Value.slice Y (ws.length + 1) iC).ownBlock= some k->¬k= w.heap.size + 1:=λk ax e=>by have:=(bh.lt k ax).1;omega
 have dL:∀k,(Value.slice g3 ae d3).ownBlock= some k->¬k= w.heap.size + 1:=λk ax e=>by have h:=(bf.lt k ax).1;omega
 have Jc:=cp.frozen 0;have Jd:=cp.frozen 1;have Je:=cp.frozen 2;have Jf:=cp.frozen 3;have Jg:=cp.frozen 4
 go_wp2
 clear af cA x1 cB cY cZ
 refine hs 0 λQd mV=>?_
 replace U:=mV.aN U;replace cp:=mV.iK cp;replace eT:=mV.dj eT;replace bh:=bh.cS mV eo;replace bf:=bf.cS mV dL;have af:=cp.aL
 refine XY (v:= .tuple #[.agg #[tu,se,sp,Y (ws.length + 1) iC,g3 ae d3],true]) Zm rfl ?_
 have xS:(ws ++ [m]).length= ws.length + 1:=Wn
 rw [xS]
 exact⟨Y,iC,some ⟨g3,0,none⟩,d3,rfl,⟨by rw [xS];exact bh.base KK,bf.base KK,by rw [xS];exact bh.apart bf WG⟩,U⟩
theorem ane (h:z:=by
 rintro e aI ⟨rfl,aQ⟩
 have aj:=be aO aQ;replace U:=ai U aj;replace ag:=ag.to aj;replace aJ:=ag.aL;replace J:=J.to aj;replace af:=J.aL;have eg:=J.iW
 go_wp2
 clear aJ af
 refine hs 0 λcP aE=>?_
 replace U:=aE.aN U;replace J:=aE.iK J;have af:=J.aL
 exact hV ⟨rfl,U⟩ aGy):z:=h
theorem alX (h:z:=by
 have:=az
 simp only [oB,fp.ok,hf,aP,Za,decide_eq_false_iff_not] at this
 omega):z:=h
theorem avz (tu se sp:Int) (ak:QR) (c2:Nat) (ws:List Int) (al:QR) (c3:Nat) (ae:List aW) (h2:ws) (h3:ae) (n2:ak= none->ws= []/\c2= 0) (n3:al= none->ae= []/\c3= 0) (cL:ws.length<=c2) (az:oB ⟨tu,se,sp,ws,ae⟩ =false) (w:World) (bp:aX 1 cE w ak ws) (bj:aX 3 aW.cells w al ae):
 Rd 259 #[.agg #[tu,se,sp,ak ws c2,al ae c3]] w λe ah=>e= .returned (.tuple #[.agg #[(0:Int),(0:Int),(0:Int),(),()],(0:Int),false])/\Below w w ah:=by
 replace bp:=I bp;replace bj:=I bj;replace n2:=I n2;clear n3
 cases hf:hG tu se sp ws ae
 .have cI:=I hf;clear hf az
  go_in
  go_upto_region 1 with fail
  refine fU λaO ar ag J=>?_
  have U:=ar;have aJ:=ag.aL;have af:=J.aL
  go_wp2_with fail
  refine (oy c2 h2 h3 cL _ cI.o (bp.o.ad (ai U ao)) (bj.o.ad (ai U ao))).mono ?_
  rintro e aI ⟨rfl,aQ⟩
  have aj:=be aO aQ;replace U:=ai U aj;clear aJ;replace J:=J.to aj;replace af:=J.aL;have eg:=J.iW
  go_wp2
  clear af
  refine hs 0 λcP aE=>?_
  replace U:=aE.aN U;replace J:=aE.iK J;have af:=J.aL
  exact hV ⟨rfl,U⟩ aGy
 .cases aP:(sp == 0)
  case false=>
   have zA:(sp != 0)= true:=by rw [bne,aP];rfl
   have cI:=I hf;clear hf az aP
   go_in
   go_upto_region 1 with fail
   refine fU λaO ar ag J=>?_
   have U:=ar;have aJ:=ag.aL;have af:=J.aL
   go_wp2_with fail
   refine (oy c2 h2 h3 cL _ cI.o (bp.o.ad (ai U ao)) (bj.o.ad (ai U ao))).mono ?_
   exact ane
  case true=>
   have vH:ws.length= 0:=by
    exact alX
   have zA:(sp != 0)= false:=by rw [bne,aP];rfl
   obtain rfl:=YD.1 vH
   have cI:=I hf;clear hf az aP vH
   go_in
   go_upto_region 1 with fail
   refine fU λaO ar ag J=>?_
   have U:=ar;have aJ:=ag.aL;have af:=J.aL
   go_wp2_with fail
   refine (oy c2 h2 h3 cL _ cI.o (bp.o.ad (ai U ao)) (bj.o.ad (ai U ao))).mono ?_
   exact ane
theorem avA (tu se sp:Int) (ak:QR) (c2:Nat) (ws:List Int) (al:QR) (c3:Nat) (ae:List aW) (h2:ws) (h3:ae) (n2:ak= none->ws= []/\c2= 0) (n3:al= none->ae= []/\c3= 0) (cL:ws.length<=c2) (az:oB ⟨tu,se,sp,ws,ae⟩ =true) (m:Int) (hm:xh ⟨tu,se,sp,ws,ae⟩ =some m) (w:World) (bp:aX 1 cE w ak ws) (bj:aX 3 aW.cells w al ae):
 Rd 259 #[.agg #[tu,se,sp,ak ws c2,al ae c3]] w λe ah=>∃aU d2 bd d3,e= .returned (.tuple #[.agg #[tu,se,m,.slice aU (ws.filter λx=>!(x == m)).length d2,.slice bd ae d3],m,true])/\kq w ah aU d2 bd d3 (ws.filter λx=>!(x == m)) ae/\Below w w ah:=by
 refine sa ?_ bp bj n2 n3;clear bp bj n2 n3;intro bp bj n2 n3
 obtain⟨hB,aP,vH⟩ :hG tu se sp ws ae= true/\(sp == 0)= true/\0 < ws.length:=by
  simpa [oB,fp.ok] using az
 have zA:(sp != 0)= false:=by rw [bne,aP];rfl
 have cJ:((ws.length:Int) == 0)= false:=Xb.2 KK;have oP:ws.length<=10:=(nt.1 (show (⟨tu,se,sp,ws,ae⟩ :fp).ok= true from hB)).l;have WL:(mU ⟨tu,se,sp,ws,ae⟩)[0]? =some m:=(aBc vH).trans hm;have Bf:(mU ⟨tu,se,sp,ws,ae⟩).length= ws.length:=Ky _;replace hB:=I hB;replace WL:=I WL;replace Bf:=I Bf;clear az hm aP
 go_in
 go_upto_region 1 with fail
 refine fU λaO ar ag J=>?_
 have U:=ar;have aJ:=ag.aL;have af:=J.aL;have hC:=J.lt
 go_wp2_with fail
 refine (oy c2 h2 h3 cL _ hB.o (bp.o.ad (ai U ao)) (bj.o.ad (ai U ao))).mono ?_
 rintro e aI ⟨rfl,aQ⟩
 have aj:=be aO aQ;replace U:=ai U aj;replace ag:=ag.to aj;replace aJ:=ag.aL;replace J:=J.to aj;replace af:=J.aL
 go_wp2_with fail
 refine (Ol h2 h3 n2.o n3.o (bp.o.ad (ai U ao)) (bj.o.ad (ai U ao))).mono ?_
 rintro e bw ⟨aU,d2,g3,d3,rfl,dv,bG⟩
 have aY:=be aI bG;replace U:=ai U aY;replace ag:=ag.to aY;replace aJ:=ag.aL;replace J:=J.to aY;replace af:=J.aL;have Tb:=aj.size;have Tc:=aY.size;have WK:=(dv.fE.lt g3 rfl)
 go_upto_region 4 with fail
 refine Xi λdu cj aR=>?_;have bf:=dv.fE.aK cj;clear dv
 replace U:=ai U cj;have bE:=aR.aL;replace ag:=ag.to cj;replace aJ:=ag.aL;replace J:=J.to cj;replace af:=J.aL
 go_wp2_with fail
 refine (aju tu se sp ak c2 ws al c3 ae h2 h3 n2.o n3.o cL KK _ (bp.o.ad (ai U ao)) (bj.o.ad (ai U ao))).mono ?_
 rintro e cO ⟨g5,c5,rfl,hd,eM⟩
 have dK:=be du eM;replace U:=ai U dK;replace bf:=bf.aK dK;replace ag:=ag.to dK;replace aJ:=ag.aL;replace J:=J.to dK;replace af:=J.aL;replace aR:=aR.to dK;replace bE:=aR.aL;have aCL:=(Ox (show bn _ _ _ _ _ (g5 _ c5) (mU ⟨tu,se,sp,ws,ae⟩) from hd) WL.o).1
 rw [Bf.o]
 clear hd;have uo:=aR.frozen 2
 go_upto_region 5 with fail
 have dL:∀k,(Value.slice g3 ae d3).ownBlock= some k->¬k= bw.heap.size:=λk ax e=>by have h:=(bf.lt k ax);have h9:g3= k:=Wx ax;omega
 clear aJ af bE
 refine kL 2 λpP gz=>?_
 replace U:=gz.aN U;replace ag:=gz.dj ag;replace J:=gz.dj J;replace aR:=gz.Ss aR;replace bf:=bf.cS gz dL;have aJ:=ag.aL;have af:=J.aL;have bE:=aR.aL;clear dL uo;have aBC:=aR.lt
 go_wp2_with fail
 refine (aBX ak c2 ws h2 n2.o m _ (bp.o.ad (ai U ao))).mono ?_
 rintro e dk ⟨g7,AL,rfl,pO,iH⟩
 have gm:=be pP iH;replace U:=ai U gm;replace bf:=bf.aK gm;clear aJ;replace J:=J.to gm;replace af:=J.aL;replace aR:=aR.to gm;replace bE:=aR.aL;have wI:=aR.frozen 3;have aDx:=(pO.lt g7 rfl).1
 go_upto_region 6 with fail
 have dL:∀k,(Value.slice g3 ae d3).ownBlock= some k->¬k= bw.heap.size:=λk ax e=>by have h:=(bf.lt k ax);have h9:g3= k:=Wx ax;omega
 have Dl:∀k,(Value.slice g7 (ws.filter λx=>!(x == m)).length AL).ownBlock= some k->¬k= bw.heap.size:=λk ax e=>by have h9:g7= k:=Wx ax;omega
 clear af bE
 refine kL 3 λoL fK=>?_
 replace U:=fK.aN U;replace J:=fK.dj J;replace aR:=fK.HK aR;replace bf:=bf.cS fK dL;replace pO:=pO.cS fK Dl;have af:=J.aL;have bE:=aR.aL;clear dL Dl wI
 haveI:Nonempty (cM (λV=>ay V bw 41 #[tu,se,m,g7 (ws.filter λx=>!(x == m)).length AL,g3 ae d3])):=⟨⟨oL,aR⟩⟩
 haveI:Nonempty (cM (λ_=>True)):=⟨⟨oL,trivial⟩⟩
 replace bE:=ay.kG (λK:cM (λV=>ay V bw 41 #[tu,se,m,g7 (ws.filter λx=>!(x == m)).length AL,g3 ae d3])=>K.holds)
 refine tV (λV=>ay V bw 41 #[tu,se,m,g7 (ws.filter λx=>!(x == m)).length AL,g3 ae d3]) [([0,1,2],[],3,false)] [] [4,5] PV PV aR ?_
 refine jj λK fj=>?_
 refine YI ?_
 repeat go_big_quiet_step (fail)
 refine VF ?_
 refine VF ?_
 refine XV ?_
 have eJ:=(Wt oL oL).drew;replace U:Below w w oL.drew:=U.drew;have cp:=J.to eJ;have eT:=aR.to eJ;replace bf:=bf.aK eJ;replace pO:=pO.aK eJ;clear J aR ag bE af eJ
 generalize oL.drew= UK at *
 have af:=cp.aL;have Jc:=cp.frozen 0;have Jd:=cp.frozen 1;have Je:=cp.frozen 2;have Jf:=cp.frozen 3;have Jg:=cp.frozen 4
 have dL:∀k,(Value.slice g3 ae d3).ownBlock= some k->¬k= w.heap.size + 1:=λk ax e=>by have h9:g3= k:=Wx ax;omega
 have Dl:∀k,(Value.slice g7 (ws.filter λx=>!(x == m)).length AL).ownBlock= some k->¬k= w.heap.size + 1:=λk ax e=>by have h9:g7= k:=Wx ax;omega
 go_wp2
 clear af
 refine hs 0 λAG oF=>?_
 replace U:=oF.aN U;replace cp:=oF.iK cp;replace eT:=oF.dj eT;replace bf:=bf.cS oF dL;replace pO:=pO.cS oF Dl;have af:=cp.aL
 refine nK eT (fj _ _ ?_)
 refine qu ?_
 refine VF ?_
 refine YB ?_
 repeat go_big_quiet_step (fail)
 refine VF ?_
 go_wp2
 refine XY (v:= .tuple #[.agg #[tu,se,m,g7 (ws.filter λx=>!(x == m)).length AL,g3 ae d3],m,true]) aGy rfl ?_
 exact⟨some ⟨g7,0,none⟩,AL,some ⟨g3,0,none⟩,d3,rfl,⟨pO.base KK,bf.base KK,pO.apart bf WG⟩,U⟩
theorem agE (h:oA rs qs= true):ee rs qs= true/\mb rs qs= true:=by simpa [oA] using h
theorem Oc (h:mb rs qs= true):∃j q,qs.length= j + 1/\qs[j]? =some q:=by
 unfold mb at h
 cases bt:qs[qs.length - 1]? with
 | none=>rw [bt] at h;cases h
 | some q=>
  have:=(Xg.1 bt).1
  exact⟨qs.length - 1,q,by omega,bt⟩
theorem ajg (cc:qs.length= j + 1) (bt:qs[j]? =some q):Fi qs= qs.set j ⟨q.rule,q.mover,true⟩:=by
 have e:qs.length - 1= j:=KK
 unfold Fi
 rw [e,bt]
 dsimp only
 conv=>rhs;rw [awN cc bt]
 rw [List.set_append_right _ _ Xq]
 congr 1
 simp
 rw [show j - min j qs.length= 0 by omega];rfl
theorem RO (cc:qs.length= j + 1) (bt:qs[j]? =some q):Od qs mem= (q.mover == mem):=by
 unfold Od;rw [show qs.length - 1= j by omega,bt]
theorem SN (h:oA rs qs= false):ln rs qs mem= none:=by
 unfold ln;rw [<- Bool.and_assoc,show (ee rs qs && mb rs qs)= false from h];rfl
theorem ajd (h:fy mem= false):ln rs qs mem= none:=by simp [ln,h]
theorem aje (h:Od qs mem= true):ln rs qs mem= none:=by simp [ln,h]
theorem ajf (h:oA rs qs= true) (h2:fy mem= true) (h3:Od qs mem= false):ln rs qs mem= some (Fi qs):=by
 obtain⟨h4,h5⟩:=agE h
 simp [ln,h4,h5,h2,h3]
theorem afS (aq:QR) (c0:Nat) (rs:List aM) (h0:rs) (gn:rs.length<=c0) (au:QR) (aw:Nat) (qs:List aZ) (h1:qs) (bl:au= none->qs= []/\aw= 0) (mem:Int) (w:World) (bk:aX 7 aM.cells w aq rs) (bg:aX 3 aZ.cells w au qs):Rd 180 #[aq rs c0,au qs aw,mem] w λe ah=>∃A c,e= .returned (.tuple #[.slice A (jz (ln rs qs mem)).length c,.bool (ln rs qs mem).isSome])/\bn w 115 3 aZ.cells ah (.slice A (jz (ln rs qs mem)).length c) (jz (ln rs qs mem))/\Below w w ah:=by
 obtain⟨i0,bo,dP,dZ,dV⟩:=Xo xd
 replace bl:=I bl
 cases ax:oA rs qs
 .have gF:=I ax
  rw [SN ax]
  clear ax
  go_in
  go_wp2_with fail
  refine (Hu aq c0 rs h0 gn au aw qs h1 _ gF.o _ (bk.ad ao) (bg.ad ao)).mono ?_
  rintro e bm ⟨rfl,bD⟩
  have ar:=be w bD;have U:Below w w bm:=ar
  go_wp2
  go_ret2
  exact⟨none,0,rfl,bn.nil,(ai U ao)⟩
 cases hm:fy mem
 .have gF:=I ax;have gi:=I hm
  rw [ajd hm]
  clear ax hm
  go_in
  go_wp2_with fail
  refine (Hu aq c0 rs h0 gn au aw qs h1 _ gF.o _ (bk.ad ao) (bg.ad ao)).mono ?_
  exact anH
 obtain⟨j,⟨qr,cQ,ei⟩,cc,bt⟩:=Oc (agE ax).2
 obtain⟨eV,iA,_,rfl,_,_,_⟩:=bg.at_ (Wt _ _) (k:=j) KK
 have fT:=I cc;have eS:=I bt
 have iy:j<=1048576:=KK
 have fl:=I (λW (h:aX 7 aM.cells W aq rs) (ez:aX 3 aZ.cells W (some ⟨eV,iA,none⟩) qs)=>Hu aq c0 rs h0 gn (some ⟨eV,iA,none⟩) aw qs h1 _ ax W h ez)
 cases aP:cQ == mem
 case true=>
  have gi:=I hm
  rw [aje ((RO cc bt).trans aP)]
  rw [cc] at fl ⊢
  clear ax hm cc bt h1
  go_in
  go_wp2_with fail
  refine (fl.o _ (bk.ad ao) (bg.ad ao)).mono ?_
  rintro e bm ⟨rfl,bD⟩
  have ar:=be w bD;have U:Below w w bm:=ar;replace bg:=bg.ad ar
  go_wp2_with fail
  refine (kx _ gi.o _).mono ?_
  rintro e w0 ⟨rfl,h0⟩
  rw [h0]
  clear h0 w0
  obtain⟨_,_,y,e9,eJ,hy,dC⟩:=bg.at_ (Wt _ _) (k:=j) YG
  cases e9
  obtain rfl:(⟨qr,cQ,ei⟩ :aZ)= y:=Wx (eS.o.symm.trans hy)
  clear hy;have cG:=dC 0 _ rfl;have dJ:=dC 1 _ rfl;have dt:=dC 2 _ rfl
  simp only [XW] at cG
  have g0:=cG (aD.self _);have g1:=dJ (aD.self _);have g2:=dt (aD.self _)
  simp only [aD.self] at g0
  simp only [aD.self] at g1
  simp only [aD.self] at g2
  clear dC cG dJ dt
  go_wp2
  go_ret2
  exact⟨none,0,rfl,bn.nil,(ai U ao)⟩
 case false=>
  have gi:=I hm
  rw [ajf ax hm ((RO cc bt).trans aP),ajg cc bt]
  have mO:(qs.set j ⟨qr,cQ,true⟩).length= j + 1:=by rw [List.length_set,cc]
  have Iw:=I mO
  rw [cc] at fl ⊢
  clear ax hm cc bt h1 mO
  go_in
  go_wp2_with fail
  refine (fl.o _ (bk.ad ao) (bg.ad ao)).mono ?_
  rintro e bm ⟨rfl,bD⟩
  have ar:=be w bD;have U:Below w w bm:=ar;replace bg:=bg.ad ar
  go_wp2_with fail
  refine (kx _ gi.o _).mono ?_
  rintro e w0 ⟨rfl,h0⟩
  rw [h0]
  clear h0 w0
  obtain⟨_,_,y,e9,eJ,hy,dC⟩:=bg.at_ (Wt _ _) (k:=j) YG
  cases e9
  obtain rfl:(⟨qr,cQ,ei⟩ :aZ)= y:=Wx (eS.o.symm.trans hy)
  clear hy;have cG:=dC 0 _ rfl;have dJ:=dC 1 _ rfl;have dt:=dC 2 _ rfl
  simp only [XW] at cG
  have g0:=cG (aD.self _);have g1:=dJ (aD.self _);have g2:=dt (aD.self _)
  simp only [aD.self] at g0
  simp only [aD.self] at g1
  simp only [aD.self] at g2
  clear dC cG dJ dt;have mI:=I (λe u=>(bg.ad (bP bm (.cells #[] e))):∀(e:TypeId) (u:Unit),aX 3 aZ.cells (bm.alloc (.cells #[] e)) (some ⟨eV,iA,none⟩) qs);have yl:=U.size
  go_wp2_with ((at_builtin;refine va rfl _ _ 37 rfl bm 115 i0 _ 3 24 Tryz.underlying37 bo dP dZ dV rfl WG aZ.cells iT vQ bm rfl (ay.new _ _ _) (XZ _) (some ⟨eV,iA,none⟩) aw qs (j + 1) fT.o.symm rfl (mI.o _ ()) (λh=>by cases h) aGO YG ?_;intro bS dq iB fW fM;have qK:Below bm bm iB:=ai (bP _ _) fM;have aIQ:=qK.size;have Jy:=(fW.lt bS rfl).2;have atg:=vO fW iT (j:=j) (i:=2) YG WG;have Jv:=me fW iT eS.o (i:=2) (u:= .bool ei) rfl))
  have asj:=vP fW iT (y:=⟨qr,cQ,true⟩) (u:= .bool true) (i:=2) eS.o WG rfl;have uu:Below bm bm (iB.setCell ⟨bS,j * 3 + 2,none⟩ (.bool true)):=qK.setCell (by have:=(fW.lt bS rfl).1;exact this) _
  go_wp2
  go_ret2
  refine⟨some ⟨bS,0,none⟩,dq,by simp only [jz,Yf,Iw.o];rfl,?_,ai U uu⟩
  have CA:=asj.base (by omega:w.heap.size<=_);have e9:=Iw.o
  simp only [jz,Yf]
  rw [e9]
  first | exact CA | (have e8:=fT.o;rw [e8] at CA;exact CA)
theorem acU (h:ee rs qs= false):nP rs qs= none:=by simp [nP,h]
theorem Ve (h:ee rs qs= true) (h2:mb rs qs= false):nP rs qs= some qs:=by simp [nP,AN,h,h2]
theorem acT (h:ee rs qs= true) (h2:mb rs qs= true):nP rs qs= some (qs.take (qs.length - 1)):=by simp [nP,AN,h,h2]
theorem ami (h:z:=by
 obtain⟨mg,dq,gx,aN,_,_⟩:=h.form hf
 injection gx with _ _ e3
 subst e3;exact aN):z:=h
theorem axO {T:Type} {f:T->List Value} {w:World} {c:Nat} {xs:List T} (h:bn B e sz f w (A n c) xs) (hf:∀y,(f y).length= sz):xs.length<=c:=by
 exact ami
theorem adz {T V:Type} {f:T->List V} (hf:∀y,(f y).length= sz):∀(xs:List T) (k:Nat),(xs.take k).flatMap f= (xs.flatMap f).take (k * sz)
 | [],k=>by simp
 | x ::xs,0=>by simp
 | x ::xs,k + 1=>by
  have eR:=adz hf xs k
  have ax:(k + 1) * sz= sz + k * sz:=by rw [Nat.succ_mul];omega
  simp only [List.take_succ_cons,Yd]
  rw [eR,ax,List.take_append,hf,YO (l:=f x) (by rw [hf];omega)]
  congr 2
  omega
theorem axR {T:Type} {f:T->List Value} {w:World} {c:Nat} {xs:List T} (h:bn B e sz f w (g n c) xs) (hf:∀y,(f y).length= sz) (ax:k<=xs.length):bn B e sz f w (g k c) (xs.take k):=by
 obtain⟨aT,h⟩:=h
 have hlen:(xs.take k).length= k:=by rw [YA];omega
 have Jx:(xs.take k).flatMap f= (xs.flatMap f).take (k * sz):=adz hf xs k
 unfold bn
 rw [hlen,Jx]
 refine⟨by rw [YA,aT];have:=ZA sz ax;omega,?_⟩
 rcases h with ⟨e0,_⟩ | ⟨bS,cap,cur,e0,bz,gl,vC,pV,cK,CU⟩
 .cases e0
 .injection e0 with e1 e2 e3
  cases e1;subst e3
  refine .inr ⟨_,c,cur,rfl,bz,gl,by omega,pV,cK,?_⟩
  rw [<- CU,List.take_take]
  congr 1
  have:=ZA sz ax
  omega
theorem auL (aq:QR) (c0:Nat) (rs:List aM) (h0:rs) (gn:rs.length<=c0) (au:QR) (aw:Nat) (qs:List aZ) (h1:qs) (bl:au= none->qs= []/\aw= 0) (w:World) (bk:aX 7 aM.cells w aq rs) (bg:aX 3 aZ.cells w au qs):Rd 256 #[aq rs c0,au qs aw] w λe ah=>∃A c,e= .returned (.tuple #[.slice A (jz (nP rs qs)).length c,.bool (nP rs qs).isSome])/\bn w 115 3 aZ.cells ah (.slice A (jz (nP rs qs)).length c) (jz (nP rs qs))/\Below w w ah:=by
 obtain⟨i0,bo,dP,dZ,dV⟩:=Xo xd
 have ub:=I bl;clear bl
 cases aS:ee rs qs
 .have fh:=I aS
  rw [acU aS]
  exact anz
 cases aT:mb rs qs
 .have fh:=I aS
  have gF:Hid (oA rs qs= false):=I (by simp [oA,aT])
  rw [Ve aS aT]
  clear aS aT
  go_in
  go_wp2_with fail
  refine (qh aq c0 rs h0 gn au aw qs h1 _ fh.o _ (bk.ad ao) (bg.ad ao)).mono ?_
  rintro e bm ⟨rfl,bD⟩
  have ar:=be w bD;have U:Below w w bm:=ar;replace bk:=bk.ad ar;replace bg:=bg.ad ar;have bl:=ub.o;have mI:=I (λe u=>(bg.ad (bP bm (.cells #[] e))):∀(e:TypeId) (u:Unit),aX 3 aZ.cells (bm.alloc (.cells #[] e)) au qs);have yl:=U.size;have yG:=I (λW cv=>⟨bk.ad cv,bg.ad cv⟩ :∀W,Below bm bm W->aX 7 aM.cells W aq rs/\aX 3 aZ.cells W au qs)
  go_wp2_with ((first
   | (at_builtin;refine BF rfl _ _ 37 rfl bm 115 i0 _ 3 24 Tryz.underlying37 bo dP dZ dV rfl WG aZ.cells iT vQ bm rfl (ay.new _ _ _) (XZ _) au aw qs rfl (mI.o _ ()) bl Xz KK ?_;intro bS dq iB fW fM;have qK:Below bm bm iB:=ai (bP _ _) fM;have aIQ:=qK.size;clear bl)))
  refine (Hu aq c0 rs h0 gn au aw qs h1 _ gF.o _ (yG.o _ qK).1 (yG.o _ qK).2).mono ?_
  rintro e pG ⟨rfl,tC⟩
  go_wp2
  go_ret2
  exact⟨some ⟨bS,0,none⟩,dq,rfl,(fW.aK tC).base KK,ai U (ai qK tC)⟩
 .have gF:Hid (oA rs qs= true):=I (by simp [oA,aS,aT])
  obtain⟨j,q,cc,bt⟩:=Oc aT
  rw [acT aS aT]
  have fT:=I cc
  have iy:j<=1048576:=KK
  have fl:=I (λW h ez=>qh aq c0 rs h0 gn au aw qs h1 _ aS W h ez);have fP:=I (λW h ez=>Hu aq c0 rs h0 gn au aw qs h1 _ gF.o W h ez)
  have bC:(qs.take (qs.length - 1)).length= j:=by rw [YA];omega
  have su:=I bC
  have e1:qs.length - 1= j:=KK
  rw [e1] at su ⊢
  rw [cc] at fl fP ⊢
  clear aS aT cc bt bC e1 h1
  go_in
  go_wp2_with fail
  refine (fl.o _ (bk.ad ao) (bg.ad ao)).mono ?_
  rintro e bm ⟨rfl,bD⟩
  have ar:=be w bD;have U:Below w w bm:=ar;replace bk:=bk.ad ar;replace bg:=bg.ad ar;have bl:=ub.o;have mI:=I (λe u=>(bg.ad (bP bm (.cells #[] e))):∀(e:TypeId) (u:Unit),aX 3 aZ.cells (bm.alloc (.cells #[] e)) au qs);have yl:=U.size;have yG:=I (λW cv=>⟨bk.ad cv,bg.ad cv⟩ :∀W,Below bm bm W->aX 7 aM.cells W aq rs/\aX 3 aZ.cells W au qs)
  go_wp2_with ((first
   | (at_builtin;refine va rfl _ _ 37 rfl bm 115 i0 _ 3 24 Tryz.underlying37 bo dP dZ dV rfl WG aZ.cells iT vQ bm rfl (ay.new _ _ _) (XZ _) au aw qs (j + 1) fT.o.symm rfl (mI.o _ ()) bl aGO YG ?_;intro bS dq iB fW fM;have qK:Below bm bm iB:=ai (bP _ _) fM;have aIQ:=qK.size;clear bl)))
  have aey:=axO fW iT
  have hO:j + 1<=dq:=by have:=fT.o;omega
  clear aey
  refine (fP.o _ (yG.o _ qK).1 (yG.o _ qK).2).mono ?_
  rintro e pG ⟨rfl,tC⟩
  replace fW:=I fW
  go_wp2
  go_ret2
  refine⟨some ⟨bS,0,none⟩,dq,by simp only [jz,Yf,su.o];rfl,?_,ai U (ai qK tC)⟩
  have CA:=axR ((fW.o.aK tC).base (by omega:w.heap.size<=_)) iT (k:=j) YG
  simp only [jz,Yf]
  rw [su.o]
  exact CA
theorem HM {T:Type} {f:T->List Value} {w:World} {xs:List T} (h:aX sz f w A xs) (k:Nat):aX sz f w A (xs.take k):=by
 intro bq
 have WY:0 < xs.length:=by rw [YA] at bq;omega
 obtain⟨b,off,bl,bC,aN⟩:=h WY
 exact⟨b,off,bl,bC,λi x av=>aN i x (by rw [Yb] at av;split at av;exact av;cases av)⟩
theorem ajY (h:ee rs qs= false):mG rs qs mem= none:=by simp [mG,h]
theorem aBU (aS:ee rs qs= true) (h:fy mem= false):mG rs qs mem= none:=by
 unfold mG
 rw [XX aS]
 cases hw:rf qs mem qs.length with
 | none=>rfl
 | some j=>
  obtain⟨q,bt,hm⟩:=aHY hw
  have:=Oz aS bt
  rw [hm,h] at this;cases this
theorem ajZ (aS:ee rs qs= true):mG rs qs mem= (rf qs mem qs.length).map (λk=>qs.take k):=by unfold mG;rw [XX aS]
theorem aBT (bt:qs[j]? =some q) (h:(q.mover == mem)= true):rf qs mem (j + 1)= some j:=by simp [rf,bt,h]
theorem aBS (bt:qs[j]? =some q) (h:(q.mover == mem)= false):rf qs mem (j + 1)= rf qs mem j:=by simp [rf,bt,h]
theorem akq (h:z:=by
 obtain⟨j,CL⟩ :∃j,k= j + 1:=⟨k - 1,by omega⟩
 have e1:(k:Int) - 1= (j:Int):=KK
 rw [e1]
 subst CL
 have atp:j < qs.length:=KK
 clear e1 h0
 obtain⟨eV,iA,⟨qr,cQ,ei⟩,rfl,eN,bt,hO⟩:=bg.o.at_ aB (k:=j) atp
 have cG:=hO 0 _ rfl;have dJ:=hO 1 _ rfl;have dt:=hO 2 _ rfl
 simp only [XW] at cG
 have g0:=cG (aD.self _);have g1:=dJ (aD.self _);have g2:=dt (aD.self _)
 simp only [aD.self] at g0
 simp only [aD.self] at g1
 simp only [aD.self] at g2
 replace bt:=I bt;clear hO cG dJ dt
 cases aP:cQ == mem
 .have gj:=I (hw.o.trans (aBS bt.o aP))
  go_wp2
  go_roundw
  case rel=>exact⟨j,by omega,by go_num,gj.o,aB⟩
  case measure=>(simp [intOf] <;> omega)
 .have gj:=I (hw.o.trans (aBT bt.o aP))
  have WN:j<=aw:=KK
  have bC:(qs.take j).length= j:=by rw [YA];omega
  replace bC:=I bC;have sw:=I (λe u=>((HM (bg.o.ad aB) j).ad (bP wr (.cells #[] e))):∀(e:TypeId) (u:Unit),aX 3 aZ.cells (wr.alloc (.cells #[] e)) _ (qs.take j))
  go_wp2_with ((at_builtin;refine va rfl _ _ 37 rfl wr 115 i0 _ 3 24 Tryz.underlying37 bo dP dZ dV rfl WG aZ.cells iT vQ wr rfl (ay.new _ _ _) (XZ _) (some ⟨eV,iA,none⟩) aw (qs.take j) j bC.o.symm rfl (sw.o _ ()) (λh=>by cases h) (by have:=bC.o;unfold maxLen;omega) (by have:=bC.o;omega) ?_;intro bS dq iB fW fM))
  have qK:Below wr wr iB:=ai (bP _ _) fM
  go_wp2
  go_ret2
  rw [gj.o]
  refine⟨some ⟨bS,0,none⟩,dq,by simp only [jz,Zi,Yf,bC.o];rfl,?_,ai U (ai aB qK)⟩
  have CA:=fW.base (by omega:w.heap.size<=_)
  simp only [jz,Zi,Yf]
  exact CA):z:=h
theorem afT (aq:QR) (c0:Nat) (rs:List aM) (h0:rs) (gn:rs.length<=c0) (au:QR) (aw:Nat) (qs:List aZ) (h1:qs) (hi:qs.length<=aw) (mem:Int) (w:World) (bk:aX 7 aM.cells w aq rs) (bg:aX 3 aZ.cells w au qs):Rd 255 #[aq rs c0,au qs aw,mem] w λe ah=>∃A c,e= .returned (.tuple #[.slice A (jz (mG rs qs mem)).length c,.bool (mG rs qs mem).isSome])/\bn w 115 3 aZ.cells ah (.slice A (jz (mG rs qs mem)).length c) (jz (mG rs qs mem))/\Below w w ah:=by
 obtain⟨i0,bo,dP,dZ,dV⟩:=Xo xd
 cases aS:ee rs qs
 .have fh:=I aS
  rw [ajY aS]
  clear aS
  go_in
  go_wp2_with fail
  refine (qh aq c0 rs h0 gn au aw qs h1 _ fh.o _ (bk.ad ao) (bg.ad ao)).mono ?_
  rintro e bm ⟨rfl,bD⟩
  have ar:=be w bD;have U:Below w w bm:=ar;replace bk:=bk.ad ar;replace bg:=bg.ad ar
  go_wp2
  go_ret2
  exact⟨none,0,rfl,bn.nil,(ai U ao)⟩
 cases hm:fy mem
 .have fh:=I aS;have gi:=I hm
  rw [aBU aS hm]
  clear aS hm
  go_in
  go_wp2_with fail
  refine (qh aq c0 rs h0 gn au aw qs h1 _ fh.o _ (bk.ad ao) (bg.ad ao)).mono ?_
  rintro e bm ⟨rfl,bD⟩
  have ar:=be w bD;have U:Below w w bm:=ar;replace bk:=bk.ad ar;replace bg:=bg.ad ar
  go_wp2_with fail
  refine (kx _ gi.o _).mono ?_
  rintro e w0 ⟨rfl,h0⟩
  rw [h0]
  clear h0 w0
  go_wp2
  go_ret2
  exact⟨none,0,rfl,bn.nil,(ai U ao)⟩
 have fh:=I aS;have gi:=I hm
 rw [ajZ aS]
 clear aS hm
 go_in
 go_wp2_with fail
 refine (qh aq c0 rs h0 gn au aw qs h1 _ fh.o _ (bk.ad ao) (bg.ad ao)).mono ?_
 rintro e bm ⟨rfl,bD⟩
 have ar:=be w bD;have U:Below w w bm:=ar;replace bk:=bk.ad ar;replace bg:=bg.ad ar
 go_wp2_with fail
 refine (kx _ gi.o _).mono ?_
 rintro e w0 ⟨rfl,h0⟩
 rw [h0]
 clear h0 w0;have yl:=U.size;replace bg:=I bg;clear bk
 go_wp2
 go_loopw [8] (λi wr=>∃k:Nat,k<=qs.length/\i= .int .i64 ((k:Int) - 1)/\rf qs mem qs.length= rf qs mem k/\Below bm bm wr) (λi _=>(intOf i + 1).toNat)
 case atStart=>exact⟨qs.length,XZ _,rfl,rfl,Wt _ _⟩
 case round=>
  obtain⟨k,ax,rfl,hw,aB⟩:=hrel
  replace hw:=I hw;have np:=aB.size
  by_cases h0:0 < k
  .exact akq
  .obtain rfl:k= 0:=KK
   have gj:Hid (rf qs mem qs.length= none):=I hw.o
   go_wp2
   go_ret2
   rw [gj.o]
   exact⟨none,0,rfl,bn.nil,ai U aB⟩
theorem Ki {T:Type} {f:T->List Value} {w:World} {xs:List T} (h:aX sz f w (some ⟨b,off,none⟩) xs) (k:Nat):aX sz f w (some ⟨b,off + k * sz,none⟩) (xs.drop k):=by
 intro h0
 obtain⟨df,vN,h1,h2,h3⟩:=h (by rw [YQ] at h0;omega)
 injection h1 with h1;injection h1 with h4 h5;subst h4;subst h5
 refine⟨b,off + k * sz,rfl,h2,λi x av j u hu=>?_⟩
 rw [List.getElem?_drop] at av
 have h6:=h3 (k + i) x av j u hu
 rw [Nat.add_mul] at h6
 rw [<- h6];congr 2;omega
theorem xl {T:Type} {f:T->List Value} {w:World} {xs:List T} (h:aX sz f w (some ⟨b,off,none⟩) xs) {x:T} (av:xs[k]? =some x) {i:Nat} {u:Value} (hu:(f x)[i]? =some u):w.cell? ⟨b,off + k * sz + i,none⟩ =some u:=by
 obtain⟨df,vN,h1,h2,h3⟩:=h (by have:=(Xg.1 av).1;omega)
 injection h1 with h1;injection h1 with h4 h5;subst h4;subst h5
 exact h3 k x av i u hu
def oU {T:Type} (e:TypeId) (sz:Nat) (f:T->List Value) (m1 m2:Nat) (xs:List T) (k:Nat) (cs:Array Value):mZ (Option Addr×Nat) where
 par:=λn=>if n= m1 then [0] else []
 val:=λn p=>if n= 0 then .slice p.1 0 0 else if n= m1 then .slice p.1 k p.2 else if n= m2 then .slice p.1 1 1 else undef
 post:=λn bA p dy V=>(n= 0->p.1= some ⟨dy.heap.size,0,none⟩/\ay V dy.heap.size e #[])/\
  (n= m1->∃g bS,(bA 0).1= some ⟨g,0,none⟩/\p.1= some ⟨bS,0,none⟩/\bn g e sz f V (.slice p.1 (xs.take k).length p.2) (xs.take k))/\
  (n= m2->∃g,p.1= some ⟨g,0,none⟩/\dy.heap.size= g/\ay V g e cs)
theorem aqz {c:Nat} {f:Addr->Addr} (bq:A= none->ae= []/\c= 0) (ax:k= ae.length) (h:(if c= k then A else A.map f)= none):ae.drop k= []/\c - k= 0:=by
 refine⟨List.drop_of_length_le KK,?_⟩
 cases A with
 | none=>have:=(bq rfl).2;omega
 | some eH=>split at h <;> cases h
theorem Yo (h:wpQuiet P O C Q [x0,x1,x2,x3] a):wpQuiet P O C Q [x0,x1,x2,x3] a:=h
theorem agt {c2:Nat} {ws:List Int} {al:QR} {c3:Nat} (h2:ws) (h3:ae) (n2:ak= none->ws= []/\c2= 0) (n3:al= none->ae= []/\c3= 0) (dS:ae.length<=c3) {w:World} (bp:aX 1 cE w ak ws) (bj:aX 3 aW.cells w al ae):
 Rd 290 #[.agg #[tu,se,sp,ak ws c2,al ae c3],.agg #[sm,st,cR]] w λe ah=>∃aU d2 bd d3,e= .returned (.agg #[tu,se,sp,.slice aU ws d2,.slice bd (gg ae ⟨sm,st,cR⟩).length d3])/\kq w ah aU d2 bd d3 ws (gg ae ⟨sm,st,cR⟩)/\Below w w ah:=by
 obtain⟨i0,bo,dP,dZ,dV⟩:=Xo Hl
 refine sa ?_ bp bj n2 n3;clear bp bj n2 n3;intro bp bj n2 n3
 go_in
 go_upto_region 1 with fail
 refine gY λaO ar ag bJ J=>?_
 have U:=ar
 obtain⟨f0,f1,f2,f3,f4⟩:=ag.aL
 obtain⟨s0,s1,s2⟩:=bJ.cb
 have af:=J.aL;have hC:=J.lt
 go_wp2_with fail
 refine (NZ h2 h3 n2.o n3.o (bp.o.ad (ai U ao)) (bj.o.ad (ai U ao))).mono ?_
 rintro e aI ⟨aU,d2,bd,d3,rfl,dv,aQ⟩
 have aj:=be aO aQ;replace U:=ai U aj;replace ag:=ag.to aj;clear f0 f1 f2 f3 f4
 obtain⟨f0,f1,f2,f3,f4⟩:=ag.aL
 replace bJ:=bJ.to aj;clear s0 s1 s2
 obtain⟨s0,s1,s2⟩:=bJ.cb
 replace J:=J.to aj;replace af:=J.aL;have pE:=aj.size;have vX:=U.size
 go_upto_region 2 with fail
 refine Xi λajT aY aR=>?_;have abL:=(dv.fc.aK aY).base (B':=w) KK;clear dv
 replace U:=ai U aY
 obtain⟨cA,x1,cB,cY,cZ⟩:=aR.aL
 clear f0 f1 f2 f3 f4;replace ag:=ag.to aY
 obtain⟨f0,f1,f2,f3,f4⟩:=ag.aL
 clear s0 s1 s2;replace bJ:=bJ.to aY
 obtain⟨s0,s1,s2⟩:=bJ.cb
 replace J:=J.to aY;replace af:=J.aL;have lN:=aR.lt;have bh:=abL;clear abL;have fP:=I ag;have fL:=I bJ;have jN:=I J;have fV:=I aR;have jC:=I bh;have qv:=I U;clear ag bJ J aR bh f0 f1 f2 f3 f4 s0 s1 s2 af cA x1 cB cY cZ
 go_wp2
 go_loopw [6] (λi wr=>∃k:Nat,k<=ae.length/\i= .int .i64 k/\(∀j x,j < k->ae[j]? =some x->x.mem < sm)/\Below ajT ajT wr) (λi _=>ae.length - (intOf i).toNat)
 case atStart=>exact⟨0,Xd _,rfl,λj x h=>absurd h KK,Wt _ _⟩
 case round=>
  obtain⟨k,ax,rfl,aT,aB⟩:=hrel
  replace aT:=I aT;have hv:=fP.o.ad aB fP.o.lt;have iY:=fL.o.ad aB fL.o.lt
  have c4:=λK:aD wr wr=>((hv.ad K.ad hv.lt).cell 4).trans (show _= some (al ae c3) from rfl)
  have s0:=λK:aD wr wr=>((iY.ad K.ad iY.lt).cell 0).trans (show _= some (.int .i64 sm) from rfl)
  rcases (show (∃x,ae[k]? =some x/\x.mem < sm)\/(∃x,ae[k]? =some x/\x.mem= sm)\/(∃x,ae[k]? =some x/\sm < x.mem)\/k= ae.length by
   by_cases bC:k < ae.length
   .have h:=Xj bC
    rcases (show (ae[k]).mem < sm\/(ae[k]).mem= sm\/sm < (ae[k]).mem by omega) with g | g | g
    .exact .inl ⟨_,h,g⟩
    .exact .inr (.inl ⟨_,h,g⟩)
    .exact .inr (.inr (.inl ⟨_,h,g⟩))
   .exact .inr (.inr (.inr KK))) with ⟨⟨eY,kp,Fs⟩,av,hm⟩ | ⟨⟨eY,kp,Fs⟩,av,hm⟩ | ⟨⟨eY,kp,Fs⟩,av,hm⟩ | Rk
  case' inl=>
   have bC:k < ae.length:=(Xg.1 av).1
   obtain⟨eb,fE,bE,hA3,_,nx,mj⟩:=(bj.o.ad qv.o).at_ aB bC
   clear mj nx bE
   subst hA3
   have cA:=λK:aD wr wr=>(xl (bj.o.ad (ai (ai qv.o aB) K.ad)) av (i:=0) (u:= .int .i64 eY) rfl)
   simp only [XW] at cA
   have oh:=I av;clear av
   go_wp2
   refine eQ PV PV ?_
   repeat (go_big_quiet_step ((fail)))
   refine VF ?_
   intro K
   clear c4 s0 cA hv iY
   go_wp2
   go_roundw
   case rel=>exact⟨k + 1,by omega,by go_num,λj y cc hy=>by
    by_cases e:j= k
    .subst e;rw [oh.o] at hy;cases hy;exact hm
    .exact aT.o j y KK hy,ai aB K.ad⟩
   case measure=>simp [intOf];omega
  case' inr.inl=>
   have bC:k < ae.length:=(Xg.1 av).1
   obtain⟨eb,fE,bE,hA3,_,nx,mj⟩:=(bj.o.ad qv.o).at_ aB bC
   clear mj nx bE
   subst hA3
   have cA:=λK:aD wr wr=>(xl (bj.o.ad (ai (ai qv.o aB) K.ad)) av (i:=0) (u:= .int .i64 eY) rfl)
   simp only [XW] at cA
   have oh:=I av;clear av
   go_wp2
   refine eQ PV PV ?_
   repeat (go_big_quiet_step ((fail)))
   refine VF ?_
   intro K
   clear c4 s0 cA hv iY;have nu:=ai aB K.ad
   generalize K.world= qc at *
   have hv:=fP.o.ad nu fP.o.lt;have iY:=fL.o.ad nu fL.o.lt;have f4:=(hv.cell 4).trans (show _= some (.slice (some ⟨eb,fE,none⟩) ae c3) from rfl)
   have Wy:¬c3= k:=KK
   go_upto_region 6 with fail
   have cA:=λK:aD qc qc=>(xl (bj.o.ad (ai (ai qv.o nu) K.ad)) oh.o (i:=0) (u:= .int .i64 eY) rfl)
   have s0:=λK:aD qc qc=>((iY.ad K.ad iY.lt).cell 0).trans (show _= some (.int .i64 sm) from rfl)
   simp only [XW] at cA
   have Nq:decide (0 < ae.length - k)= true:=Xh KK
   have EG:k<=c3:=KK
   clear f4 hv iY
   refine eQ PV PV ?_
   repeat (go_big_quiet_step ((fail)))
   refine VF ?_
   intro K
   clear s0 cA Nq;have hW:=ai nu K.ad
   generalize K.world= gH at *
   go_upto_region 8 with fail
   obtain⟨rest,kl⟩ :∃l,l= ae.drop (k + 1):=⟨_,rfl⟩
   have xC:Hid (gg ae ⟨sm,st,cR⟩ =ae.take k ++ [(⟨sm,st,cR⟩ :aW)] ++ rest):=I (by rw [kl];rw [Kt (k:=k) KK aT.o (λy hy=>by rw [oh.o] at hy;cases hy;have h:eY= sm:=hm;show¬eY < sm;omega),oh.o];have h:eY= sm:=hm;simp [h]);have oe:Hid (rest.length= (ae.length - k - 1)):=I (by rw [kl];rw [YQ];omega);have rM:Hid (aX 3 aW.cells w (if c3 - k= 1 then (some ⟨eb,fE + k * 3,none⟩ :QR) else some ⟨eb,fE + k * 3 + 3,none⟩) rest):=I (by rw [kl];split <;> first | (rw [List.drop_of_length_le KK];exact aX.nil) | (have h:=Ki bj.o (k + 1);rw [Nat.add_mul,Nat.one_mul,<- Nat.add_assoc] at h;exact h))
   have TU:Hid ((if c3 - k= 1 then (some ⟨eb,fE + k * 3,none⟩ :QR) else some ⟨eb,fE + k * 3 + 3,none⟩)= none->rest= []/\(c3 - k - 1)= 0):=I (λh=>by split at h <;> cases h);clear kl
   generalize (if c3 - k= 1 then (some ⟨eb,fE + k * 3,none⟩ :QR) else some ⟨eb,fE + k * 3 + 3,none⟩)= Ec at *
   have afn:(ae.length - k - 1)<=1048576:=KK
   generalize (ae.length - k - 1)= aik at *
   generalize (c3 - k - 1)= rc at *
   generalize (some ⟨eb,fE,none⟩ :QR)= al at *
   clear oh bC Wy hm
  case' inr.inr.inl=>
   have bC:k < ae.length:=(Xg.1 av).1
   obtain⟨eb,fE,bE,hA3,_,nx,mj⟩:=(bj.o.ad qv.o).at_ aB bC
   clear mj nx bE
   subst hA3
   have cA:=λK:aD wr wr=>(xl (bj.o.ad (ai (ai qv.o aB) K.ad)) av (i:=0) (u:= .int .i64 eY) rfl)
   simp only [XW] at cA
   have oh:=I av;clear av;have Ba:decide (eY < sm)= false:=Xe (by have h:sm < eY:=hm;omega)
   go_wp2
   refine eQ PV PV ?_
   repeat (go_big_quiet_step ((fail)))
   refine VF ?_
   intro K
   clear c4 s0 cA Ba hv iY;have nu:=ai aB K.ad
   generalize K.world= qc at *
   have hv:=fP.o.ad nu fP.o.lt;have iY:=fL.o.ad nu fL.o.lt;have f4:=(hv.cell 4).trans (show _= some (.slice (some ⟨eb,fE,none⟩) ae c3) from rfl)
   have Wy:¬c3= k:=KK
   go_upto_region 6 with fail
   have cA:=λK:aD qc qc=>(xl (bj.o.ad (ai (ai qv.o nu) K.ad)) oh.o (i:=0) (u:= .int .i64 eY) rfl)
   have s0:=λK:aD qc qc=>((iY.ad K.ad iY.lt).cell 0).trans (show _= some (.int .i64 sm) from rfl)
   simp only [XW] at cA
   have Nq:decide (0 < ae.length - k)= true:=Xh KK
   have EG:k<=c3:=KK
   clear f4 hv iY;have zn:(eY == sm)= false:=Xb.2 (by have h:sm < eY:=hm;omega)
   refine eQ PV PV ?_
   repeat (go_big_quiet_step ((fail)))
   refine VF ?_
   intro K
   clear s0 cA zn Nq;have hW:=ai nu K.ad
   generalize K.world= gH at *
   go_upto_region 8 with fail
   obtain⟨rest,kl⟩ :∃l,l= ae.drop k:=⟨_,rfl⟩
   have xC:Hid (gg ae ⟨sm,st,cR⟩ =ae.take k ++ [(⟨sm,st,cR⟩ :aW)] ++ rest):=I (by rw [kl];rw [Kt (k:=k) KK aT.o (λy hy=>by rw [oh.o] at hy;cases hy;have h:sm < eY:=hm;show¬eY < sm;omega),oh.o];have h:¬eY= sm:=(by have h:sm < eY:=hm;omega);simp [h]);have oe:Hid (rest.length= (ae.length - k)):=I (by rw [kl];rw [YQ])
   have rM:Hid (aX 3 aW.cells w (some ⟨eb,fE + k * 3,none⟩ :QR) rest):=I (by rw [kl];exact Ki bj.o k);have TU:Hid ((some ⟨eb,fE + k * 3,none⟩ :QR)= none->rest= []/\(c3 - k)= 0):=I (λh=>by cases h);clear kl
   generalize (some ⟨eb,fE + k * 3,none⟩ :QR)= Ec at *
   have afn:(ae.length - k)<=1048576:=KK
   generalize (ae.length - k)= aik at *
   generalize (c3 - k)= rc at *
   generalize (some ⟨eb,fE,none⟩ :QR)= al at *
   clear oh bC Wy hm
  case' inr.inr.inr=>
   have oO:¬k < ae.length:=KK
   have Iu:=I Rk
   have ati:¬0 < ae.length - k:=KK
   clear Rk
   go_wp2
   refine eQ PV PV ?_
   repeat (go_big_quiet_step ((fail)))
   refine VF ?_
   intro K
   clear c4 s0 hv iY;have nu:=ai aB K.ad
   generalize K.world= qc at *
   have hv:=fP.o.ad nu fP.o.lt;have f4:=(hv.cell 4).trans (show _= some (al ae c3) from rfl)
   go_upto_region 6 with fail
   have EG:k<=c3:=KK
   clear f4 hv
   refine eQ PV PV ?_
   repeat (go_big_quiet_step ((fail)))
   refine VF ?_
   intro K
   clear ati oO;have hW:=ai nu K.ad
   generalize K.world= gH at *
   go_upto_region 8 with fail
   obtain⟨rest,kl⟩ :∃l,l= ae.drop k:=⟨_,rfl⟩
   have xC:Hid (gg ae ⟨sm,st,cR⟩ =ae.take k ++ [(⟨sm,st,cR⟩ :aW)] ++ rest):=I (by rw [kl];rw [Kt (k:=k) KK aT.o (λy hy=>by have h1:=(Xg.1 hy).1;have h2:=Iu.o;omega),List.getElem?_eq_none (by have h2:=Iu.o;omega)];simp;have h2:=Iu.o;omega);have oe:Hid (rest.length= (ae.length - k)):=I (by rw [kl];rw [YQ])
   have rM:Hid (aX 3 aW.cells w (if c3= k then al else Option.map (λx=>x.add (k * 3)) al) rest):=I (by rw [kl];rw [List.drop_of_length_le (by have h2:=Iu.o;omega)];exact aX.nil);have TU:Hid ((if c3= k then al else Option.map (λx=>x.add (k * 3)) al)= none->rest= []/\(c3 - k)= 0):=I (λh=>by rw [kl];exact aqz n3.o Iu.o h);clear kl
   generalize (if c3= k then al else Option.map (λx=>x.add (k * 3)) al)= Ec at *
   have afn:(ae.length - k)<=1048576:=KK
   generalize (ae.length - k)= aik at *
   generalize (c3 - k)= rc at *
   clear Iu
  all_goals
   have lF:Hid ((ae.take k).length= k):=I ZH;have sw:Hid (aX 3 aW.cells w al (ae.take k)):=I (HM bj.o k);have aop:Hid (al= none->ae.take k= []/\c3= 0):=I (λh=>⟨by simp [(n3.o h).1],(n3.o h).2⟩);have ag:=fP.o.ad hW fP.o.lt;have bJ:=fL.o.ad hW fL.o.lt;have J:=jN.o.ad hW jN.o.lt;have aR:=fV.o.ad hW fV.o.lt
   have bh:=jC.o.aK hW;have U:=ai qv.o hW;have aIc:=U.size;have aEU:=hW.size
   obtain⟨f0,f1,f2,f3,f4⟩:=ag.aL
   obtain⟨s0,s1,s2⟩:=bJ.cb
   have af:=J.aL
   obtain⟨cA,x1,cB,cY,cZ⟩:=aR.aL
   obtain⟨ss,oo⟩ :∃X:World->Prop,∀V,X V↔(Below w w V/\ay V w 41 #[tu,se,sp,ak ws c2,al ae c3]/\ay V ((w.heap.size + 1)) 214 #[sm,st,cR]/\ay V aI 41 #[tu,se,sp,.slice aU ws d2,.slice bd ae d3]):=⟨_,λ_=>Xt⟩
   replace oo:=I oo
   haveI:Nonempty (cM ss):=⟨⟨gH,((oo.o _).2 ⟨U,ag,bJ,aR⟩)⟩⟩
   clear f0 f1 f2 f3 f4;clear s0 s1 s2;clear af;clear cA x1 cB cY cZ
   obtain⟨f0,f1,f2,f3,f4⟩:=ay.kG (λK:cM ss=>((oo.o _).1 K.holds).2.1)
   obtain⟨s0,s1,s2⟩:=ay.kF (λK:cM ss=>((oo.o _).1 K.holds).2.2.1)
   obtain⟨cA,x1,cB,cY,cZ⟩:=ay.kG (λK:cM ss=>((oo.o _).1 K.holds).2.2.2)
   refine Ia (oU 214 3 aW.cells 5 7 ae k #[sm,st,cR]) ss [([],0),([1,2,3,4],5),([6],7)] [9] [([],[],8,false),([],[],10,false),([],[11],12,true)] [] [] PV PV ((oo.o _).2 ⟨U.drew,ag,bJ,aR⟩) (λW fz h k=>((oo.o _).2 ⟨((oo.o _).1 h).1.trans (k.mono ((oo.o _).1 h).1.size),((oo.o _).1 h).2.1.ad k ((oo.o _).1 h).2.1.lt,((oo.o _).1 h).2.2.1.ad k ((oo.o _).1 h).2.2.1.lt,((oo.o _).1 h).2.2.2.ad k ((oo.o _).1 h).2.2.2.lt⟩)) ?_
   intro bA
   refine iP (some 46) rfl (.slice (bA 0).1 0 0) rfl λhE eu=>?_
   refine Xn ?_
   refine VF ?_
   refine⟨λhi fQ=>?_,eu _ ?_⟩
   .refine XV ?_
    go_wp2
    first | exact hz ⟨(some ⟨hi.world,0,none⟩,0),rfl,bP _ _,by simp [oU];exact ay.new _ _ _⟩ | exact hz ⟨some ⟨hi.world,0,none⟩,0,rfl,bP _ _,by simp [oU];exact ay.new _ _ _⟩
   simp only [Act.put]
   go_simp
   refine iP (some 51) rfl (.slice (bA 5).1 k (bA 5).2) rfl λhE eu=>?_
   refine Yo ?_
   repeat go_big_quiet_step (fail)
   refine VF ?_
   refine⟨λhi fQ=>?_,eu _ ?_⟩
   .refine XV ?_
    obtain⟨gZ,uf,pn,Ey,ld⟩:=fQ 0 (by simp [oU])
    obtain⟨lJ,lb⟩:=Ey.1 rfl
    have jG:=lb.to ld;have iN:(bA 0).1= some ⟨gZ,0,none⟩:=lJ;have pa:=I (sw.o.ad ((oo.o _).1 hi.holds).1);replace jG:=I jG;clear lb lJ pn ld Ey fQ
    rw [iN]
    replace iN:=I iN
    go_wp2_with ((at_builtin;refine va rfl _ _ 39 rfl gZ 214 i0 _ 3 24 Tryz.underlying39 bo dP dZ dV rfl WG aW.cells hI yg gZ rfl jG.o (XZ _) al c3 (ae.take k) k lF.o.symm rfl pa.o aop.o ZU ZV ?_;intro bS dq ah fW fM))
    first | exact hz ⟨(some ⟨bS,0,none⟩,dq),rfl,fM,by simp [oU],λ_=>⟨gZ,bS,iN.o,rfl,fW⟩,by simp [oU]⟩ | exact hz ⟨some ⟨bS,0,none⟩,dq,rfl,fM,by simp [oU],λ_=>⟨gZ,bS,iN.o,rfl,fW⟩,by simp [oU]⟩
   simp only [Act.put]
   go_simp
   refine iP (some 53) rfl (.slice (bA 7).1 1 1) rfl λhE eu=>?_
   refine Xp ?_
   repeat go_big_quiet_step (fail)
   refine VF ?_
   refine⟨λhi fQ=>?_,eu _ ?_⟩
   .refine XV ?_
    go_wp2
    first | exact hz ⟨(some ⟨hi.world,0,none⟩,0),rfl,bP _ _,by simp [oU],by simp [oU],λ_=>⟨hi.world,rfl,rfl,ay.new _ _ _⟩⟩ | exact hz ⟨some ⟨hi.world,0,none⟩,0,rfl,bP _ _,by simp [oU],by simp [oU],λ_=>⟨hi.world,rfl,rfl,ay.new _ _ _⟩⟩
   simp only [Act.put]
   go_simp
   refine tU ?_
   refine Xp ?_
   repeat go_big_quiet_step (fail)
   refine VF ?_
   intro dy V W aC cv
   obtain⟨g0,g5,e0,e5,sg⟩ :∃g bS,(bA 0).1= some ⟨g,0,none⟩/\(bA 5).1= some ⟨bS,0,none⟩/\bn g 214 3 aW.cells (V 5) (.slice (bA 5).1 (ae.take k).length (bA 5).2) (ae.take k):=(aC.post 5 Wn).2.1 rfl
   obtain⟨a0,_⟩ :(bA 0).1= some ⟨(dy 0),0,none⟩/\ay (V 0) (dy 0) 214 #[]:=(aC.post 0 Wn).1 rfl
   obtain⟨g7,e7,u7,sX⟩ :∃g,(bA 7).1= some ⟨g,0,none⟩/\(dy 7).heap.size= g/\ay (V 7) g 214 #[sm,st,cR]:=(aC.post 7 Wn).2.2 rfl
   have t0:(dy 0).heap.size= g0:=by rw [a0] at e0;exact Xc Addr.block (Wx e0)
   have hd:=(sg.aK (aC.aK 5 Wn)).base (B':=gH) Zk;have aEv:=bJ.lt;have ur:=sX.ad (aC.aK 7 Wn) sX.lt;have wZ:Below gH gH W:=(aC.whole 5 Wn).rI;clear f0 f1 f2 f3 f4;clear s0 s1 s2;clear cA x1 cB cY cZ;have dK:Below gH gH W:=ai ao (aC.whole 5 Wn).rI
   replace U:=ai U dK;replace bh:=bh.aK dK;replace ag:=ag.to dK;replace bJ:=bJ.to dK;replace J:=J.to dK;have af:=J.aL;replace aR:=aR.to dK
   obtain⟨cA,x1,cB,cY,cZ⟩:=aR.aL
   clear aC sg sX a0 e0 t0 u7 cv
   generalize bA 5= nD at *
   generalize bA 7= HF at *
   obtain⟨Pl,d5⟩:=nD
   obtain⟨Pm,d7⟩:=HF
   simp only at hd e5 e7
   subst e5
   subst e7
   rw [lF.o] at hd
   have tp:Hid (aX 3 aW.cells W (some ⟨g7,0,none⟩) [(⟨sm,st,cR⟩ :aW)]):=I (λ_=>⟨g7,0,rfl,ur.lt,λi y hy j u hu=>by
    have h0:i= 0:=by have:=(Xg.1 hy).1;simp at this;omega
    subst h0;simp at hy;subst hy
    rw [Xy,YF]
    exact (ur.cell _).trans (by simpa [aW.cells] using hu)⟩)
   have asV:=hd.Dm aR WG;have asW:=hd.Dm J WG;have Wr:=bh.apart hd WG;have WB:=hd.lt g5 rfl;have OX:=U.size;have Dz:=wZ.size;have Iq:=I ag;have Ui:=I bJ;have asU:=hd.Dm ag WG;replace hd:=I hd;replace Wr:=I Wr;have rn:=I aR;have js:=I J;have fg:=I U;have vl:=I bh;clear ur aR J ag bJ bh U af cA x1 cB cY cZ
   haveI:Nonempty (cM (λ_=>True)):=⟨⟨w,trivial⟩⟩
   refine jj λff da=>?_
   refine VF ?_
   refine VF ?_
   refine XV ?_
   have TX:Hid (bn gH 214 3 aW.cells W (g5 k d5) (ae.take k)):=hd
   go_wp2_with ((at_builtin;refine ke rfl _ _ 39 rfl gH 214 i0 _ 3 24 Tryz.underlying39 bo dP dZ dV rfl WG aW.cells hI yg _ (ae.take k) rfl TX.o ⟨g7,0,none⟩ 1 ⟨sm,st,cR⟩ rfl tp.o ZU ZV Dz ?_;intro KE du nT gy Wo;clear Wo;obtain⟨aoZ,aCi,rfl,q1,gM,nn⟩:=nT.form hI;clear q1 gM nn;have lZ:(ae.take k ++ [(⟨sm,st,cR⟩ :aW)]).length= k + 1:=(by rw [Xu,lF.o];rfl);rw [lZ] at nT;clear lZ))
   have QL:=Iq.o.jE gy (λe=>asU (Wx e));have mM:=Ui.o.jE gy (λe=>by have h9:w.heap.size + 1= g5:=Wx e;omega);have zg:=rn.o.jE gy (λe=>asV (Wx e));have wO:=js.o.jE gy (λe=>asW (Wx e));have UD:=vl.o.kept gy (λk ax e=>Wr.o k ax e);have xz:Below w w du:=fg.o.grown gy OX (λq bt=>by have h9:g5= q:=Wx bt;omega)
   have Rf:=nT.bK zg;have Rg:=nT.bK wO;have QV:=UD.apart nT WG;have CG:=nT.lt;have yk:=xz.size;have aIO:=Xr Dz gy.size;have Rc:=nT.bK QL;have Et:=((oo.o _).2 ⟨xz,QL,mM,zg⟩)
   refine Ho ?_ Rc nT QV Rf Rg CG
   clear Rc nT QV Rf Rg CG
   intro Rc nT QV Rf Rg CG
   have Iq:=I QL;have Ui:=I mM;have rn:=I zg;have js:=I wO;have fg:=I xz;have vl:=I UD;clear zg wO UD xz gy QL mM
   refine nK Et (da _ _ ?_)
   clear Et
   refine jj λxE oq=>?_
   refine VF ?_
   refine VF ?_
   refine XV ?_
   try simp only [Act.put]
   try go_simp
   have BW:=I (rM.o.ad fg.o)
   go_wp2_with ((at_builtin;refine Pe rfl _ _ 39 rfl gH 214 i0 _ 3 24 Tryz.underlying39 bo dP dZ dV rfl WG aW.cells hI yg _ (ae.take k ++ [(⟨sm,st,cR⟩ :aW)]) rfl nT.o Ec rc rest (by rw [oe.o];rfl) BW.o TU.o aGS aGT aIO ?_;intro v10 fH tA ds;rw [<- xC.o] at tA;obtain⟨Y,iC,rfl,q1,gM,nn⟩:=tA.form hI;clear q1 gM nn))
   have MM:=Iq.o.jE ds (λe=>Rc.o _ e.symm rfl);have kg:=Ui.o.jE ds (λe=>by have h9:=(CG.o _ e.symm).1;omega);have eT:=rn.o.jE ds (λe=>Rf.o _ e.symm rfl);have cp:=js.o.jE ds (λe=>Rg.o _ e.symm rfl);have bh:=vl.o.kept ds (λk ax e=>QV.o k ax e);have bf:=tA;have U:=fg.o.grown ds yk (λq bt=>by have:=(CG.o q bt).1;omega)
   clear ds tA
   refine nK ((oo.o _).2 ⟨U,MM,kg,eT⟩) (oq _ _ ?_)
   refine jj λaCt asa=>?_
   refine VF ?_
   refine Xp ?_
   try simp only [Act.put]
   try go_simp
   repeat go_big_quiet_step (fail)
   refine VF ?_
   refine XV ?_
   have af:=cp.aL
   obtain⟨cA,x1,cB,cY,cZ⟩:=eT.aL
   have eo:=bh.bK eT;have dL:=bf.bK eT;have aro:=eT.frozen 4
   go_wp2
   clear af cA x1 cB cY cZ
   refine kL 4 λQc mo=>?_
   replace U:=mo.aN U;replace cp:=mo.dj cp;replace eT:=mo.aHR eT;replace bh:=bh.cS mo eo;replace bf:=bf.cS mo dL;have af:=cp.aL
   obtain⟨cA,x1,cB,cY,cZ⟩:=eT.aL
   clear eo dL aro
   refine rP (asa _ _ ?_)
   refine qu ?_
   refine VF ?_
   refine VF ?_
   have eo:=bh.bK cp;have dL:=bf.bK cp;have Jc:=cp.frozen 0;have Jd:=cp.frozen 1;have Je:=cp.frozen 2;have Jf:=cp.frozen 3;have Jg:=cp.frozen 4
   go_wp2
   clear af cA x1 cB cY cZ
   refine hs 0 λQd mV=>?_
   replace U:=mV.aN U;replace cp:=mV.iK cp;replace eT:=mV.dj eT;replace bh:=bh.cS mV eo;replace bf:=bf.cS mV dL;have af:=cp.aL
   refine XY (v:= .agg #[tu,se,sp,.slice aU ws d2,Y (gg ae ⟨sm,st,cR⟩).length iC]) (by simp [results,Tryz.results290,go_sem,af]) rfl ?_
   exact⟨aU,d2,Y,iC,rfl,⟨bh.base (XZ _),bf.base aIc,bh.apart bf WG⟩,U⟩
end Go.Proofs.YtlaaemmmbodaaaaGreatDoor
