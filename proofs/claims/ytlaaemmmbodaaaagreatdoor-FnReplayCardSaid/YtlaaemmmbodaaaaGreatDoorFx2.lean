/- Parts. -/
import Derived.Test.YtlaaemmmbodaaaaGreatDoorFx1
set_option maxHeartbeats 16000000
set_option maxRecDepth 100000
set_option linter.all false
open Go Go.RowKit Go.Proofs.YtlaaemmmbodaaaaGreatDoor
variable {rs:List aM} {qs ps:List aZ} {i j k wl wc dT:Nat} {q:aZ} {t:aM} {x s:aW} {xs ae:List aW} {n id mem rk m tu se sp:Int} {W S:QR} {ws:List Int} {v:Prop}
namespace Go.Proofs.YtlaaemmmbodaaaaGreatDoor
theorem YG (h:v:=by have:=fT.out;omega):v:=h
theorem ZP (h:v:=by have:=hW.size;simp;omega):v:=h
def mb (rs:List aM) (qs:List aZ):Bool:=match qs[qs.length - 1]? with
 | some q=>(match jb rs q.rule with | some r=>mC r q | none=>false)
 | none=>false
def gD (rs:List aM) (qs:List aZ):List Int:=match qs[qs.length - 1]? with
 | none=>rs.map (λr=>r.id)
 | some q=>(match jb rs q.rule with
  | some t=>if mC t q || decide (qs.length= 6) then [] else (rs.filter (λr=>decide (t.hS < r.hS))).map (λr=>r.id)
  | none=>[])
def kU (rs:List aM) (qs:List aZ) (id mem:Int):Option (List aZ):=if ee rs qs && (fy mem && hasB (gD rs qs) id) then some (qs ++ [⟨id,mem,false⟩]) else none
def Fi (qs:List aZ):List aZ:=match qs[qs.length - 1]? with | some q=>qs.take (qs.length - 1) ++ [⟨q.rule,q.mover,true⟩] | none=>qs
def Od (qs:List aZ) (mem:Int):Bool:=match qs[qs.length - 1]? with | some q=>q.mover == mem | none=>true
def ln (rs:List aM) (qs:List aZ) (mem:Int):Option (List aZ):=if ee rs qs && (mb rs qs && (fy mem && !Od qs mem)) then some (Fi qs) else none
def vq (rs:List aM) (qs:List aZ):Option (List aZ×aZ):=match qs[qs.length - 1]? with
 | some q=>if ee rs qs && !mb rs qs then some (qs.take (qs.length - 1),q) else none
 | none=>none
def rf (qs:List aZ) (mem:Int):Nat->Option Nat
 | 0=>none
 | k + 1=>match qs[k]? with | some q=>if q.mover == mem then some k else rf qs mem k | none=>rf qs mem k
def mG (rs:List aM) (qs:List aZ) (mem:Int):Option (List aZ):=if ee rs qs then (rf qs mem qs.length).map (λk=>qs.take k) else none
def AN (rs:List aM) (qs:List aZ):List aZ:=if mb rs qs then qs.take (qs.length - 1) else qs
def nP (rs:List aM) (qs:List aZ):Option (List aZ):=if ee rs qs then some (AN rs qs) else none
theorem ahO (h:∀j,j<=i->qs[j]? =ps[j]?):ta rs qs i= ta rs ps i:=by
 cases i with
 | zero=>simp only [ta,h 0 (XZ _)]
 | succ j=>simp only [ta,h j KK,h (j + 1) (XZ _)]
theorem mS (h:ee rs qs= true):jR rs= true/\qs.length<=6/\∀i,i < qs.length->ta rs qs i= true:=by
 simp only [ee,Xa,Xf] at h
 exact⟨h.1,h.2.1,oM.1 h.2.2⟩
theorem ahD (h1:jR rs= true) (h2:qs.length<=6) (h3:∀i,i < qs.length->ta rs qs i= true):ee rs qs= true:=by
 simp only [ee,Xa,Xf]
 exact⟨h1,h2,oM.2 h3⟩
theorem Sp (h:ee rs qs= true) (k:Nat):ee rs (qs.take k)= true:=by
 obtain⟨h1,h2,h3⟩:=mS h
 refine ahD h1 ZH (λi bo=>?_)
 rw [YA] at bo
 rw [ahO (ps:=qs) (λj cc=>by rw [Yb,XX KK])]
 exact h3 i KK
theorem ahE (h:ee rs qs= true) (aT:qs.length < 6) (bt:sZ rs q= true) (dn:∀j p,qs.length= j + 1->qs[j]? =some p->Ke rs p q= true):ee rs (qs ++ [q])= true:=by
 obtain⟨h1,h2,h3⟩:=mS h
 refine ahD h1 Xq (λi bo=>?_)
 rw [Xu,Yi] at bo
 by_cases bC:i < qs.length
 .rw [ahO (ps:=qs) (λj cc=>by rw [Yt KK])]
  exact h3 i bC
 .obtain rfl:i= qs.length:=KK
  have uH:(qs ++ [q])[qs.length]? =some q:=Wn
  cases bq:qs.length with
  | zero=>rw [bq] at uH;rw [Sz uH];exact bt
  | succ j=>
   have aS:qs[j]? =some qs[j]:=Xj KK
   rw [bq] at uH
   rw [Dq (p:=qs[j]) (by rw [Yt KK];exact aS) uH,bt,dn j _ bq aS];rfl
theorem Dh {r:aM} (aT:qs.length= j + 1) (bt:qs[j]? =some q) (bu:jb rs q.rule= some r):mb rs qs= mC r q:=by
 have:qs.length - 1= j:=KK
 simp only [mb,this,bt,bu]
theorem RN (h:qs.length= 0):mb rs qs= false:=by
 obtain rfl:=YD.1 h;rfl
theorem agS (h:qs.length= 0):gD rs qs= rs.map (λr=>r.id):=by
 obtain rfl:=YD.1 h;rfl
theorem aFC (aT:qs.length= j + 1) (bt:qs[j]? =some q) (bu:jb rs q.rule= some t):gD rs qs= if mC t q || decide (qs.length= 6) then [] else (rs.filter (λr=>decide (t.hS < r.hS))).map (λr=>r.id):=by
 have:qs.length - 1= j:=KK
 simp only [gD,this,bt,bu]
theorem alv (h:v:=by
 unfold gD
 split
 .simp
 .split
  .split
   .simp
   .rw [YZ];exact List.length_filter_le _ _
  .simp):v:=h
theorem Of (rs:List aM) (qs:List aZ):(gD rs qs).length<=rs.length:=by
 exact alv
theorem OK (h:jR rs= true):rs.length<=8/\∀k,k < rs.length->vS rs k= true:=by
 simp only [jR,Xa,Xf] at h
 exact⟨h.2,oM.1 h.1⟩
theorem ye (h:jR rs= true) {r:aM} (bu:rs[k]? =some r):tc r= true:=by
 have ax:=(Xg.1 bu).1;have h1:=(OK h).2 k ax
 cases k with
 | zero=>simp only [vS,bu] at h1;exact h1
 | succ j=>
  have aS:rs[j]? =some rs[j]:=Xj KK
  simp only [vS,aS,bu,Xa] at h1;exact h1.1
theorem yd {r:aM} (h:tc r= true):1<=r.id/\r.id<=20/\0<=r.hS/\r.hS<=9/\1<=r.need/\r.need<=3/\vZ r.name= true:=by
 simp only [tc,Xa,qT] at h
 obtain⟨a,b,c,d⟩:=h
 exact⟨a.1,a.2,c.1,c.2,d.1,d.2,b⟩
theorem aiu (h:jR rs= true) {x y:aM} (hy:rs[j]? =some y) (av:rs[j + 1]? =some x):y.id < x.id:=by
 have h1:=(OK h).2 (j + 1) (Xg.1 av).1
 simp only [vS,hy,av,Xa,Xf] at h1;exact h1.2.1
theorem aGp (h:jR rs= true):∀d j x y,rs[j]? =some y->rs[j + 1 + d]? =some x->y.id < x.id
 | 0,j,x,y,hy,av=>aiu h hy av
 | d + 1,j,x,y,hy,av=>by
  have bC:j + 1 + d < rs.length:=by have:=(Xg.1 av).1;omega
  have cF:rs[j + 1 + d]? =some rs[j + 1 + d]:=Xj bC;have h1:=aGp h d j _ y hy cF;have h2:=aiu h cF (show rs[j + 1 + d + 1]? =some x from av)
  omega
theorem ait (h:jR rs= true) {r:aM} (bu:rs[k]? =some r):jb rs r.id= some r:=by
 rcases RF (λx:aM=>x.id == r.id) rs with ⟨h1,h2⟩ | ⟨j,x,h1,h2,h3⟩
 .rw [List.find?_eq_none] at h2
  have:=h2 r (YE bu)
  simp at this
 .have av:x.id= r.id:=by have:=List.find?_some h3;simpa using this
  have CL:j= k:=by
   rcases Nat.lt_trichotomy j k with bC | he | bC
   .obtain⟨d,rfl⟩ :∃d,k= j + 1 + d:=⟨k - j - 1,by omega⟩
    have:=aGp h d j r x h2 bu
    omega
   .exact he
   .obtain⟨d,rfl⟩ :∃d,j= k + 1 + d:=⟨j - k - 1,by omega⟩
    have:=aGp h d k x r bu h2
    omega
  subst CL
  rw [h2] at bu;cases bu;exact h3
theorem asx {xs:List Int} (h:hasB xs n= true):n ∈ xs:=by simpa [hasB] using h
theorem axj (h:ee rs qs= true) (hid:hasB (gD rs qs) id= true):qs.length < 6/\∃r,jb rs id= some r/\∀j q,qs.length= j + 1->qs[j]? =some q->Ke rs q ⟨id,0,false⟩ =true:=by
 obtain⟨h1,h2,h3⟩:=mS h
 have hm:=asx hid
 cases bq:qs.length with
 | zero=>
  rw [agS bq] at hm
  obtain⟨r,bu,rfl⟩:=YP.1 hm
  obtain⟨k,ax⟩:=YY.1 bu
  exact⟨by omega,r,ait h1 ax,λj q cc=>by omega⟩
 | succ j=>
  have bt:qs[j]? =some qs[j]:=Xj KK
  obtain⟨t,cJ⟩:=pB h bt
  rw [aFC bq bt cJ] at hm
  split at hm
  .simp at hm
  .rename_i aN
   simp only [Bool.or_eq_true,Xf,not_or,Bool.not_eq_true] at aN
   obtain⟨r,bu,rfl⟩:=YP.1 hm
   rw [List.mem_filter] at bu
   obtain⟨k,ax⟩:=YY.1 bu.1
   have hf:=ait h1 ax
   refine⟨by omega,r,hf,λj' fJ cc NC=>?_⟩
   obtain rfl:j'= j:=KK
   rw [bt] at NC;cases NC
   rw [zS cJ hf,aN.1,bu.2];rfl
theorem axu (h:kU rs qs id mem= some ps):ee rs ps= true:=by
 unfold kU at h
 split at h
 .rename_i aN
  simp only [Xa] at aN
  cases h
  obtain⟨aT,r,bu,dn⟩:=axj aN.1 aN.2.2
  refine ahE aN.1 aT ?_ (λj p cc aS=>?_)
  .rw [Bs (q:=⟨id,mem,false⟩) bu];simpa using aN.2.1
  .have h2:=dn j p cc aS
   obtain⟨t,cJ⟩:=pB aN.1 aS
   rw [zS (q:=⟨id,0,false⟩) cJ bu] at h2
   rw [zS (q:=⟨id,mem,false⟩) cJ bu];exact h2
 .cases h
theorem awN (aT:qs.length= j + 1) (bt:qs[j]? =some q):qs= qs.take j ++ [q]:=by
 have h1:=Yu (l:=qs) (i:=j) KK
 rw [YO KK,(Xg.1 bt).2] at h1
 exact h1
theorem aAP (h:ln rs qs mem= some ps):ee rs ps= true:=by
 unfold ln at h
 split at h
 .rename_i aN
  simp only [Xa] at aN
  cases h
  cases bq:qs.length with
  | zero=>have:=RN (rs:=rs) bq;rw [this] at aN;simp at aN
  | succ j=>
   have bt:qs[j]? =some qs[j]:=Xj KK
   obtain⟨t,cJ⟩:=pB aN.1 bt
   have rA:=aN.2.1
   rw [Dh bq bt cJ] at rA
   have aP:t.second= true:=by simp only [mC,Xa] at rA;exact rA.1
   obtain⟨h1,h2,h3⟩:=mS aN.1
   have Rx:=h3 j KK;have aFS:=Fa Rx bt
   rw [Bs cJ] at aFS
   simp only [Xa] at aFS
   have atZ:Fi qs= qs.take j ++ [⟨qs[j].rule,qs[j].mover,true⟩]:=by
    have:qs.length - 1= j:=KK
    simp only [Fi,this,bt]
   rw [atZ]
   refine ahE (Sp aN.1 j) ZH ?_ (λi p bo aS=>?_)
   .rw [Bs (q:=⟨qs[j].rule,qs[j].mover,true⟩) cJ,aP];simpa using aFS.1
   .rw [YA] at bo
    rw [Yb,XX KK] at aS
    obtain rfl:j= i + 1:=KK
    rw [Dq aS bt] at Rx
    simp only [Xa] at Rx
    obtain⟨u,hu⟩:=pB aN.1 aS
    have h5:=Rx.2
    rw [zS hu cJ] at h5
    rw [zS (q:=⟨qs[i + 1].rule,qs[i + 1].mover,true⟩) hu cJ];exact h5
 .cases h
theorem acY (h:vq rs qs= some (ps,q)):ee rs ps= true/\ee rs qs= true/\∃j,qs.length= j + 1/\qs[j]? =some q/\ps= qs.take j:=by
 unfold vq at h
 split at h
 .rename_i fJ NC
  split at h
  .rename_i aN
   simp only [Xa] at aN
   cases h
   have:=(Xg.1 NC).1
   exact⟨Sp aN.1 _,aN.1,qs.length - 1,by omega,NC,rfl⟩
  .cases h
 .cases h
theorem aBV (h:mG rs qs mem= some ps):ee rs ps= true:=by
 unfold mG at h
 split at h
 .rename_i aN
  cases hw:rf qs mem qs.length with
  | none=>rw [hw] at h;cases h
  | some k=>rw [hw] at h;cases h;exact Sp aN k
 .cases h
theorem aql (h:nP rs qs= some ps):ee rs ps= true:=by
 unfold nP at h
 split at h
 .rename_i aN
  cases h
  unfold AN
  split
  .exact Sp aN _
  .exact aN
 .cases h
theorem Oz (h:ee rs qs= true) (bt:qs[k]? =some q):fy q.mover= true:=by
 obtain⟨r,bu⟩:=pB h bt
 have h1:=Fa ((mS h).2.2 k (Xg.1 bt).1) bt
 rw [Bs bu] at h1
 simp only [Xa] at h1;exact h1.1
theorem aHY:∀{k j:Nat},rf qs mem k= some j->∃q,qs[j]? =some q/\q.mover= mem
 | 0,j,h=>by simp [rf] at h
 | k + 1,j,h=>by
  unfold rf at h
  split at h
  .rename_i q bt
   split at h
   .rename_i hm;cases h;exact⟨q,bt,by simpa using hm⟩
   .exact aHY h
  .exact aHY h
def Cg (w:World):Prop:=0 < w.heap.size/\∀(i:Nat) (s:ByteArray),[⟨#[]⟩,(⟨#[109,97,106,111,114,105,116,121]⟩ :ByteArray),(⟨#[116,119,111,45,116,104,105,114,100,115]⟩ :ByteArray),(⟨#[97,108,108]⟩ :ByteArray)][i]? =some s->w.cell? ⟨0,i,none⟩ =some (.string s)
theorem Cg.ad {w ah:World} (h:Cg w) (aB:Below w w ah):Cg ah:=by
 obtain⟨cy,aS⟩:=h
 exact⟨YW cy aB.size,λi s bo=>(aB.cell (p:=⟨0,i,none⟩) cy).trans (aS i s bo)⟩
def oQ (rk:Int) (rs:List aM):Nat->List Int
 | 0=>[]
 | k + 1=>match rs[k]? with | some r=>if rk < r.hS then oQ rk rs k ++ [r.id] else oQ rk rs k | none=>oQ rk rs k
theorem Di (rk:Int) (rs:List aM):∀k,(oQ rk rs k).length<=k
 | 0=>XZ _
 | k + 1=>by
  have:=Di rk rs k
  unfold oQ
  split
  .split <;> simp <;> omega
  .omega
theorem Oe {r:aM} (av:rs[k]? =some r) (h:rk < r.hS):oQ rk rs (k + 1)= oQ rk rs k ++ [r.id]:=by simp [oQ,av,h]
theorem RP {r:aM} (av:rs[k]? =some r) (h:¬rk < r.hS):oQ rk rs (k + 1)= oQ rk rs k:=by simp [oQ,av,h]
theorem agQ (rk:Int) (rs:List aM):∀k,k<=rs.length->oQ rk rs k= ((rs.take k).filter (λr=>decide (rk < r.hS))).map (λr=>r.id)
 | 0,_=>by simp [oQ]
 | k + 1,h=>by
  have av:rs[k]? =some rs[k]:=Xj KK;have eR:=agQ rk rs k KK
  rw [List.take_add_one,av,Option.toList_some,List.filter_append,List.map_append,<- eR]
  by_cases bu:rk < rs[k].hS
  .rw [Oe av bu];simp [bu]
  .rw [RP av bu];simp [bu]
theorem agP (rk:Int) (rs:List aM):oQ rk rs rs.length= (rs.filter (λr=>decide (rk < r.hS))).map (λr=>r.id):=by
 rw [agQ rk rs _ (XZ _),Yh]
theorem agR (aS:ee rs qs= true) (h:qs.length= 0):gD rs qs= oQ (-1) rs rs.length:=by
 rw [agS h,agP]
 congr 1
 symm
 rw [List.filter_eq_self]
 intro r bu
 obtain⟨k,ax⟩:=YY.1 bu
 have:=yd (ye (mS aS).1 ax)
 simp;omega
theorem agT (aT:qs.length= j + 1) (bt:qs[j]? =some q) (bu:jb rs q.rule= some t) (ax:mC t q= false) (h6:qs.length≠6):gD rs qs= oQ t.hS rs rs.length:=by
 rw [aFC aT bt bu,ax,Xe h6,agP];rfl
theorem RQ (aT:qs.length= j + 1) (bt:qs[j]? =some q) (bu:jb rs q.rule= some t) (ax:mC t q= true\/qs.length= 6):gD rs qs= []:=by
 rw [aFC aT bt bu,XX]
 rcases ax with h | h
 .rw [h];rfl
 .rw [h];simp
theorem anE (h:v:=by
 have zz:Below w w bH:=(hW.alloc hW.size _).grown ed ZP (λq bt=>(uA.lt q bt).1)
 go_roundw
 case rel=>exact⟨k + 1,by omega,by go_num,by rw [nG.o];exact fb,zz⟩
 case measure=>simp [intOf];omega):v:=h
theorem aHt (h:v:=by
 have nG:=I de;clear de
 go_wp2
 go_roundw
 case rel=>exact⟨k + 1,by omega,by go_num,by rw [nG.o];exact uA,hW⟩
 case measure=>simp [intOf];omega):v:=h
theorem ali (h:v:=by
 obtain rfl:k= rs.length:=KK
 obtain⟨Y,iC,rfl,_,_,_⟩:=aV.form fR
 go_wp2
 go_ret
 rw [hp.o]
 exact⟨Y,iC,rfl,aV,aB⟩):v:=h
theorem alx (h:v:=by
 rintro e bm ⟨rfl,aB⟩
 go_wp2
 go_ret
 rw [hp.o]
 exact⟨some ⟨w,0,none⟩,0,rfl,iM.aK aB,ai qI aB⟩):v:=h
theorem aFB (aq:QR) (c0:Nat) (rs:List aM) (h0:rs) (au:QR) (aw:Nat) (qs:List aZ) (h1:qs) (aS:ee rs qs= true) (w:World) (bk:aX 7 aM.cells w aq rs) (bg:aX 3 aZ.cells w au qs):
 Rd 172 #[aq rs c0,au qs aw] w λe ah=>∃A c,e= .returned (.slice A (gD rs qs).length c)/\bn w 3 1 cE ah (.slice A (gD rs qs).length c) (gD rs qs)/\Below w w ah:=by
 obtain⟨i0,bo,dP,dZ,dV⟩:=Xo vK
 have gu:=I bk;have iM:bn w 3 1 cE (w.alloc (.cells #[] 3)) (.slice w 0 0) ([]:List Int):=bn.made w (XZ _) _;have qI:Below w w (w.alloc (.cells #[] 3)):=bP w _
 by_cases jW:qs.length= 0
 .have hp:=I (agR aS jW)
  have cc:decide ((qs.length:Int) - 1>=0)= false:=by rw [jW];decide
  have aoC:=I jW;clear bk bg
  obtain rfl:=YD.1 jW
  clear cc jW aoC
  go_in
  go_wp2
  go_loopw [5,37] (λy i wr=>∃k:Nat,k<=rs.length/\i= .int .i64 k/\bn w 3 1 cE wr y (oQ (-1) rs k)/\Below w w wr) (λ_ i _=>rs.length - (intOf i).toNat)
  case atStart=>exact⟨0,Xd _,rfl,iM,qI⟩
  case round=>
   clear iM qI
   obtain⟨k,ax,rfl,aV,aB⟩:=hrel
   by_cases bC:k < rs.length
   .obtain⟨eV,iA,x,rfl,eN,av,bO⟩:=gu.o.at_ aB bC
    have hQ:=yd (ye (mS aS).1 av)
    obtain⟨tk,Ah,iZ,xs,Af,lz,Ag,aHi⟩:=x
    have cG:=bO 0 _ rfl;have dJ:=bO 1 _ rfl;have dt:=bO 2 _ rfl;have mR:=bO 3 _ rfl;have lP:=bO 4 _ rfl;have nD:=bO 5 _ rfl;have tN:=bO 6 _ rfl
    simp only [XW] at cG
    have g0:=cG (aD.self _);have g1:=dJ (aD.self _);have g2:=dt (aD.self _);have g3:=mR (aD.self _);have g4:=lP (aD.self _);have g5:=nD (aD.self _);have g6:=tN (aD.self _)
    simp only [aD.self] at g0
    simp only [aD.self] at g1
    simp only [aD.self] at g2
    simp only [aD.self] at g3
    simp only [aD.self] at g4
    simp only [aD.self] at g5
    simp only [aD.self] at g6
    have fV:=I av;clear av bO cG dJ dt mR lP nD tN
    go_upto_region 10 with fail
    have uA:=aV.alloc (.cells #[tk,Ah,iZ,xs,Af,lz,Ag] 89);have bz:=ay.new wr 89 #[tk,Ah,iZ,xs,Af,lz,Ag];have hW:=aB.alloc aB.size (.cells #[tk,Ah,iZ,xs,Af,lz,Ag] 89)
    generalize wr.alloc (.cells #[tk,Ah,iZ,xs,Af,lz,Ag] 89)= gH at *
    clear g0 g1 g2 g3 g4 g5 g6 aV;have cA:=(bz.cell 0).trans (show _= some (.int .i64 tk) from rfl);have cB:=(bz.cell 2).trans (show _= some (.int .i64 iZ) from rfl)
    by_cases bu:(-1) < iZ
    .have de:=Oe (rk:=(-1)) fV.o bu
     have nG:=I de;clear de
     go_wp2_with ((at_builtin;refine ke rfl _ _ 38 rfl w 3 i0 _ 1 8 Tryz.underlying38 bo dP dZ dV rfl WG cE fR qU _ (oQ (-1) rs k) rfl (uA.alloc _) ⟨gH,0,none⟩ 1 tk rfl (aX.one _ _) (by have:=Di (-1) rs k;unfold maxLen;omega) (by have:=Di (-1) rs k;omega) ZP ?_;intro v4 bH fb ed mx))
     exact anE
    .have de:=RP (rk:=(-1)) fV.o bu
     exact aHt
   .exact ali
 .obtain⟨j,cc⟩ :∃j,qs.length= j + 1:=⟨qs.length - 1,by omega⟩
  obtain⟨dc,hx,q,rfl,bD,bt,hO⟩:=bg.at_ (Wt _ _) (k:=j) KK
  obtain⟨t,cJ⟩:=pB aS bt
  obtain⟨qr,cQ,ei⟩:=q
  have cG:=hO 0 _ rfl;have dJ:=hO 1 _ rfl;have dt:=hO 2 _ rfl
  simp only [XW] at cG
  have g0:=cG (aD.self _);have g1:=dJ (aD.self _);have g2:=dt (aD.self _)
  simp only [aD.self] at g0
  simp only [aD.self] at g1
  simp only [aD.self] at g2
  have eS:=I bt;have bX:=I cJ;have fT:=I cc;have PD:Hid (aX 3 aZ.cells w (some ⟨dc,hx,none⟩) qs):=I bg;clear bt cJ hO cG dJ dt bg
  have iy:j<=1048576:=KK
  rw [cc]
  clear cc jW h1
  cases ax:mC t ⟨qr,cQ,ei⟩
  case true=>
   have gF:=I ax;have hp:=I (RQ fT.o eS.o bX.o (Or.inl ax));clear ax
   go_in
   go_wp2_with fail
   refine (zQ h0 ⟨qr,cQ,ei⟩ t bX.o true gF.o (gu.o.ad (bP _ _))).mono ?_
   exact alx
  case false=>
   have gF:=I ax
   by_cases h6:j + 1= 6
   .obtain rfl:j= 5:=KK
    have hp:=I (RQ fT.o eS.o bX.o (Or.inr fT.o));clear ax
    go_in
    go_wp2_with fail
    refine (zQ h0 ⟨qr,cQ,ei⟩ t bX.o false gF.o (gu.o.ad (bP _ _))).mono ?_
    exact alx
   .have hp:=I (agT fT.o eS.o bX.o ax YG)
    have arJ:((j:Int) + 1 == 6)= false:=Xb.2 KK;clear ax
    obtain⟨Fp,kd,gh,hT,kc,kb,Fo,ajO⟩:=t
    go_in
    go_wp2_with fail
    refine (zQ h0 ⟨qr,cQ,ei⟩ ⟨Fp,kd,gh,hT,kc,kb,Fo,ajO⟩ bX.o false gF.o (gu.o.ad (bP _ _))).mono ?_
    rintro e bm ⟨rfl,aB⟩
    replace iM:=iM.aK aB;replace qI:=ai qI aB
    obtain⟨_,_,y,e9,eJ,hy,dC⟩:=PD.o.at_ qI (k:=j) YG
    cases e9
    obtain rfl:(⟨qr,cQ,ei⟩ :aZ)= y:=Wx (eS.o.symm.trans hy)
    clear g0 g1 g2 hy;have cG:=dC 0 _ rfl;have dJ:=dC 1 _ rfl;have dt:=dC 2 _ rfl
    simp only [XW] at cG
    have g0:=cG (aD.self _);have g1:=dJ (aD.self _);have g2:=dt (aD.self _)
    simp only [aD.self] at g0
    simp only [aD.self] at g1
    simp only [aD.self] at g2
    clear dC cG dJ dt
    go_wp2_with fail
    refine (tQ h0 ⟨qr,cQ,ei⟩ ⟨Fp,kd,gh,hT,kc,kb,Fo,ajO⟩ bX.o (gu.o.ad qI)).mono ?_
    rintro e aI ⟨rfl,aQ⟩
    replace iM:=iM.aK aQ;replace qI:=ai qI aQ;clear g0 g1 g2
    have hf:=λW=>(show (Instr.field 89 (.agg #[Fp,kd,gh,hT,kc,kb,Fo]) 2).run Tryz.prog W= .ok (.int .i64 gh) W by kernel_rfl)
    go_wp2
    clear hf
    go_loopw [5,37] (λy i wr=>∃k:Nat,k<=rs.length/\i= .int .i64 k/\bn w 3 1 cE wr y (oQ gh rs k)/\Below w w wr) (λ_ i _=>rs.length - (intOf i).toNat)
    case atStart=>exact⟨0,Xd _,rfl,iM,qI⟩
    case round=>
     clear iM qI
     obtain⟨k,ax,rfl,aV,aB⟩:=hrel
     by_cases bC:k < rs.length
     .obtain⟨eV,iA,x,rfl,eN,av,bO⟩:=gu.o.at_ aB bC
      have hQ:=yd (ye (mS aS).1 av)
      obtain⟨tk,Ah,iZ,xs,Af,lz,Ag,aHi⟩:=x
      have cG:=bO 0 _ rfl;have dJ:=bO 1 _ rfl;have dt:=bO 2 _ rfl;have mR:=bO 3 _ rfl;have lP:=bO 4 _ rfl;have nD:=bO 5 _ rfl;have tN:=bO 6 _ rfl
      simp only [XW] at cG
      have g0:=cG (aD.self _);have g1:=dJ (aD.self _);have g2:=dt (aD.self _);have g3:=mR (aD.self _);have g4:=lP (aD.self _);have g5:=nD (aD.self _);have g6:=tN (aD.self _)
      simp only [aD.self] at g0
      simp only [aD.self] at g1
      simp only [aD.self] at g2
      simp only [aD.self] at g3
      simp only [aD.self] at g4
      simp only [aD.self] at g5
      simp only [aD.self] at g6
      have fV:=I av;clear av bO cG dJ dt mR lP nD tN
      go_upto_region 10 with fail
      have uA:=aV.alloc (.cells #[tk,Ah,iZ,xs,Af,lz,Ag] 89);have bz:=ay.new wr 89 #[tk,Ah,iZ,xs,Af,lz,Ag];have hW:=aB.alloc aB.size (.cells #[tk,Ah,iZ,xs,Af,lz,Ag] 89)
      generalize wr.alloc (.cells #[tk,Ah,iZ,xs,Af,lz,Ag] 89)= gH at *
      clear g0 g1 g2 g3 g4 g5 g6 aV;have cA:=(bz.cell 0).trans (show _= some (.int .i64 tk) from rfl);have cB:=(bz.cell 2).trans (show _= some (.int .i64 iZ) from rfl)
      by_cases bu:gh < iZ
      .have de:=Oe (rk:=gh) fV.o bu
       have nG:=I de;clear de
       go_wp2_with ((at_builtin;refine ke rfl _ _ 38 rfl w 3 i0 _ 1 8 Tryz.underlying38 bo dP dZ dV rfl WG cE fR qU _ (oQ gh rs k) rfl (uA.alloc _) ⟨gH,0,none⟩ 1 tk rfl (aX.one _ _) (by have:=Di gh rs k;unfold maxLen;omega) (by have:=Di gh rs k;omega) ZP ?_;intro v4 bH fb ed mx))
       exact anE
      .have de:=RP (rk:=gh) fV.o bu
       exact aHt
     .exact ali
def sU (m:Int) (s:aW):Bool:=s.mem == m
def fr (xs:List aW) (m:Int):aW:=match xs.find? (sU m) with | some s=>s | none=>⟨m,0,0⟩
def rr (tu se:Int) (s:aW):Bool:=decide (s.dw < tu) && decide (s.dp < se)
theorem ajn (h:xs.find? (sU m)= none):fr xs m=⟨m,0,0⟩:=by simp [fr,h]
theorem ajp (h:xs.find? (sU m)= some s):fr xs m= s:=by simp [fr,h]
theorem Vs {T:Type} {p:T->Bool}:∀{xs:List T} {k:Nat} {x:T},iv (λi=>!la p xs i) k= true->xs[k]? =some x->p x= true->xs.find? p= some x
 | [],k,x,_,h,_=>by simp at h
 | y ::ys,0,x,_,h,aS=>by simp at h;subst h;simp [List.find?_cons,aS]
 | y ::ys,k + 1,x,de,h,aS=>by
  have h0:=oM.1 de 0 KK
  have hy:p y= false:=by simpa [la] using h0
  rw [List.find?_cons,hy]
  refine Vs (k:=k) (oM.2 λi bo=>?_) ZQ aS
  have:=oM.1 de (i + 1) KK
  simpa [la] using this
theorem adv {T:Type} {p:T->Bool} {xs:List T} (h:iv (λi=>!la p xs i) xs.length= true):xs.find? p= none:=by
 rw [List.find?_eq_none]
 intro x av
 obtain⟨i,bo⟩:=YY.1 av
 have:=oM.1 h i (Xg.1 bo).1
 simpa [la,bo] using this
theorem afX (A:QR) (c:Nat) (xs:List aW) (bq:xs) (f:FuncId) (tw:Array Value) (Js:∀args W,(callFunc f args).run Tryz.prog W= .ok (.enter f args) W) (p:aW->Bool) (v:Int) (az:qS p xs= v) (w:World) (bB:aX 3 aW.cells w A xs)
 (hf:∀x,x ∈ xs->∀W,Below w w W->Calls Tryz.prog f (#[.agg #[.int .i64 x.mem,.int .i64 x.dw,.int .i64 x.dp]] ++ tw) W λe ah=>e= .returned (.bool (p x))/\Below W W ah):
 Rd 271 #[A xs c,.func (.func f) #[] tw] w λe ah=>e= .returned v/\Below w w ah:=by
 subst az
 replace hf:=I hf
 go_in
 go_wp2
 go_loopw [8] (λi wr=>∃k:Nat,k<=xs.length/\i= .int .i64 k/\iv (λi=>!la p xs i) k= true/\Below w w wr) (λi _=>xs.length - (intOf i).toNat)
 case atStart=>exact⟨0,Xd _,rfl,rfl,Wt _ _⟩
 case round=>
  obtain⟨k,ax,rfl,aT,aB⟩:=hrel
  replace aT:=I aT
  by_cases bC:k < xs.length
  .obtain⟨b,off,x,rfl,eN,av,bO⟩:=bB.at_ aB bC
   have Lg:=I (hf.o x (YE av))
   obtain⟨sm,st,cR⟩:=x
   have f0:=bO 0 _ rfl;have f1:=bO 1 _ rfl;have f2:=bO 2 _ rfl
   simp only [XW] at f0
   have g0:=f0 (aD.self _);have g1:=f1 (aD.self _);have g2:=f2 (aD.self _)
   simp only [aD.self] at g0
   simp only [aD.self] at g1
   simp only [aD.self] at g2
   replace av:=I av;clear bO
   go_wp2_with fail
   refine (Lg.o _ aB).mono ?_
   rintro e ah ⟨rfl,fM⟩
   cases aS:p ⟨sm,st,cR⟩
   .exact aHu
   .exact aad
  .exact Tm
theorem ajq (m:Int) (g:Nat) (x:aW) (W:World) (cy:W.cell? ⟨g,0,none⟩ =some (.int .i64 m)) (aT:g < W.heap.size):
 Rd 272 (#[.agg #[x.mem,x.dw,x.dp]] ++ #[.pointer (some ⟨g,0,none⟩)]) W λe ah=>e= .returned (.bool (x.mem == m))/\Below W W ah:=by
 cases aB:x.mem == m
 all_goals
  have aQ:=I aB
  go_in
  go_wp2
  go_ret
  exact⟨rfl,bP _ _⟩
theorem Dw (tu se sp:Int) (W:QR) (wl wc:Nat) (S:QR) (dT:Nat) (ae:List aW) (bq:ae) (m:Int) (s:aW) (aP:fr ae m= s) (w:World) (bJ:aX 3 aW.cells w S ae):
 Rd 201 #[.agg #[tu,se,sp,W wl wc,S ae dT],m] w λe ah=>e= .returned (.agg #[s.mem,s.dw,s.dp])/\Below w w ah:=by
 cases wT:ae.find? (sU m) with
 | none=>
  obtain rfl:(⟨m,0,0⟩ :aW)= s:=(ajn wT).symm.trans aP
  have kA:=I (JJ wT);clear wT aP
  go_in
  go_upto_region 1 with fail
  refine gY λaO ar ag aC J=>?_
  replace bJ:=bJ.ad ar;have U:=ar;have aJ:=ag.aL;have Hy:=(aC.cell 0).trans (show _= some (.int .i64 m) from rfl);have af:=J.cb;have dP:=J.lt
  have eS:Hid (∀x,x ∈ ae->∀V,Below aO aO V->Rd 272 (#[.agg #[.int .i64 x.mem,.int .i64 x.dw,.int .i64 x.dp]] ++ #[.pointer (some ⟨w.heap.size + 1,0,none⟩)]) V λe ah=>e= .returned (.bool (sU m x))/\Below V V ah):=I λx _ V iq=>ajq m (w.heap.size + 1) x V ((aC.to iq).cell 0) (aC.to iq).lt
  go_wp2_with fail
  refine (afX S dT ae bq 272 #[.pointer (some ⟨w.heap.size + 1,0,none⟩)] (HS Tryz.func272 PV PV) (sU m) _ kA.o _ (bJ.ad ao) eS.o).mono ?_
  rintro e aI ⟨rfl,aQ⟩
  have aj:=be aO aQ;replace U:=ai U aj;replace bJ:=bJ.ad aj;replace ag:=ag.to aj;replace aJ:=ag.aL;replace aC:=aC.to aj;replace Hy:=(aC.cell 0).trans (show _= some (.int .i64 m) from rfl);replace J:=J.to aj;replace af:=J.cb;have eg:=J.kH;have mY:=ag.lt;have jt:=aC.lt;have eE:=J.lt
  go_wp2
  clear aJ Hy af
  refine ra 0 λcP aE=>?_
  replace U:=aE.aN U;replace ag:=aE.dj ag;replace aC:=aE.dj aC;replace J:=aE.AH J;have aJ:=ag.aL;have Hy:=(aC.cell 0).trans (show _= some (.int .i64 m) from rfl);have af:=J.cb
  refine XY (v:= .agg #[m,(0:Int),(0:Int)]) (by simp [results,Tryz.results201,go_sem,af]) rfl ?_
  exact⟨rfl,U⟩
 | some t=>
  obtain rfl:t= s:=(ajp wT).symm.trans aP
  obtain⟨k,ax,wW⟩:=uM wT
  have bC:k < ae.length:=(Xg.1 wW).1;have kA:=I ax;clear wT aP ax
  go_in
  go_upto_region 1 with fail
  refine gY λaO ar ag aC J=>?_
  replace bJ:=bJ.ad ar;have U:=ar;have aJ:=ag.aL;have Hy:=(aC.cell 0).trans (show _= some (.int .i64 m) from rfl);have af:=J.cb;have dP:=J.lt
  have eS:Hid (∀x,x ∈ ae->∀V,Below aO aO V->Rd 272 (#[.agg #[.int .i64 x.mem,.int .i64 x.dw,.int .i64 x.dp]] ++ #[.pointer (some ⟨w.heap.size + 1,0,none⟩)]) V λe ah=>e= .returned (.bool (sU m x))/\Below V V ah):=I λx _ V iq=>ajq m (w.heap.size + 1) x V ((aC.to iq).cell 0) (aC.to iq).lt
  go_wp2_with fail
  refine (afX S dT ae bq 272 #[.pointer (some ⟨w.heap.size + 1,0,none⟩)] (HS Tryz.func272 PV PV) (sU m) _ kA.o _ (bJ.ad ao) eS.o).mono ?_
  rintro e aI ⟨rfl,aQ⟩
  have aj:=be aO aQ;replace U:=ai U aj;replace bJ:=bJ.ad aj;replace ag:=ag.to aj;replace aJ:=ag.aL;replace aC:=aC.to aj;replace Hy:=(aC.cell 0).trans (show _= some (.int .i64 m) from rfl);replace J:=J.to aj;replace af:=J.cb
  obtain⟨b,off,hr,rfl,eN,av,bO⟩:=bJ.at_ (Wt _ _) bC
  replace aJ:=ag.aL
  obtain rfl:t= hr:=Wx (wW.symm.trans av)
  have cG:=bO 0 _ rfl;have dJ:=bO 1 _ rfl;have dt:=bO 2 _ rfl
  simp only [XW] at cG
  have g0:=cG (aD.self _);have g1:=dJ (aD.self _);have g2:=dt (aD.self _)
  simp only [aD.self] at g0
  simp only [aD.self] at g1
  simp only [aD.self] at g2
  clear av bO wW;have eg:=J.kH;have jt:=aC.lt;have eE:=J.lt;have mY:=ag.lt
  go_wp2
  clear Hy af aJ
  refine ra 0 λcP aE=>?_
  replace U:=aE.aN U;replace aC:=aE.dj aC;replace J:=aE.AH J;replace ag:=aE.dj ag;have Hy:=(aC.cell 0).trans (show _= some (.int .i64 m) from rfl);have af:=J.cb;have aJ:=ag.aL
  refine XY (v:= .agg #[t.mem,t.dw,t.dp]) (by simp [results,Tryz.results201,go_sem,af]) rfl ?_
  exact⟨rfl,U⟩
theorem zP (tu se sp:Int) (W:QR) (wl wc:Nat) (S:QR) (dT:Nat) (ae:List aW) (bq:ae) (m:Int) (s:aW) (aP:fr ae m= s) (w:World) (bJ:aX 3 aW.cells w S ae):
 Rd 267 #[.agg #[tu,se,sp,W wl wc,S ae dT],m] w λe ah=>e= .returned (.agg #[s.mem,s.dw,s.dp])/\Below w w ah:=by
 replace aP:=I aP
 go_in
 go_upto_region 1 with fail
 refine fU λaO ar ag J=>?_
 replace bJ:=bJ.ad ar;have U:=ar;have aJ:=ag.aL;have af:=J.cb;have dP:=J.lt
 go_wp2
 go_loop [5] (λi=>∃k:Nat,k<=ae.length/\i= .int .i64 k/\iv (λi=>!la (sU m) ae i) k= true) (λi=>ae.length - (intOf i).toNat)
 case atStart=>exact⟨0,Xd _,rfl,rfl⟩
 case round=>
  obtain⟨k,ax,rfl,aT⟩:=hrel
  replace aT:=I aT
  by_cases bC:k < ae.length
  .obtain⟨b,off,t,rfl,eN,av,bO⟩:=bJ.at_ (Wt _ _) bC
   replace aJ:=ag.aL;have cG:=bO 0 _ rfl;have dJ:=bO 1 _ rfl;have dt:=bO 2 _ rfl
   simp only [XW] at cG
   have g0:=cG (aD.self _);have g1:=dJ (aD.self _);have g2:=dt (aD.self _)
   simp only [aD.self] at g0
   simp only [aD.self] at g1
   simp only [aD.self] at g2
   replace av:=I av;clear bO
   cases he:t.mem == m
   .go_wp2
    go_round
    case rel=>exact⟨k + 1,by omega,by go_num,qg aT.o (by simp [la,av.o,sU,he])⟩
    case measure=>simp [intOf];omega
   .have fl:=I he
    obtain rfl:t= s:=(ajp (Vs aT.o av.o (p:=sU m) fl.o)).symm.trans aP.o
    have eg:=J.kH;have eE:=J.lt;have mY:=ag.lt
    go_wp2
    clear af aJ
    refine ra 0 λcP aE=>?_
    replace U:=aE.aN U;replace J:=aE.AH J;replace ag:=aE.dj ag;have af:=J.cb;have aJ:=ag.aL
    refine XY (v:= .agg #[t.mem,t.dw,t.dp]) (by simp [results,Tryz.results267,go_sem,af]) rfl ?_
    exact⟨rfl,U⟩
  .obtain rfl:k= ae.length:=KK
   obtain rfl:(⟨m,0,0⟩ :aW)= s:=(ajn (adv aT.o)).symm.trans aP.o
   have eg:=J.kH;have mY:=ag.lt;have eE:=J.lt
   go_wp2
   clear aJ af
   refine ra 0 λcP aE=>?_
   replace U:=aE.aN U;replace ag:=aE.dj ag;replace J:=aE.AH J;have aJ:=ag.aL;have af:=J.cb
   refine XY (v:= .agg #[m,(0:Int),(0:Int)]) (by simp [results,Tryz.results267,go_sem,af]) rfl ?_
   exact⟨rfl,U⟩
theorem amZ (h:v:=by
 rintro e bm ⟨rfl,bD⟩
 have ag:=(ay.new w 41 #[tu,se,sp,W wl wc,S ae dT]).ad bD Wn;have f0:=(ag.cell 0).trans (show _= some (.int .i64 tu) from rfl);have f1:=(ag.cell 1).trans (show _= some (.int .i64 se) from rfl);have adU:=ag.lt
 go_wp2
 go_ret
 exact⟨by simp [rr,h1] <;> omega,ai (ai (bP _ _) bD) (bP _ _)⟩):v:=h
theorem aIv (h:v:=by
 subst az
 obtain⟨s,aP⟩ :∃s,fr ae m= s:=⟨_,rfl⟩
 rw [aP]
 replace aP:=I aP
 obtain⟨sm,st,cR⟩:=s
 by_cases h1:st < tu
 .by_cases h2:cR < se
  all_goals
   go_in
   go_wp2_with fail
   refine (gk.o tu se sp W wl wc S dT ae bq m _ aP.o _ (bJ.ad (bP _ _))).mono ?_
   rintro e bm ⟨rfl,bD⟩
   have ag:=(ay.new w 41 #[tu,se,sp,W wl wc,S ae dT]).ad bD Wn;have f0:=(ag.cell 0).trans (show _= some (.int .i64 tu) from rfl);have f1:=(ag.cell 1).trans (show _= some (.int .i64 se) from rfl);have adU:=ag.lt
   go_wp2
   go_ret
   exact⟨by simp [rr,h1,h2],ai (ai (bP _ _) bD) (bP _ _)⟩
 .go_in
  go_wp2_with fail
  refine (gk.o tu se sp W wl wc S dT ae bq m _ aP.o _ (bJ.ad (bP _ _))).mono ?_
  exact amZ):v:=h
theorem Hm (bq:ae) (v:Bool) (az:rr tu se (fr ae m)= v) {w:World} (bJ:aX 3 aW.cells w S ae):
 Rd 200 #[.agg #[tu,se,sp,W wl wc,S ae dT],m] w λe ah=>e= .returned v/\Below w w ah:=by have gk:=I @Dw;exact aIv
theorem Ht (bq:ae) (v:Bool) (az:rr tu se (fr ae m)= v) {w:World} (bJ:aX 3 aW.cells w S ae):
 Rd 266 #[.agg #[tu,se,sp,W wl wc,S ae dT],m] w λe ah=>e= .returned v/\Below w w ah:=by have gk:=I @zP;exact aIv
def mT (tu se:Int) (s:aW):Bool:=fy s.mem && (fB s.dw 0 tu && fB s.dp 0 se)
def vU (tu se:Int) (xs:List aW):Nat->Bool
 | 0=>match xs[0]? with | some x=>mT tu se x | none=>true
 | j + 1=>match xs[j]?,xs[j + 1]? with | some y,some x=>mT tu se x && decide (y.mem < x.mem) | _,_=>true
def yr (tu se sp:Int) (ws:List Int) (ae:List aW) (i:Nat):Bool:=match ws[i]? with | some m=>fy m && (!(m == sp) && (!hasB (ws.take i) m && rr tu se (fr ae m))) | none=>true
def aIG (tu sp:Int) (ae:List aW):Bool:=(sp == 0) || decide ((fr ae sp).dw < tu)
def xq (tu se:Int) (ae:List aW):Bool:=iv (vU tu se ae) ae.length
def hG (tu se sp:Int) (ws:List Int) (ae:List aW):Bool:=
 fB tu 1 3 && (fB se 1 3600 && (((sp == 0) || fy sp) && (decide (ws.length<=10) && (xq tu se ae && (iv (yr tu se sp ws ae) ws.length && aIG tu sp ae)))))
theorem Fj (av:xs[0]? =some x):vU tu se xs 0= mT tu se x:=by simp only [vU,av]
theorem Bz {y:aW} (hy:xs[j]? =some y) (av:xs[j + 1]? =some x):vU tu se xs (j + 1)= (mT tu se x && decide (y.mem < x.mem)):=by simp only [vU,av,hy]
theorem BE (hm:ws[i]? =some m):yr tu se sp ws ae i= (fy m && (!(m == sp) && (!hasB (ws.take i) m && rr tu se (fr ae m)))):=by simp only [yr,hm]
theorem Fk (ax:k < xs.length) (h:vU tu se xs k= false):xq tu se xs= false:=yM ax h
theorem MD (h:xq tu se ae= false):hG tu se sp ws ae= false:=by rw [hG,h];simp
theorem El (ax:k < ws.length) (h:yr tu se sp ws ae k= false):hG tu se sp ws ae= false:=by rw [hG,yM ax h];simp
theorem RL (hw:ws) (bq:ae) (v:Bool) (az:xq tu se ae= v) {w:World} (cv:aX 1 cE w W ws) (bJ:aX 3 aW.cells w S ae):
 Rd 264 #[.agg #[tu,se,sp,W ws wc,S ae dT]] w λe ah=>e= .returned v/\Below w w ah:=by
 subst az
 go_in
 have zd:=I bJ
 go_upto_region 1 with fail
 refine dh λaO ar ag=>?_
 replace bJ:=bJ.ad ar;have U:=ar
 obtain⟨f0,f1,f2,f3,f4⟩:=ag.aL
 go_wp2
 go_loopw [3] (λi wr=>∃k:Nat,k<=ae.length/\i= .int .i64 k/\iv (vU tu se ae) k= true/\Below w w wr/\ay wr w 41 #[tu,se,sp,W ws wc,S ae dT]) (λi _=>ae.length - (intOf i).toNat)
 case atStart=>exact⟨0,Xd _,rfl,rfl,U,ag⟩
 case round=>
  clear cv U f0 f1 f2 f3 f4 ag
  obtain⟨k,ax,rfl,aT,aB,ag⟩:=hrel
  replace aT:=I aT;replace bJ:=zd.o;have ar:=be w aB;have U:Below w w wr:=ar;replace bJ:=bJ.ad ar
  by_cases bC:k < ae.length
  .obtain⟨b,off,x,rfl,eN,av,bO⟩:=bJ.at_ (Wt _ _) bC
   obtain⟨eY,kp,xs⟩:=x
   have f4:=(ag.cell 4).trans (show _= some (.slice (some ⟨b,off,none⟩) ae dT) from rfl);have cG:=bO 0 _ rfl;have dJ:=bO 1 _ rfl;have dt:=bO 2 _ rfl
   simp only [XW] at cG
   have g0:=cG (aD.self _);have g1:=dJ (aD.self _);have g2:=dt (aD.self _)
   simp only [aD.self] at g0
   simp only [aD.self] at g1
   simp only [aD.self] at g2
   replace av:=I av;clear bO
   go_upto_region 5 with fail
   clear f4
   refine dh λaO aj aR=>?_
   replace bJ:=bJ.ad aj;replace U:=ai U aj;have bE:=aR.cb;replace ag:=ag.to aj
   obtain⟨f0,f1,f2,f3,f4⟩:=ag.aL
   clear cG dJ dt g0 g1 g2
   cases h1:fy eY
   .replace h1:=I h1
    replace bE:=ay.kF (λK:aD aO aO=>(aR.ad K.ad aR.lt));clear f0 f1 f2 f3 f4
    refine eQ PV PV ?_
    repeat go_big_quiet_step (fail)
    go_big_quiet_step ((go_at_call 162;exact aD.same _ (km _ h1.o _)))
    repeat go_big_quiet_step (fail)
    refine VF ?_
    intro K
    go_wp2
    go_ret
    exact⟨fe (Fk bC (by cases k with | zero=>(rw [Fj av.o,mT];simp only [h1.o];simp) | succ j=>(have hy:ae[j]? =some ae[j]:=Xj KK;rw [Bz hy av.o,mT];simp only [h1.o];simp))).symm,ai U K.ad⟩
   replace h1:=I h1
   cases h2:fB kp 0 tu
   .replace h2:=I h2
    replace bE:=ay.kF (λK:aD aO aO=>(aR.ad K.ad aR.lt));clear f0 f1 f2 f3 f4
    obtain⟨f0,f1,f2,f3,f4⟩:=ay.kG (λK:aD aO aO=>(ag.ad K.ad ag.lt))
    refine eQ PV PV ?_
    repeat go_big_quiet_step (fail)
    go_big_quiet_step ((go_at_call 162;exact aD.same _ (km _ h1.o _)))
    repeat go_big_quiet_step (fail)
    go_big_quiet_step ((go_at_call 186;exact aD.same _ (lO _ h2.o _)))
    repeat go_big_quiet_step (fail)
    refine VF ?_
    intro K
    go_wp2
    go_ret
    exact⟨fe (Fk bC (by cases k with | zero=>(rw [Fj av.o,mT];simp only [h1.o,h2.o];simp) | succ j=>(have hy:ae[j]? =some ae[j]:=Xj KK;rw [Bz hy av.o,mT];simp only [h1.o,h2.o];simp))).symm,ai U K.ad⟩
   replace h2:=I h2
   cases h3:fB xs 0 se
   .replace h3:=I h3
    replace bE:=ay.kF (λK:aD aO aO=>(aR.ad K.ad aR.lt));clear f0 f1 f2 f3 f4
    obtain⟨f0,f1,f2,f3,f4⟩:=ay.kG (λK:aD aO aO=>(ag.ad K.ad ag.lt))
    refine eQ PV PV ?_
    repeat go_big_quiet_step (fail)
    go_big_quiet_step ((go_at_call 162;exact aD.same _ (km _ h1.o _)))
    repeat go_big_quiet_step (fail)
    go_big_quiet_step ((go_at_call 186;exact aD.same _ (lO _ h2.o _)))
    repeat go_big_quiet_step (fail)
    go_big_quiet_step ((go_at_call 186;exact aD.same _ (lO _ h3.o _)))
    repeat go_big_quiet_step (fail)
    refine VF ?_
    intro K
    go_wp2
    go_ret
    exact⟨fe (Fk bC (by cases k with | zero=>(rw [Fj av.o,mT];simp only [h1.o,h2.o,h3.o];simp) | succ j=>(have hy:ae[j]? =some ae[j]:=Xj KK;rw [Bz hy av.o,mT];simp only [h1.o,h2.o,h3.o];simp))).symm,ai U K.ad⟩
   replace h3:=I h3;have iJ:Hid (mT tu se ⟨eY,kp,xs⟩ =true):=I (by rw [mT];simp only [h1.o,h2.o,h3.o];rfl)
   cases k with
   | zero=>
    replace bE:=ay.kF (λK:aD aO aO=>(aR.ad K.ad aR.lt));clear f0 f1 f2 f3 f4
    obtain⟨f0,f1,f2,f3,f4⟩:=ay.kG (λK:aD aO aO=>(ag.ad K.ad ag.lt))
    refine eQ PV PV ?_
    repeat go_big_quiet_step (fail)
    go_big_quiet_step ((go_at_call 162;exact aD.same _ (km _ h1.o _)))
    repeat go_big_quiet_step (fail)
    go_big_quiet_step ((go_at_call 186;exact aD.same _ (lO _ h2.o _)))
    repeat go_big_quiet_step (fail)
    go_big_quiet_step ((go_at_call 186;exact aD.same _ (lO _ h3.o _)))
    repeat go_big_quiet_step (fail)
    refine VF ?_
    intro K
    go_wp2
    go_roundw
    case rel=>exact⟨1,by omega,by go_num,qg aT.o (by rw [Fj av.o];exact iJ.o),ai U K.ad,ag.ad K.ad ag.lt⟩
    case measure=>simp [intOf];omega
   | succ j=>
    obtain⟨df,vN,y,gx,_,hy,dC⟩:=bJ.at_ (Wt _ _) (k:=j) KK
    simp only [Yg,Addr.mk.injEq,and_true] at gx
    obtain⟨rfl,rfl⟩:=gx
    obtain⟨ri,sn,ys⟩:=y
    have ho:=dC 0 _ rfl
    simp only [XW] at ho
    replace hy:=I hy;clear dC
    by_cases oO:ri < eY
    .have hle:decide (eY<=ri)= false:=Xe KK
     replace bE:=ay.kF (λK:aD aO aO=>(aR.ad K.ad aR.lt));clear f0 f1 f2 f3 f4
     obtain⟨f0,f1,f2,f3,f4⟩:=ay.kG (λK:aD aO aO=>(ag.ad K.ad ag.lt))
     refine eQ PV PV ?_
     repeat go_big_quiet_step (fail)
     go_big_quiet_step ((go_at_call 162;exact aD.same _ (km _ h1.o _)))
     repeat go_big_quiet_step (fail)
     go_big_quiet_step ((go_at_call 186;exact aD.same _ (lO _ h2.o _)))
     repeat go_big_quiet_step (fail)
     go_big_quiet_step ((go_at_call 186;exact aD.same _ (lO _ h3.o _)))
     repeat go_big_quiet_step (fail)
     refine VF ?_
     intro K
     go_wp2
     go_roundw
     case rel=>exact⟨j + 1 + 1,by omega,by go_num,qg aT.o (by rw [Bz hy.o av.o,iJ.o,Xh (show (aW.mem ⟨ri,sn,ys⟩) < (aW.mem ⟨eY,kp,xs⟩) from oO)];rfl),ai U K.ad,ag.ad K.ad ag.lt⟩
     case measure=>simp [intOf];omega
    .have hle:decide (eY<=ri)= true:=Xh KK
     replace bE:=ay.kF (λK:aD aO aO=>(aR.ad K.ad aR.lt));clear f0 f1 f2 f3 f4
     obtain⟨f0,f1,f2,f3,f4⟩:=ay.kG (λK:aD aO aO=>(ag.ad K.ad ag.lt))
     refine eQ PV PV ?_
     repeat go_big_quiet_step (fail)
     go_big_quiet_step ((go_at_call 162;exact aD.same _ (km _ h1.o _)))
     repeat go_big_quiet_step (fail)
     go_big_quiet_step ((go_at_call 186;exact aD.same _ (lO _ h2.o _)))
     repeat go_big_quiet_step (fail)
     go_big_quiet_step ((go_at_call 186;exact aD.same _ (lO _ h3.o _)))
     repeat go_big_quiet_step (fail)
     refine VF ?_
     intro K
     go_wp2
     go_ret
     exact⟨fe (Fk bC (by rw [Bz hy.o av.o,iJ.o,Xe (show¬(aW.mem ⟨ri,sn,ys⟩) < (aW.mem ⟨eY,kp,xs⟩) from by show¬ri < eY;omega)];rfl)).symm,ai U K.ad⟩
  .obtain⟨f0,f1,f2,f3,f4⟩:=ag.aL
   obtain rfl:k= ae.length:=KK
   go_wp2
   go_ret
   exact⟨fe aT.o.symm,(ai U ao)⟩
structure fp where
 tu:Int
 se:Int
 sp:Int
 ws:List Int
 ae:List aW
def fp.ok (f:fp):Bool:=hG f.tu f.se f.sp f.ws f.ae
structure aap (tu se sp:Int) (ws:List Int) (ae:List aW):Prop where
 t:1<=tu/\tu<=3
 s:1<=se/\se<=3600
 p:sp= 0\/fy sp= true
 l:ws.length<=10
 ok:∀x,x ∈ ae->mT tu se x= true
 ord:ae.Pairwise (λa b=>a.mem < b.mem)
 w:∀m,m ∈ ws->fy m= true/\m≠sp/\rr tu se (fr ae m)= true
 dz:ws.Nodup
 k:sp= 0\/(fr ae sp).dw < tu
theorem aAV:xq tu se ae= true↔(∀x,x ∈ ae->mT tu se x= true)/\ae.Pairwise (λa b=>a.mem < b.mem):=by
 unfold xq
 rw [oM]
 constructor
 .intro h
  have fo:∀(k:Nat) (x:aW),ae[k]? =some x->mT tu se x= true:=by
   intro k x av
   have ax:=(Xg.1 av).1;have aP:=h k ax
   cases k with
   | zero=>simpa only [vU,av] using aP
   | succ j=>
    have hy:ae[j]? =some ae[j]:=Xj KK
    simp only [vU,av,hy,Xa] at aP
    exact aP.1
  have jI:∀(j:Nat) (y x:aW),ae[j]? =some y->ae[j + 1]? =some x->y.mem < x.mem:=by
   intro j y x hy av
   have aP:=h (j + 1) (Xg.1 av).1
   simp only [vU,av,hy,Xa,Xf] at aP
   exact aP.2
  have hm:∀(d j:Nat) (y x:aW),ae[j]? =some y->ae[j + 1 + d]? =some x->y.mem < x.mem:=by
   intro d
   induction d with
   | zero=>exact jI
   | succ d eR=>
    intro j y x hy av
    have aT:=(Xg.1 av).1;have cF:ae[j + 1 + d]? =some ae[j + 1 + d]:=Xj KK;have h1:=eR j y _ hy cF;have h2:=jI (j + 1 + d) _ x cF av
    omega
  refine⟨λx av=>?_,List.pairwise_iff_getElem.2 λi j bo cc EF=>?_⟩
  .obtain⟨k,ax⟩:=YY.1 av
   exact fo k x ax
  .have e:i + 1 + (j - i - 1)= j:=KK
   exact hm (j - i - 1) i _ _ (Xj bo) (by rw [e];exact Xj cc)
 .rintro ⟨h1,h2⟩ k ax
  have av:ae[k]? =some ae[k]:=Xj ax
  cases k with
  | zero=>simp only [vU,av];exact h1 _ (ZK _)
  | succ j=>
   have hy:ae[j]? =some ae[j]:=Xj KK
   simp only [vU,av,hy,Xa,Xf]
   exact⟨h1 _ (ZK _),List.pairwise_iff_getElem.1 h2 j (j + 1) _ _ KK⟩
theorem QG:hG tu se sp ws ae= true↔aap tu se sp ws ae:=by
 unfold hG
 simp only [Xa,Bool.or_eq_true,Xx,Xf,qT,aAV,oM,aIG]
 constructor
 .rintro ⟨h1,h2,h3,h4,⟨h5,h6⟩,h7,h8⟩
  have hw:∀(k:Nat) (m:Int),ws[k]? =some m->fy m= true/\m≠sp/\hasB (ws.take k) m= false/\rr tu se (fr ae m)= true:=by
   intro k m hm
   have:=h7 k (Xg.1 hm).1
   simpa only [yr,hm,Xa,YJ,Xb] using this
  refine⟨h1,h2,h3,h4,h5,h6,λm hm=>?_,List.pairwise_iff_getElem.2 λi j bo cc EF e=>?_,h8⟩
  .obtain⟨k,ax⟩:=YY.1 hm
   have:=hw k m ax
   exact⟨this.1,this.2.1,this.2.2.2⟩
  .have:=(hw j _ (Xj cc)).2.2.1
   unfold hasB at this
   rw [List.any_eq_false] at this
   refine this ws[i] (List.mem_iff_getElem.2 ⟨i,by simp;omega,by simp⟩) ?_
   rw [e];simp
 .rintro ⟨h1,h2,h3,h4,h5,h6,h7,h8,h9⟩
  refine⟨h1,h2,h3,h4,⟨h5,h6⟩,λk ax=>?_,h9⟩
  have av:ws[k]? =some ws[k]:=Xj ax
  simp only [yr,av,Xa,YJ,Xb]
  have:=h7 _ (ZK ax)
  refine⟨this.1,this.2.1,?_,this.2.2⟩
  unfold hasB
  rw [List.any_eq_false]
  intro x av e
  obtain⟨i,bo,e2⟩:=List.mem_iff_getElem.1 av
  simp at bo e2 e
  exact List.pairwise_iff_getElem.1 h8 i k KK ax KK (e2.trans e)
theorem nt {f:fp}:f.ok= true↔aap f.tu f.se f.sp f.ws f.ae:=QG
def qf (f:fp) (m:Int):Bool:=f.ok && (fy m && (!(m == f.sp) && (!hasB f.ws m && (rr f.tu f.se (fr f.ae m) && !decide (f.ws.length= 10)))))
def ug (f:fp) (m:Int):fp:={f with ws:=f.ws ++ [m]}
theorem apg {f:fp} (h:qf f m= true):(ug f m).ok= true:=by
 simp only [qf,Xa,YJ,Xb,decide_eq_false_iff_not] at h
 obtain⟨h0,h1,h2,h3,h4,h5⟩:=h
 have H:=nt.1 h0
 refine nt.2 ⟨H.t,H.s,H.p,?_,H.ok,H.ord,?_,?_,H.k⟩
 .have:=H.l;simp [ug];omega
 .intro x av
  simp only [ug,YC,Xl,YT,or_false] at av
  rcases av with av | rfl
  .exact H.w x av
  .exact⟨h1,h2,h4⟩
 .simp only [ug]
  refine List.nodup_append.2 ⟨H.dz,by simp,?_⟩
  intro a de b aB e
  simp at aB
  subst e;subst aB
  unfold hasB at h3
  rw [List.any_eq_false] at h3
  exact h3 _ de Wn
def mD (f:fp):Nat->Nat
 | 0=>0
 | k + 1=>match f.ws[k]?,f.ws[mD f k]? with | some x,some y=>if (fr f.ae x).dw < (fr f.ae y).dw then k else mD f k | _,_=>mD f k
theorem HC (f:fp):∀k,0 < k->mD f k < k
 | 0,h=>absurd h KK
 | k + 1,_=>by
  have eR:mD f k<=k:=by
   cases k with
   | zero=>simp [mD]
   | succ j=>have:=HC f (j + 1) KK;omega
  unfold mD
  split
  .split <;> omega
  .omega
def xh (f:fp):Option Int:=f.ws[mD f f.ws.length]?
def oB (f:fp):Bool:=f.ok && ((f.sp == 0) && decide (0 < f.ws.length))
def vL (f:fp) (m:Int):fp:={f with sp:=m,ws:=f.ws.filter (λx=>!(x == m))}
theorem Sk {f:fp} (h:0 < f.ws.length):∃m,xh f= some m/\m ∈ f.ws:=by
 have:=HC f f.ws.length h
 exact⟨f.ws[mD f f.ws.length],Xj this,ZK _⟩
theorem axq (h:fy m= true):m≠0:=by
 have:=qT.1 h
 omega
theorem axE {f:fp} (h:oB f= true) (hm:m ∈ f.ws):(vL f m).ok= true:=by
 simp only [oB,Xa,Xx,Xf] at h
 obtain⟨h0,h1,h2⟩:=h
 have H:=nt.1 h0;have abG:=H.w m hm
 refine nt.2 ⟨H.t,H.s,Or.inr abG.1,?_,H.ok,H.ord,?_,?_,Or.inr ?_⟩
 .have:=List.length_filter_le (λx=>!(x == m)) f.ws
  have:=H.l
  simp only [vL]
  omega
 .intro x av
  simp only [vL,List.mem_filter,YJ,Xb] at av
  have:=H.w x av.1
  exact⟨this.1,av.2,this.2.2⟩
 .exact H.dz.sublist List.filter_sublist
 .have:=abG.2.2
  simp only [rr,Xa,Xf] at this
  exact this.1
theorem art {xs:List Int} (h:xs.Nodup) (hm:xs[k]? =some m):xs.filter (λx=>!(x == m))= xs.take k ++ xs.drop (k + 1):=by
 obtain⟨ax,he⟩:=Xg.1 hm
 have e:xs= xs.take k ++ m ::xs.drop (k + 1):=by rw [<- he,<- List.drop_eq_getElem_cons ax,List.take_append_drop]
 clear hm he;have aS:=h
 rw [e] at aS
 have nj:=List.nodup_append.1 aS;have sP:=List.nodup_cons.1 nj.2.1
 conv=>lhs;rw [e]
 rw [List.filter_append,List.filter_cons]
 simp only [BEq.rfl,Zb,ZJ,if_false]
 congr 1
 .rw [List.filter_eq_self]
  intro a de
  simp only [YJ,Xb]
  exact nj.2.2 a de _ List.mem_cons_self
 .rw [List.filter_eq_self]
  intro a de
  simp only [YJ,Xb]
  intro e2;subst e2;exact sP.1 de
def gg:List aW->aW->List aW
 | [],s=>[s]
 | x ::xs,s=>if x.mem < s.mem then x ::gg xs s else if x.mem= s.mem then s ::xs else s ::x ::xs
theorem HT:∀(xs:List aW) (s:aW),(gg xs s).length<=xs.length + 1
 | [],s=>by simp [gg]
 | x ::xs,s=>by
  unfold gg
  split
  .have:=HT xs s;simp;omega
  .split <;> simp
theorem SR:∀{xs:List aW} {s x:aW},x ∈ gg xs s->x= s\/x ∈ xs
 | [],s,x,h=>by simp [gg] at h;exact Or.inl h
 | y ::xs,s,x,h=>by
  unfold gg at h
  split at h
  .rcases Xl.1 h with rfl | h
   .exact Or.inr List.mem_cons_self
   .rcases SR h with e | e
    .exact Or.inl e
    .exact Or.inr (List.mem_cons_of_mem _ e)
  .split at h
   .rcases Xl.1 h with rfl | h
    .exact Or.inl rfl
    .exact Or.inr (List.mem_cons_of_mem _ h)
   .rcases Xl.1 h with rfl | h
    .exact Or.inl rfl
    .exact Or.inr h
theorem aIF:∀{xs:List aW} {s:aW},xs.Pairwise (λa b=>a.mem < b.mem)->(gg xs s).Pairwise (λa b=>a.mem < b.mem)
 | [],s,_=>by simp [gg]
 | y ::xs,s,h=>by
  obtain⟨h1,h2⟩:=YM.1 h
  unfold gg
  split
  .next bC=>
   refine YM.2 ⟨λa de=>?_,aIF h2⟩
   rcases SR de with rfl | de
   .exact bC
   .exact h1 a de
  .split
   .next bC he=>
    refine YM.2 ⟨λa de=>?_,h2⟩
    rw [<- he];exact h1 a de
   .next bC he=>
    refine YM.2 ⟨λa de=>?_,h⟩
    rcases Xl.1 de with rfl | de
    .omega
    .have:=h1 a de;omega
theorem Kw (x:aW) (xs:List aW) (m:Int):fr (x ::xs) m= if x.mem= m then x else fr xs m:=by
 unfold fr
 rw [List.find?_cons]
 by_cases h:x.mem= m
 .simp [sU,h]
 .have:sU m x= false:=by simp [sU,h]
  simp [this,h]
theorem Ku:∀{xs:List aW} {s:aW} (m:Int),xs.Pairwise (λa b=>a.mem < b.mem)->fr (gg xs s) m= if m= s.mem then s else fr xs m
 | [],s,m,_=>by
  simp only [gg,Kw]
  by_cases h:s.mem= m
  .rw [XX h,XX h.symm]
  .rw [XU h,XU (λe=>h e.symm)]
 | y ::xs,s,m,h=>by
  obtain⟨h1,h2⟩:=YM.1 h
  unfold gg
  split
  .next bC=>
   rw [Kw,Kw,Ku m h2]
   by_cases hm:m= s.mem
   .rw [XX hm,XX hm,XU KK]
   .rw [XU hm,XU hm]
  .split
   .next bC he=>
    rw [Kw,Kw]
    by_cases hm:m= s.mem
    .rw [XX hm.symm,XX hm]
    .rw [XU (λe=>hm e.symm),XU hm,XU KK]
   .next bC he=>
    rw [Kw]
    by_cases hm:m= s.mem
    .rw [XX hm.symm,XX hm]
    .rw [XU (λe=>hm e.symm),XU hm]
theorem SU:(fr xs m).mem= m:=by
 unfold fr
 cases h:xs.find? (sU m) with
 | none=>rfl
 | some s=>have:=List.find?_some h;simpa [sU] using this
theorem ajo (h:∀x,x ∈ xs->mT tu se x= true) (cJ:0<=tu) (aP:0<=se) (hm:fy m= true):mT tu se (fr xs m)= true:=by
 unfold fr
 cases hf:xs.find? (sU m) with
 | none=>simp [mT,hm,fB,cJ,aP]
 | some s=>exact h s (List.mem_of_find?_eq_some hf)
def yw (f:fp):aW:=⟨f.sp,(fr f.ae f.sp).dw + 1,(fr f.ae f.sp).dp⟩
def oV (f:fp):fp:={f with sp:=0,ae:=gg f.ae (yw f)}
def oH (f:fp):Bool:=f.ok && !(f.sp == 0)
theorem Kd {f:fp} (h:f.ok= true) (h0:f.sp≠0):fy f.sp= true/\mT f.tu f.se (fr f.ae f.sp)= true/\(fr f.ae f.sp).dw < f.tu:=by
 have H:=nt.1 h;have aS:fy f.sp= true:=H.p.resolve_left h0;have:=H.t;have:=H.s
 exact⟨aS,ajo H.ok KK KK aS,H.k.resolve_left h0⟩
theorem zZ:mT tu se s= true↔fy s.mem= true/\(0<=s.dw/\s.dw<=tu)/\0<=s.dp/\s.dp<=se:=by
 simp [mT,fB]
theorem akm {f:fp} (h:oH f= true):(oV f).ok= true:=by
 simp only [oH,Xa,YJ,Xb] at h
 obtain⟨h0,h1⟩:=h
 obtain⟨aS,aP,cJ⟩:=Kd h0 h1
 have H:=nt.1 h0
 refine nt.2 ⟨H.t,H.s,Or.inl rfl,H.l,?_,aIF H.ord,?_,H.dz,Or.inl rfl⟩
 .intro x av
  rcases SR av with rfl | av
  .have:=zZ.1 aP
   exact zZ.2 ⟨aS,⟨by simp only [yw];omega,by simp only [yw,oV];omega⟩,by simp only [yw];omega,by simp only [yw,oV];omega⟩
  .exact H.ok x av
 .intro m hm
  have:=H.w m hm
  refine⟨this.1,axq this.1,?_⟩
  simp only [oV]
  rw [Ku m H.ord,XU (by simp only [yw];exact this.2.1)]
  exact this.2.2
def yh (f:fp) (n:Int):Int:=if n < f.se - (fr f.ae f.sp).dp then n else f.se - (fr f.ae f.sp).dp
def vV (f:fp) (n:Int):aW:=⟨f.sp,(fr f.ae f.sp).dw,(fr f.ae f.sp).dp + yh f n⟩
def Aa (f:fp) (n:Int):fp:={f with ae:=gg f.ae (vV f n)}
def lp (f:fp) (n:Int):fp:=if (vV f n).dp= f.se then oV (Aa f n) else Aa f n
def qq (f:fp) (n:Int):Bool:=f.ok && (!(f.sp == 0) && fB n 1 3600)
theorem OS {f:fp} (h:qq f n= true):f.ok= true/\f.sp≠0/\1<=n/\n<=3600:=by
 simpa only [qq,Xa,YJ,Xb,qT] using h
theorem aBb {f:fp} (h:qq f n= true):(Aa f n).ok= true:=by
 obtain⟨h0,h1,h2,h3⟩:=OS h
 obtain⟨aS,aP,cJ⟩:=Kd h0 h1
 have H:=nt.1 h0;have ax:=zZ.1 aP
 have hu:0<=yh f n/\(fr f.ae f.sp).dp + yh f n<=f.se:=by unfold yh;split <;> omega
 refine nt.2 ⟨H.t,H.s,H.p,H.l,?_,aIF H.ord,?_,H.dz,?_⟩
 .intro x av
  rcases SR av with rfl | av
  .exact zZ.2 ⟨aS,⟨by simp only [vV];omega,by simp only [vV,Aa];omega⟩,by simp only [vV];omega,by simp only [vV,Aa];omega⟩
  .exact H.ok x av
 .intro m hm
  have:=H.w m hm
  refine⟨this.1,this.2.1,?_⟩
  simp only [Aa]
  rw [Ku m H.ord,XU (by simp only [vV];exact this.2.1)]
  exact this.2.2
 .right
  simp only [Aa]
  rw [Ku f.sp H.ord,XX (show f.sp= (vV f n).mem from rfl)]
  exact cJ
theorem aBa {f:fp} (h:qq f n= true):(lp f n).ok= true:=by
 have:=aBb h
 unfold lp
 split
 .refine akm ?_
  have h1:=(OS h).2.1
  simp only [oH,this,Za,YJ,Xb]
  exact h1
 .exact this
theorem Kt:∀{xs:List aW} {s:aW} {k:Nat},k<=xs.length->(∀i x,i < k->xs[i]? =some x->x.mem < s.mem)->(∀x,xs[k]? =some x->¬x.mem < s.mem)->
  gg xs s= xs.take k ++ s ::(match xs[k]? with | some x=>if x.mem= s.mem then xs.drop (k + 1) else xs.drop k | none=>[])
 | [],s,k,ax,_,_=>by
  have:k= 0:=by simpa using ax
  subst this;rfl
 | x ::xs,s,0,_,_,h2=>by
  have:=h2 x rfl
  unfold gg
  rw [XU this]
  simp only [List.take_zero,List.nil_append,List.getElem?_cons_zero,List.drop_succ_cons,List.drop_zero]
  split <;> rfl
 | x ::xs,s,k + 1,ax,h1,h2=>by
  have av:=h1 0 x KK rfl
  unfold gg
  rw [XX av,Kt (k:=k) (by simpa using ax) (λi y bo hy=>h1 (i + 1) y KK (by simpa using hy)) (λy hy=>h2 y (by simpa using hy))]
  simp
def Ja (a b:Int):Int:=if a < b then -1 else if b < a then 1 else 0
theorem acA (a b:Int):Ja a b < 0↔a < b:=by
 unfold Ja
 by_cases h:a < b
 .simp [h]
 .rw [XU h];split <;> simp [h]
section
variable {t:Int->Int}
def wC (t:Int->Int) (x z:Int):Int:=Ja (t x) (t z)
theorem aja {p:Int->Bool} {S:List Int}:∀n,n<=S.length->(∀i z,te p S n<=i->i < n->S[i]? =some z->p z= true)/\(∀j z,te p S n= j + 1->S[j]? =some z->p z= false)
 | 0,_=>⟨λi z _ h=>absurd h KK,λj z h=>by simp [te] at h⟩
 | n + 1,h=>by
  obtain⟨h1,h2⟩:=aja (p:=p) (S:=S) n KK
  have cF:S[n]? =some S[n]:=Xj KK
  cases aS:p S[n] with
  | true=>
   rw [ajb cF aS]
   refine⟨λi z bo jl av=>?_,h2⟩
   by_cases e:i= n
   .subst e;rw [cF] at av;cases av;exact aS
   .exact h1 i z bo KK av
  | false=>
   rw [aiZ cF aS]
   refine⟨λi z bo jl av=>by omega,λj z cc av=>?_⟩
   obtain rfl:n= j:=KK
   rw [cF] at av;cases av;exact aS
theorem awb {S:List Int} {x:Int} (bJ:S.Pairwise (λa b=>t a<=t b)):∃A B,S= A ++ B/\ES (λz=>decide (wC t x z < 0)) S x= A ++ x ::B/\(∀z ∈ A,t z<=t x)/\(∀z ∈ B,t x < t z):=by
 obtain⟨h1,h2⟩:=aja (p:=λz=>decide (wC t x z < 0)) (S:=S) S.length (XZ _)
 have hle:=aID (λz=>decide (wC t x z < 0)) S S.length
 unfold ES
 generalize te (λz=>decide (wC t x z < 0)) S S.length= j at *
 refine⟨S.take j,S.drop j,(List.take_append_drop _ _).symm,rfl,λz cF=>?_,λz cF=>?_⟩
 .obtain⟨i,bo⟩:=YY.1 cF
  rw [Yb] at bo
  split at bo
  .rename_i EF
   obtain⟨j',rfl⟩ :∃j',j= j' + 1:=⟨j - 1,by omega⟩
   have hy:S[j']? =some S[j']:=Xj KK;have h3:=h2 j' _ rfl hy
   have h3:¬t x < t S[j']:=λh=>of_decide_eq_false h3 ((acA _ _).2 h)
   by_cases e:i= j'
   .subst e;rw [hy] at bo;cases bo;omega
   .obtain⟨Nt,Ri⟩:=Xg.1 bo
    have:=List.pairwise_iff_getElem.1 bJ i j' Nt KK KK
    rw [Ri] at this;omega
  .cases bo
 .obtain⟨i,bo⟩:=YY.1 cF
  rw [List.getElem?_drop] at bo
  have h3:=h1 (j + i) z KK (Xg.1 bo).1 bo
  exact (acA _ _).1 (of_decide_eq_true h3)
theorem OW {xs:List Int}:∀k,k<=xs.length->(ka (wC t) xs k).Pairwise (λa b=>t a<=t b)/\∀v:Int,(ka (wC t) xs k).filter (λz=>t z == v)= (xs.take k).filter (λz=>t z == v)
 | 0,_=>⟨List.Pairwise.nil,λv=>rfl⟩
 | k + 1,h=>by
  obtain⟨h1,h2⟩:=OW (xs:=xs) k KK
  have av:xs[k]? =some xs[k]:=Xj KK
  generalize xs[k]= x at *
  rw [SX av]
  obtain⟨A,B,e1,e2,e3,e4⟩:=awb (x:=x) h1
  rw [e2]
  rw [e1] at h1 h2
  obtain⟨dJ,dt,mR⟩:=List.pairwise_append.1 h1
  refine⟨List.pairwise_append.2 ⟨dJ,YM.2 ⟨λz cF=>by have:=e4 z cF;omega,dt⟩,λa de b aB=>?_⟩,λv=>?_⟩
  .rcases Xl.1 aB with rfl | aB
   .exact e3 a de
   .exact mR a de b aB
  .have h3:=h2 v
   rw [List.take_add_one,av,Option.toList_some]
   simp only [List.filter_append] at h3 ⊢
   rw [<- h3,List.filter_cons]
   by_cases az:t x= v
   .have bz:B.filter (λz=>t z == v)= []:=by
     rw [List.filter_eq_nil_iff]
     intro z cF
     have:=e4 z cF
     simp;omega
    rw [bz]
    simp [az]
   .simp [az]
theorem ajA:∀{gp gK:List Int},gp.Pairwise (λa b=>t a<=t b)->gK.Pairwise (λa b=>t a<=t b)->(∀v:Int,gp.filter (λz=>t z == v)= gK.filter (λz=>t z == v))->gp= gK
 | [],[],_,_,_=>rfl
 | [],b ::gK,_,_,h=>by
  have:=h (t b)
  simp at this
 | a ::gp,[],_,_,h=>by
  have:=h (t a)
  simp at this
 | a ::gp,b ::gK,h1,h2,h=>by
  obtain⟨a1,a2⟩:=YM.1 h1
  obtain⟨dc,dr⟩:=YM.1 h2
  have EB:t a= t b:=by
   by_cases bC:t a < t b
   .have h3:=h (t a)
    have:(b ::gK).filter (λz=>t z == t a)= []:=by
     rw [List.filter_eq_nil_iff]
     intro z cF
     rcases Xl.1 cF with rfl | cF
     .simp;omega
     .have:=dc z cF;simp;omega
    rw [this] at h3
    simp at h3
   .by_cases Nq:t b < t a
    .have h3:=h (t b)
     have:(a ::gp).filter (λz=>t z == t b)= []:=by
      rw [List.filter_eq_nil_iff]
      intro z cF
      rcases Xl.1 cF with rfl | cF
      .simp;omega
      .have:=a1 z cF;simp;omega
     rw [this] at h3
     simp at h3
    .omega
  have h3:=h (t a)
  rw [List.filter_cons,List.filter_cons,EB] at h3
  simp only [BEq.rfl,if_true] at h3
  injection h3 with h4 h5
  subst h4
  congr 1
  refine ajA a2 dr λv=>?_
  have h6:=h v
  rw [List.filter_cons,List.filter_cons] at h6
  split at h6
  .injection h6
  .exact h6
end
def kN (f:fp) (x:Int):Int:=(fr f.ae x).dw
def mU (f:fp):List Int:=ka (wC (kN f)) f.ws f.ws.length
theorem Ky (f:fp):(mU f).length= f.ws.length:=BB _ (XZ _)
theorem aHF (f:fp):∀k,0 < k->k<=f.ws.length->∃m,f.ws[mD f k]? =some m/\(∀i x,i < k->f.ws[i]? =some x->kN f m<=kN f x)/\(∀i x,i < mD f k->f.ws[i]? =some x->kN f m < kN f x)
 | 0,h,_=>absurd h KK
 | 1,_,aT=>by
  have av:f.ws[0]? =some f.ws[0]:=Xj KK
  have e:mD f 1= 0:=by
   have:=HC f 1 KK
   omega
  rw [e]
  refine⟨_,av,λi x bo h=>?_,λi x bo=>absurd bo KK⟩
  obtain rfl:i= 0:=KK
  rw [av] at h;cases h;exact Int.le_refl _
 | k + 2,_,aT=>by
  obtain⟨m,h1,h2,h3⟩:=aHF f (k + 1) KK KK
  have av:f.ws[k + 1]? =some f.ws[k + 1]:=Xj KK
  generalize f.ws[k + 1]= x at *
  have bC:=HC f (k + 1) KK
  rw [mD,av,h1]
  dsimp only
  by_cases aN:(fr f.ae x).dw < (fr f.ae m).dw
  .rw [XX aN]
   have vx:kN f x < kN f m:=aN
   refine⟨x,av,λi y bo hy=>?_,λi y bo hy=>?_⟩
   .by_cases e:i= k + 1
    .subst e;rw [av] at hy;cases hy;exact Int.le_refl _
    .have:=h2 i y KK hy;omega
   .have:=h2 i y bo hy;omega
  .rw [XU aN]
   have vx:¬kN f x < kN f m:=aN
   refine⟨m,h1,λi y bo hy=>?_,h3⟩
   by_cases e:i= k + 1
   .subst e;rw [av] at hy;cases hy;omega
   .exact h2 i y KK hy
theorem adu {P:Int->Bool}:∀{xs:List Int} {j:Nat} {m:Int},xs[j]? =some m->P m= true->(∀i x,i < j->xs[i]? =some x->P x= false)->∃r,xs.filter P= m ::r
 | [],j,m,h,_,_=>by simp at h
 | y ::xs,0,m,h,aS,_=>by
  simp at h;subst h
  exact⟨xs.filter P,by simp [aS]⟩
 | y ::xs,j + 1,m,h,aS,bq=>by
  have hy:=bq 0 y KK rfl
  obtain⟨r,bu⟩:=adu (xs:=xs) (j:=j) (m:=m) ZQ aS (λi x bo av=>bq (i + 1) x KK (by simpa using av))
  exact⟨r,by rw [List.filter_cons,hy];simpa using bu⟩
theorem aBc {f:fp} (h:0 < f.ws.length):(mU f)[0]? =xh f:=by
 obtain⟨m,h1,h2,h3⟩:=aHF f f.ws.length h (XZ _)
 obtain⟨s1,s2⟩:=OW (t:=kN f) (xs:=f.ws) f.ws.length (XZ _)
 have aT:=Ky f
 unfold xh
 rw [h1]
 have e0:ka (wC (kN f)) f.ws f.ws.length= mU f:=rfl
 rw [e0] at s1 s2
 generalize mU f= S at *
 cases S with
 | nil=>simp at aT;omega
 | cons a S=>
  obtain⟨a1,a2⟩:=YM.1 s1
  rw [Yh] at s2
  have ham:a ∈ f.ws:=by
   have h5:=s2 (kN f a)
   rw [List.filter_cons] at h5
   simp only [BEq.rfl,if_true] at h5
   have:a ∈ f.ws.filter (λz=>kN f z == kN f a):=by rw [<- h5];exact List.mem_cons_self
   exact (List.mem_filter.1 this).1
  obtain⟨i,bo⟩:=YY.1 ham
  have eU:=h2 i a (Xg.1 bo).1 bo
  obtain⟨r,bu⟩:=adu (P:=λz=>kN f z == kN f m) h1 Wn (λi x bo av=>by have:=h3 i x bo av;simp;omega)
  have h5:=s2 (kN f m)
  rw [bu] at h5
  have hm:m ∈ a ::S:=by
   have:m ∈ (a ::S).filter (λz=>kN f z == kN f m):=by rw [h5];exact List.mem_cons_self
   exact (List.mem_filter.1 this).1
  have cL:kN f a<=kN f m:=by
   rcases Xl.1 hm with rfl | hm
   .exact Int.le_refl _
   .exact a1 m hm
  rw [List.filter_cons] at h5
  have:(kN f a == kN f m)= true:=Xq
  rw [this] at h5
  simp only [if_true] at h5
  injection h5 with h6 h7
  subst h6;rfl
def DC (f:fp) (k:Nat):fp:={f with ws:=f.ws.take k ++ f.ws.drop (k + 1)}
theorem agW {t:Int->Int} {xs:List Int} {x:Int} (h:x ∈ ka (wC t) xs xs.length):x ∈ xs:=by
 have h2:=(OW (t:=t) (xs:=xs) xs.length (XZ _)).2 (t x)
 rw [Yh] at h2
 have h3:x ∈ (ka (wC t) xs xs.length).filter (λz=>t z == t x):=List.mem_filter.2 ⟨h,by simp⟩
 rw [h2] at h3
 exact (List.mem_filter.1 h3).1
theorem aBd {f:fp} (h:f.ws.length= 0):mU f= []:=YD.1 ((Ky f).trans h)
theorem aBe (f:fp) (h:0 < f.ws.length):∃m,f.ws[mD f f.ws.length]? =some m/\mU f= m ::mU (DC f (mD f f.ws.length)):=by
 obtain⟨m,h1,h2,h3⟩:=aHF f f.ws.length h (XZ _)
 refine⟨m,h1,?_⟩
 generalize mD f f.ws.length= k at *
 obtain⟨s1,s2⟩:=OW (t:=kN f) (xs:=f.ws) f.ws.length (XZ _)
 obtain⟨dM,r2⟩:=OW (t:=kN f) (xs:=(DC f k).ws) (DC f k).ws.length (XZ _)
 have ax:k < f.ws.length:=(Xg.1 h1).1
 have hw:f.ws= f.ws.take k ++ m ::f.ws.drop (k + 1):=by
  have e:=List.take_append_drop k f.ws
  rw [List.drop_eq_getElem_cons ax,(Xg.1 h1).2] at e
  exact e.symm
 have rU:∀x ∈ f.ws,kN f m<=kN f x:=λx av=>by
  obtain⟨i,bo⟩:=YY.1 av
  exact h2 i x (Xg.1 bo).1 bo
 have wN:∀x ∈ f.ws.take k,kN f m < kN f x:=λx av=>by
  obtain⟨i,bo⟩:=YY.1 av
  have bC:i < k:=by have:=(Xg.1 bo).1;rw [YA] at this;omega
  rw [List.getElem?_take_of_lt bC] at bo
  exact h3 i x bC bo
 rw [Yh] at s2 r2
 refine ajA (t:=kN f) s1 (YM.2 ⟨λx av=>?_,dM⟩) λv=>?_
 .have hm:=agW (t:=kN f) av
  refine rU x ?_
  rw [hw]
  simp only [DC,YC,Xl] at hm ⊢
  rcases hm with hm | hm
  .exact .inl hm
  .exact .inr (.inr hm)
 .have e1:=s2 v
  have e2:=r2 v;have e3:mU (DC f k)= ka (wC (kN f)) (DC f k).ws (DC f k).ws.length:=rfl;have e0:mU f= ka (wC (kN f)) f.ws f.ws.length:=rfl
  rw [e0,e1,List.filter_cons,e3,e2]
  conv=>lhs;rw [hw]
  simp only [DC,List.filter_append,List.filter_cons]
  by_cases az:(kN f m == v)= true
  .have e4:(f.ws.take k).filter (λz=>kN f z == v)= []:=by
    rw [List.filter_eq_nil_iff]
    intro x av
    have:=wN x av;have:=Xx.1 az
    simp;omega
   rw [e4,XX az,XX az];rfl
  .rw [XU az,XU az]
theorem Mo (b off c k:Nat) (xs:List Int) (n:Int) (ax:k<=xs.length) (bq:xs) (v:Bool) (az:hasB (xs.take k) n= v) (w:World) (bB:aX 1 cE w (some ⟨b,off,none⟩) xs):
 Rd 199 #[.slice (some ⟨b,off,none⟩) k c,n] w λe ah=>e= .returned v/\Below w w ah:=by
 have qL:(xs.take k).length= k:=by rw [YA];omega
 have h:=Gm (some ⟨b,off,none⟩) c (xs.take k) n KK v az w (aGe bB k)
 rw [qL] at h;exact h
theorem JQ {b off c:Nat} (k:Nat) {xs:List Int} (ax:k<=xs.length) (bq:xs) (v:Bool) (az:hasB (xs.take k) n= v) {w:World} (bB:aX 1 cE w (some ⟨b,off,none⟩) xs):
 Rd 265 #[.slice (some ⟨b,off,none⟩) k c,n] w λe ah=>e= .returned v/\Below w w ah:=by
 have qL:(xs.take k).length= k:=by rw [YA];omega
 have h:=EW (some ⟨b,off,none⟩) c (xs.take k) n KK v az w (aGe bB k)
 rw [qL] at h;exact h
theorem arv (h:fB tu 1 3= false):hG tu se sp ws ae= false:=by rw [hG,h];simp
theorem arw (h:fB se 1 3600= false):hG tu se sp ws ae= false:=by rw [hG,h];simp
theorem adA (h0:sp≠0) (h:fy sp= false):hG tu se sp ws ae= false:=by rw [hG,h,Xb.2 h0];simp
theorem adB (h:¬ws.length<=10):hG tu se sp ws ae= false:=by rw [hG,Xe h];simp
theorem adC (h1:fB tu 1 3= true) (h2:fB se 1 3600= true) (h4:ws.length<=10) (h5:xq tu se ae= true) (h6:iv (yr tu se 0 ws ae) ws.length= true):hG tu se 0 ws ae= true:=by
 rw [hG,h1,h2,Xh h4,h5,h6];rfl
theorem QF (h1:fB tu 1 3= true) (h2:fB se 1 3600= true) (h0:sp≠0) (h3:fy sp= true) (h4:ws.length<=10) (h5:xq tu se ae= true) (h6:iv (yr tu se sp ws ae) ws.length= true):hG tu se sp ws ae= decide ((fr ae sp).dw < tu):=by
 rw [hG,h1,h2,h3,Xh h4,h5,h6,aIG,Xb.2 h0];simp
theorem ako (h:v:=by
 obtain⟨b,off,x,rfl,eN,av,bO⟩:=bJ.at_ (Wt _ _) bC
 obtain⟨eY,kp,xs⟩:=x
 have f4:=(ag.cell 4).trans (show _= some (.slice (some ⟨b,off,none⟩) ae dT) from rfl);have cG:=bO 0 _ rfl;have dJ:=bO 1 _ rfl;have dt:=bO 2 _ rfl
 simp only [XW] at cG
 have g0:=cG (aD.self _);have g1:=dJ (aD.self _);have g2:=dt (aD.self _)
 simp only [aD.self] at g0
 simp only [aD.self] at g1
 simp only [aD.self] at g2
 have fV:=I av;clear av bO
 go_upto_region 6 with fail
 clear f4
 refine dh λaO aj aR=>?_
 replace bJ:=bJ.ad aj;replace cv:=cv.ad aj;replace U:=ai U aj;have bE:=aR.cb;replace ag:=ag.to aj
 obtain⟨f0,f1,f2,f3,f4⟩:=ag.aL
 clear cG dJ dt g0 g1 g2
 cases h1:fy eY
 .have H1:=I h1;clear h1
  replace bE:=ay.kF (λK:aD aO aO=>(aR.ad K.ad aR.lt));clear f0 f1 f2 f3 f4
  obtain⟨f0,f1,f2,f3,f4⟩:=ay.kG (λK:aD aO aO=>(ag.ad K.ad ag.lt))
  refine eQ PV PV ?_
  repeat go_big_quiet_step (fail)
  go_big_quiet_step ((go_at_call 123;exact aD.same _ (kx _ H1.o _)))
  repeat go_big_quiet_step (fail)
  refine VF ?_
  intro K
  go_wp2
  go_ret
  exact⟨fe (MD (Fk bC (by cases k with | zero=>(rw [Fj fV.o,mT];simp only [H1.o];simp) | succ j=>(have hy:ae[j]? =some ae[j]:=Xj KK;rw [Bz hy fV.o,mT];simp only [H1.o];simp)))).symm,ai U K.ad⟩
 have H1:=I h1;clear h1
 cases h2:fB kp 0 tu
 .have ja:=I h2;clear h2
  replace bE:=ay.kF (λK:aD aO aO=>(aR.ad K.ad aR.lt));clear f0 f1 f2 f3 f4
  obtain⟨f0,f1,f2,f3,f4⟩:=ay.kG (λK:aD aO aO=>(ag.ad K.ad ag.lt))
  refine eQ PV PV ?_
  repeat go_big_quiet_step (fail)
  go_big_quiet_step ((go_at_call 123;exact aD.same _ (kx _ H1.o _)))
  repeat go_big_quiet_step (fail)
  go_big_quiet_step ((go_at_call 79;exact aD.same _ (ku _ ja.o _)))
  repeat go_big_quiet_step (fail)
  refine VF ?_
  intro K
  go_wp2
  go_ret
  exact⟨fe (MD (Fk bC (by cases k with | zero=>(rw [Fj fV.o,mT];simp only [H1.o,ja.o];simp) | succ j=>(have hy:ae[j]? =some ae[j]:=Xj KK;rw [Bz hy fV.o,mT];simp only [H1.o,ja.o];simp)))).symm,ai U K.ad⟩
 have ja:=I h2;clear h2
 cases h3:fB xs 0 se
 .have lB:=I h3;clear h3
  replace bE:=ay.kF (λK:aD aO aO=>(aR.ad K.ad aR.lt));clear f0 f1 f2 f3 f4
  obtain⟨f0,f1,f2,f3,f4⟩:=ay.kG (λK:aD aO aO=>(ag.ad K.ad ag.lt))
  refine eQ PV PV ?_
  repeat go_big_quiet_step (fail)
  go_big_quiet_step ((go_at_call 123;exact aD.same _ (kx _ H1.o _)))
  repeat go_big_quiet_step (fail)
  go_big_quiet_step ((go_at_call 79;exact aD.same _ (ku _ ja.o _)))
  repeat go_big_quiet_step (fail)
  go_big_quiet_step ((go_at_call 79;exact aD.same _ (ku _ lB.o _)))
  repeat go_big_quiet_step (fail)
  refine VF ?_
  intro K
  go_wp2
  go_ret
  exact⟨fe (MD (Fk bC (by cases k with | zero=>(rw [Fj fV.o,mT];simp only [H1.o,ja.o,lB.o];simp) | succ j=>(have hy:ae[j]? =some ae[j]:=Xj KK;rw [Bz hy fV.o,mT];simp only [H1.o,ja.o,lB.o];simp)))).symm,ai U K.ad⟩
 have lB:=I h3;clear h3;have iJ:Hid (mT tu se ⟨eY,kp,xs⟩ =true):=I (by rw [mT];simp only [H1.o,ja.o,lB.o];rfl)
 cases k with
 | zero=>
  replace bE:=ay.kF (λK:aD aO aO=>(aR.ad K.ad aR.lt));clear f0 f1 f2 f3 f4
  obtain⟨f0,f1,f2,f3,f4⟩:=ay.kG (λK:aD aO aO=>(ag.ad K.ad ag.lt))
  refine eQ PV PV ?_
  repeat go_big_quiet_step (fail)
  go_big_quiet_step ((go_at_call 123;exact aD.same _ (kx _ H1.o _)))
  repeat go_big_quiet_step (fail)
  go_big_quiet_step ((go_at_call 79;exact aD.same _ (ku _ ja.o _)))
  repeat go_big_quiet_step (fail)
  go_big_quiet_step ((go_at_call 79;exact aD.same _ (ku _ lB.o _)))
  repeat go_big_quiet_step (fail)
  refine VF ?_
  intro K
  go_wp2
  go_roundw
  case rel=>exact⟨1,by omega,by go_num,qg hp.o (by rw [Fj fV.o];exact iJ.o),ai U K.ad,ag.ad K.ad ag.lt⟩
  case measure=>simp [intOf];omega
 | succ j=>
  obtain⟨df,vN,y,gx,_,hy,dC⟩:=bJ.at_ (Wt _ _) (k:=j) KK
  simp only [Yg,Addr.mk.injEq,and_true] at gx
  obtain⟨rfl,rfl⟩:=gx
  obtain⟨ri,sn,ys⟩:=y
  have ho:=dC 0 _ rfl
  simp only [XW] at ho
  replace hy:=I hy;clear dC
  by_cases oO:ri < eY
  .have hle:decide (eY<=ri)= false:=Xe KK
   replace bE:=ay.kF (λK:aD aO aO=>(aR.ad K.ad aR.lt));clear f0 f1 f2 f3 f4
   obtain⟨f0,f1,f2,f3,f4⟩:=ay.kG (λK:aD aO aO=>(ag.ad K.ad ag.lt))
   refine eQ PV PV ?_
   repeat go_big_quiet_step (fail)
   go_big_quiet_step ((go_at_call 123;exact aD.same _ (kx _ H1.o _)))
   repeat go_big_quiet_step (fail)
   go_big_quiet_step ((go_at_call 79;exact aD.same _ (ku _ ja.o _)))
   repeat go_big_quiet_step (fail)
   go_big_quiet_step ((go_at_call 79;exact aD.same _ (ku _ lB.o _)))
   repeat go_big_quiet_step (fail)
   refine VF ?_
   intro K
   go_wp2
   go_roundw
   case rel=>exact⟨j + 1 + 1,by omega,by go_num,qg hp.o (by rw [Bz hy.o fV.o,iJ.o,Xh (show (aW.mem ⟨ri,sn,ys⟩) < (aW.mem ⟨eY,kp,xs⟩) from oO)];rfl),ai U K.ad,ag.ad K.ad ag.lt⟩
   case measure=>simp [intOf];omega
  .have hle:decide (eY<=ri)= true:=Xh KK
   replace bE:=ay.kF (λK:aD aO aO=>(aR.ad K.ad aR.lt));clear f0 f1 f2 f3 f4
   obtain⟨f0,f1,f2,f3,f4⟩:=ay.kG (λK:aD aO aO=>(ag.ad K.ad ag.lt))
   refine eQ PV PV ?_
   repeat go_big_quiet_step (fail)
   go_big_quiet_step ((go_at_call 123;exact aD.same _ (kx _ H1.o _)))
   repeat go_big_quiet_step (fail)
   go_big_quiet_step ((go_at_call 79;exact aD.same _ (ku _ ja.o _)))
   repeat go_big_quiet_step (fail)
   go_big_quiet_step ((go_at_call 79;exact aD.same _ (ku _ lB.o _)))
   repeat go_big_quiet_step (fail)
   refine VF ?_
   intro K
   go_wp2
   go_ret
   exact⟨fe (MD (Fk bC (by rw [Bz hy.o fV.o,iJ.o,Xe (show¬(aW.mem ⟨ri,sn,ys⟩) < (aW.mem ⟨eY,kp,xs⟩) from by show¬ri < eY;omega)];rfl))).symm,ai U K.ad⟩):v:=h
theorem anI (h:v:=by
 have jB:=I h1;clear h1
 go_wp2_with fail
 refine (kx _ jB.o _).mono ?_
 rintro e w0 ⟨rfl,h0⟩
 rw [h0]
 clear h0 w0
 go_wp2
 go_ret
 exact⟨fe (El bC (by rw [BE fV.o];simp only [jB.o];simp)).symm,(ai U ao)⟩):v:=h
theorem anK (h:v:=by
 have oW:=I h2
 go_wp2_with fail
 refine (kx _ jB.o _).mono ?_
 rintro e w0 ⟨rfl,h0⟩
 rw [h0]
 clear h0 w0
 go_wp2
 go_ret
 exact⟨fe (El bC (by rw [BE fV.o];simp only [jB.o,oW.o];simp)).symm,(ai U ao)⟩):v:=h
theorem amA (h:v:=by
 have oX:=I h3;clear h3
 go_wp2_with fail
 refine (kx _ jB.o _).mono ?_
 rintro e w0 ⟨rfl,h0⟩
 rw [h0]
 clear h0 w0
 go_wp2_with fail
 refine (Mo b off _ k ws m KK hw _ oX.o _ (cv.ad ao)).mono ?_
 rintro e aI ⟨rfl,aQ⟩
 have aj:=be wr aQ;replace U:=ai U aj;replace bJ:=bJ.ad aj;replace cv:=cv.ad aj;replace ag:=ag.to aj
 replace f0:=ag.aL
 go_wp2
 go_ret
 exact⟨fe (El bC (by rw [BE fV.o];simp only [jB.o,oW.o,oX.o];simp)).symm,(ai U ao)⟩):v:=h
theorem anj (h:v:=by
 rintro e bw ⟨rfl,bG⟩
 have aY:=be aI bG;replace U:=ai U aY;replace bJ:=bJ.ad aY;replace cv:=cv.ad aY;replace ag:=ag.to aY
 replace f0:=ag.aL
 go_wp2
 go_ret
 exact⟨fe (El bC (by rw [BE fV.o];simp only [jB.o,oW.o,oX.o,rj.o];simp)).symm,(ai U ao)⟩):v:=h
theorem amV (h:v:=by
 rintro e bw ⟨rfl,bG⟩
 have aY:=be aI bG;replace U:=ai U aY;replace bJ:=bJ.ad aY;replace cv:=cv.ad aY;replace ag:=ag.to aY
 replace f0:=ag.aL
 go_wp2
 go_roundw
 case rel=>exact⟨k + 1,by omega,by go_num,qg hp.o (by rw [BE fV.o];simp only [jB.o,oW.o,oX.o,rj.o];rfl),U,ag⟩
 case measure=>simp [intOf];omega):v:=h
theorem ava (tu se:Int) (W:QR) (ws:List Int) (wc:Nat) (S:QR) (dT:Nat) (ae:List aW) (hw:ws) (bq:ae) (aN:ws.length<=wc) (h1:fB tu 1 3= true) (h2:fB se 1 3600= true) (h4:ws.length<=10) (w:World) (cv:aX 1 cE w W ws) (bJ:aX 3 aW.cells w S ae):
 Rd 119 #[.agg #[tu,se,(0:Int),W ws wc,S ae dT]] w λe ah=>e= .returned (.bool (hG tu se 0 ws ae))/\Below w w ah:=by
 have H1:=I h1;have ja:=I h2;clear h1 h2
 skip
 go_in
 have zd:=I bJ;have CC:=I cv
 go_upto_region 1 with fail
 refine dh λaO ar ag=>?_
 replace bJ:=bJ.ad ar;replace cv:=cv.ad ar;have U:=ar
 obtain⟨f0,f1,f2,f3,f4⟩:=ag.aL
 go_wp2_with fail
 refine (ku _ H1.o _).mono ?_
 rintro e w0 ⟨rfl,h0⟩
 rw [h0]
 clear h0 w0
 go_wp2_with fail
 refine (ku _ ja.o _).mono ?_
 rintro e w0 ⟨rfl,h0⟩
 rw [h0]
 clear h0 w0
 skip
 go_wp2
 go_loopw [37] (λi wr=>∃k:Nat,k<=ae.length/\i= .int .i64 k/\iv (vU tu se ae) k= true/\Below w w wr/\ay wr w 41 #[tu,se,(0:Int),W ws wc,S ae dT]) (λi _=>ae.length - (intOf i).toNat)
 case atStart=>exact⟨0,Xd _,rfl,rfl,U,ag⟩
 case round=>
  clear U f0 f1 f2 f3 f4 ag
  obtain⟨k,ax,rfl,aT,aB,ag⟩:=hrel
  have hp:=I aT;clear aT;replace bJ:=zd.o;replace cv:=CC.o;have ar:=be w aB;have U:Below w w wr:=ar;replace bJ:=bJ.ad ar;replace cv:=cv.ad ar
  by_cases bC:k < ae.length
  .exact ako
  .obtain⟨f0,f1,f2,f3,f4⟩:=ag.aL
   obtain rfl:k= ae.length:=KK
   have rN:Hid (xq tu se ae= true):=I hp.o;clear hp
   go_upto_region 9 with fail
   go_wp2
   clear f0 f1 f2 f3 f4
   go_loopw [82] (λi wr=>∃k:Nat,k<=ws.length/\i= .int .i64 k/\iv (yr tu se 0 ws ae) k= true/\Below w w wr/\ay wr w 41 #[tu,se,(0:Int),W ws wc,S ae dT]) (λi _=>ws.length - (intOf i).toNat)
   case atStart=>exact⟨0,Xd _,rfl,rfl,U,ag⟩
   case round=>
    clear U ag
    obtain⟨k,ax,rfl,aT,aB,ag⟩:=hrel
    have hp:=I aT;clear aT;replace bJ:=zd.o;replace cv:=CC.o;have ar:=be w aB;have U:Below w w wr:=ar;replace bJ:=bJ.ad ar;replace cv:=cv.ad ar
    by_cases bC:k < ws.length
    .obtain⟨b,off,m,rfl,eN,av,bO⟩:=cv.at_ (Wt _ _) bC
     have cG:=bO 0 _ rfl
     simp only [Xw,XW] at cG
     have g0:=cG (aD.self _)
     simp only [aD.self] at g0
     have fV:=I av;clear av bO cG
     obtain⟨f0,f1,f2,f3,f4⟩:=ag.aL
     have EG:(k:Int)<=(wc:Int):=KK
     go_upto_region 12 with fail
     clear g0
     cases h1:fy m
     .exact anI
     have jB:=I h1;clear h1
     by_cases h2:(m == 0)= true
     .exact anK
     replace h2:=Ya.2 h2;have oW:=I h2
     by_cases h3:hasB (ws.take k) m= true
     .exact amA
     replace h3:=Ya.2 h3;have oX:=I h3;clear h3
     cases h4:rr tu se (fr ae m)
     .have rj:=I h4;clear h4
      go_wp2_with fail
      refine (kx _ jB.o _).mono ?_
      rintro e w0 ⟨rfl,h0⟩
      rw [h0]
      clear h0 w0
      go_wp2_with fail
      refine (Mo b off _ k ws m KK hw _ oX.o _ (cv.ad ao)).mono ?_
      rintro e aI ⟨rfl,aQ⟩
      have aj:=be wr aQ;replace U:=ai U aj;replace bJ:=bJ.ad aj;replace cv:=cv.ad aj;replace ag:=ag.to aj;clear f0 f1 f2 f3 f4
      obtain⟨f0,f1,f2,f3,f4⟩:=ag.aL
      go_wp2_with fail
      refine (Hm bq _ rj.o (bJ.ad ao)).mono ?_
      exact anj
     .have rj:=I h4;clear h4
      go_wp2_with fail
      refine (kx _ jB.o _).mono ?_
      rintro e w0 ⟨rfl,h0⟩
      rw [h0]
      clear h0 w0
      go_wp2_with fail
      refine (Mo b off _ k ws m KK hw _ oX.o _ (cv.ad ao)).mono ?_
      rintro e aI ⟨rfl,aQ⟩
      have aj:=be wr aQ;replace U:=ai U aj;replace bJ:=bJ.ad aj;replace cv:=cv.ad aj;replace ag:=ag.to aj;clear f0 f1 f2 f3 f4
      obtain⟨f0,f1,f2,f3,f4⟩:=ag.aL
      go_wp2_with fail
      refine (Hm bq _ rj.o (bJ.ad ao)).mono ?_
      exact amV
    .obtain rfl:k= ws.length:=KK
     obtain⟨f0,f1,f2,f3,f4⟩:=ag.aL
     go_upto_region 15 with fail
     clear f0 f1 f2 f3 f4
     obtain⟨f0,f1,f2,f3,f4⟩:=ay.kG (λK:aD wr wr=>(ag.ad K.ad ag.lt))
     refine eQ PV PV ?_
     repeat go_big_quiet_step (fail)
     refine VF ?_
     intro K
     go_wp2
     go_ret
     exact⟨fe (adC H1.o ja.o h4 rN.o hp.o).symm,ai U K.ad⟩
theorem auZ (tu se sp:Int) (W:QR) (ws:List Int) (wc:Nat) (S:QR) (dT:Nat) (ae:List aW) (hw:ws) (bq:ae) (aN:ws.length<=wc) (h1:fB tu 1 3= true) (h2:fB se 1 3600= true) (h0:sp≠0) (h3:fy sp= true) (h4:ws.length<=10) (w:World) (cv:aX 1 cE w W ws) (bJ:aX 3 aW.cells w S ae):
 Rd 119 #[.agg #[tu,se,sp,W ws wc,S ae dT]] w λe ah=>e= .returned (.bool (hG tu se sp ws ae))/\Below w w ah:=by
 have H1:=I h1;have ja:=I h2;clear h1 h2;have lB:=I h3;clear h3
 go_in
 have zd:=I bJ;have CC:=I cv
 go_upto_region 1 with fail
 refine dh λaO ar ag=>?_
 replace bJ:=bJ.ad ar;replace cv:=cv.ad ar;have U:=ar
 obtain⟨f0,f1,f2,f3,f4⟩:=ag.aL
 go_wp2_with fail
 refine (ku _ H1.o _).mono ?_
 rintro e w0 ⟨rfl,h0⟩
 rw [h0]
 clear h0 w0
 go_wp2_with fail
 refine (ku _ ja.o _).mono ?_
 rintro e w0 ⟨rfl,h0⟩
 rw [h0]
 clear h0 w0
 go_wp2_with fail
 refine (kx _ lB.o _).mono ?_
 rintro e w0 ⟨rfl,h0⟩
 rw [h0]
 clear h0 w0
 go_wp2
 go_loopw [37] (λi wr=>∃k:Nat,k<=ae.length/\i= .int .i64 k/\iv (vU tu se ae) k= true/\Below w w wr/\ay wr w 41 #[tu,se,sp,W ws wc,S ae dT]) (λi _=>ae.length - (intOf i).toNat)
 case atStart=>exact⟨0,Xd _,rfl,rfl,U,ag⟩
 case round=>
  clear U f0 f1 f2 f3 f4 ag
  obtain⟨k,ax,rfl,aT,aB,ag⟩:=hrel
  have hp:=I aT;clear aT;replace bJ:=zd.o;replace cv:=CC.o;have ar:=be w aB;have U:Below w w wr:=ar;replace bJ:=bJ.ad ar;replace cv:=cv.ad ar
  by_cases bC:k < ae.length
  .exact ako
  .obtain⟨f0,f1,f2,f3,f4⟩:=ag.aL
   obtain rfl:k= ae.length:=KK
   have rN:Hid (xq tu se ae= true):=I hp.o;clear hp
   go_upto_region 9 with fail
   go_wp2
   clear f0 f1 f2 f3 f4
   go_loopw [82] (λi wr=>∃k:Nat,k<=ws.length/\i= .int .i64 k/\iv (yr tu se sp ws ae) k= true/\Below w w wr/\ay wr w 41 #[tu,se,sp,W ws wc,S ae dT]) (λi _=>ws.length - (intOf i).toNat)
   case atStart=>exact⟨0,Xd _,rfl,rfl,U,ag⟩
   case round=>
    clear U ag
    obtain⟨k,ax,rfl,aT,aB,ag⟩:=hrel
    have hp:=I aT;clear aT;replace bJ:=zd.o;replace cv:=CC.o;have ar:=be w aB;have U:Below w w wr:=ar;replace bJ:=bJ.ad ar;replace cv:=cv.ad ar
    by_cases bC:k < ws.length
    .obtain⟨b,off,m,rfl,eN,av,bO⟩:=cv.at_ (Wt _ _) bC
     have cG:=bO 0 _ rfl
     simp only [Xw,XW] at cG
     have g0:=cG (aD.self _)
     simp only [aD.self] at g0
     have fV:=I av;clear av bO cG
     obtain⟨f0,f1,f2,f3,f4⟩:=ag.aL
     have EG:(k:Int)<=(wc:Int):=KK
     go_upto_region 12 with fail
     clear g0
     cases h1:fy m
     .exact anI
     have jB:=I h1;clear h1
     by_cases h2:(m == sp)= true
     .exact anK
     replace h2:=Ya.2 h2;have oW:=I h2
     by_cases h3:hasB (ws.take k) m= true
     .exact amA
     replace h3:=Ya.2 h3;have oX:=I h3;clear h3
     cases h4:rr tu se (fr ae m)
     .have rj:=I h4;clear h4
      go_wp2_with fail
      refine (kx _ jB.o _).mono ?_
      rintro e w0 ⟨rfl,h0⟩
      rw [h0]
      clear h0 w0
      go_wp2_with fail
      refine (Mo b off _ k ws m KK hw _ oX.o _ (cv.ad ao)).mono ?_
      rintro e aI ⟨rfl,aQ⟩
      have aj:=be wr aQ;replace U:=ai U aj;replace bJ:=bJ.ad aj;replace cv:=cv.ad aj;replace ag:=ag.to aj;clear f0 f1 f2 f3 f4
      obtain⟨f0,f1,f2,f3,f4⟩:=ag.aL
      go_wp2_with fail
      refine (Hm bq _ rj.o (bJ.ad ao)).mono ?_
      exact anj
     .have rj:=I h4;clear h4
      go_wp2_with fail
      refine (kx _ jB.o _).mono ?_
      rintro e w0 ⟨rfl,h0⟩
      rw [h0]
      clear h0 w0
      go_wp2_with fail
      refine (Mo b off _ k ws m KK hw _ oX.o _ (cv.ad ao)).mono ?_
      rintro e aI ⟨rfl,aQ⟩
      have aj:=be wr aQ;replace U:=ai U aj;replace bJ:=bJ.ad aj;replace cv:=cv.ad aj;replace ag:=ag.to aj;clear f0 f1 f2 f3 f4
      obtain⟨f0,f1,f2,f3,f4⟩:=ag.aL
      go_wp2_with fail
      refine (Hm bq _ rj.o (bJ.ad ao)).mono ?_
      exact amV
    .obtain rfl:k= ws.length:=KK
     obtain⟨f0,f1,f2,f3,f4⟩:=ag.aL
     go_upto_region 15 with fail
     have dP:(sp == 0)= false:=Xb.2 h0;have Mb:=I bJ
     obtain⟨s,aP⟩ :∃s,fr ae sp= s:=⟨_,rfl⟩
     replace aP:=I aP
     obtain⟨sm,st,cR⟩:=s
     have wT:∀W:World,(Instr.field 214 (.agg #[sm,st,cR]) 1).run Tryz.prog W= .ok (.int .i64 st) W:=λ_=>by kernel_rfl
     by_cases jI:st < tu
     .have WA:decide (st < tu)= true:=Xh jI
      clear f0 f1 f2 f3 f4
      obtain⟨f0,f1,f2,f3,f4⟩:=ay.kG (λK:aD wr wr=>(ag.ad K.ad ag.lt))
      refine eQ PV PV ?_
      repeat go_big_quiet_step (fail)
      go_big_quiet_step ((go_at_call 201;exact aD.call _ Xm (Dw tu se sp W ws.length wc S dT ae bq sp _ aP.o _ (Mb.o.ad (aD.ad _)))))
      repeat go_big_quiet_step (fail)
      refine VF ?_
      intro K
      go_wp2
      go_ret
      exact⟨fe (by rw [QF H1.o ja.o h0 lB.o h4 rN.o hp.o,aP.o,Xh (show (aW.dw ⟨sm,st,cR⟩) < tu from jI)]),ai U K.ad⟩
     .have WA:decide (st < tu)= false:=Xe jI
      clear f0 f1 f2 f3 f4
      obtain⟨f0,f1,f2,f3,f4⟩:=ay.kG (λK:aD wr wr=>(ag.ad K.ad ag.lt))
      refine eQ PV PV ?_
      repeat go_big_quiet_step (fail)
      go_big_quiet_step ((go_at_call 201;exact aD.call _ Xm (Dw tu se sp W ws.length wc S dT ae bq sp _ aP.o _ (Mb.o.ad (aD.ad _)))))
      repeat go_big_quiet_step (fail)
      refine VF ?_
      intro K
      go_wp2
      go_ret
      exact⟨fe (by rw [QF H1.o ja.o h0 lB.o h4 rN.o hp.o,aP.o,Xe (show¬(aW.dw ⟨sm,st,cR⟩) < tu from by show¬st < tu;omega)]),ai U K.ad⟩
theorem alJ (h:v:=by
 rintro e w0 ⟨rfl,h0⟩
 rw [h0]
 clear h0 w0
 go_wp2
 go_ret
 exact⟨fe (arv H1.o).symm,(ai U ao)⟩):v:=h
theorem alK (h:v:=by
 rintro e w0 ⟨rfl,h0⟩
 rw [h0]
 clear h0 w0
 go_wp2
 go_ret
 exact⟨fe (arw ja.o).symm,(ai U ao)⟩):v:=h
theorem alN (h:v:=by
 rintro e w0 ⟨rfl,h0⟩
 rw [h0]
 clear h0 w0
 go_wp2
 go_ret
 exact⟨fe (adB h4).symm,(ai U ao)⟩):v:=h
theorem oy (wc:Nat) (hw:ws) (bq:ae) (aN:ws.length<=wc) (v:Bool) (az:hG tu se sp ws ae= v) {w:World} (cv:aX 1 cE w W ws) (bJ:aX 3 aW.cells w S ae):
 Rd 119 #[.agg #[tu,se,sp,W ws wc,S ae dT]] w λe ah=>e= .returned v/\Below w w ah:=by
 subst az
 cases h1:fB tu 1 3
 .have H1:=I h1
  go_in
  go_upto_region 1 with fail
  refine dh λaO ar ag=>?_
  replace bJ:=bJ.ad ar;have U:=ar;have aJ:=ag.aL
  go_wp2_with fail
  refine (ku _ H1.o _).mono ?_
  exact alJ
 cases h2:fB se 1 3600
 .have H1:=I h1
  have ja:=I h2
  go_in
  go_upto_region 1 with fail
  refine dh λaO ar ag=>?_
  replace bJ:=bJ.ad ar;have U:=ar;have aJ:=ag.aL
  go_wp2_with fail
  refine (ku _ H1.o _).mono ?_
  rintro e w0 ⟨rfl,h0⟩
  rw [h0]
  clear h0 w0
  go_wp2_with fail
  refine (ku _ ja.o _).mono ?_
  exact alK
 by_cases h0:sp= 0
 .subst h0
  by_cases h4:ws.length<=10
  .exact ava tu se W ws wc S dT ae hw bq aN h1 h2 h4 w cv bJ
  .have H1:=I h1
   have ja:=I h2
   go_in
   go_upto_region 1 with fail
   refine dh λaO ar ag=>?_
   replace bJ:=bJ.ad ar;have U:=ar;have aJ:=ag.aL
   go_wp2_with fail
   refine (ku _ H1.o _).mono ?_
   rintro e w0 ⟨rfl,h0⟩
   rw [h0]
   clear h0 w0
   go_wp2_with fail
   refine (ku _ ja.o _).mono ?_
   exact alN
 cases h3:fy sp
 .have H1:=I h1
  have ja:=I h2;have lB:=I h3
  have ew:(sp != 0)= true:=by simp [h0]
  go_in
  go_upto_region 1 with fail
  refine dh λaO ar ag=>?_
  replace bJ:=bJ.ad ar;have U:=ar;have aJ:=ag.aL
  go_wp2_with fail
  refine (ku _ H1.o _).mono ?_
  rintro e w0 ⟨rfl,h0⟩
  rw [h0]
  clear h0 w0
  go_wp2_with fail
  refine (ku _ ja.o _).mono ?_
  rintro e w0 ⟨rfl,h0⟩
  rw [h0]
  clear h0 w0
  go_wp2_with fail
  refine (kx _ lB.o _).mono ?_
  rintro e w0 ⟨rfl,h0⟩
  rw [h0]
  clear h0 w0
  go_wp2
  go_ret
  exact⟨fe (adA h0 lB.o).symm,(ai U ao)⟩
 by_cases h4:ws.length<=10
 .exact auZ tu se sp W ws wc S dT ae hw bq aN h1 h2 h0 h3 h4 w cv bJ
 .have H1:=I h1
  have ja:=I h2;have lB:=I h3
  have ew:(sp != 0)= true:=by simp [h0]
  go_in
  go_upto_region 1 with fail
  refine dh λaO ar ag=>?_
  replace bJ:=bJ.ad ar;have U:=ar;have aJ:=ag.aL
  go_wp2_with fail
  refine (ku _ H1.o _).mono ?_
  rintro e w0 ⟨rfl,h0⟩
  rw [h0]
  clear h0 w0
  go_wp2_with fail
  refine (ku _ ja.o _).mono ?_
  rintro e w0 ⟨rfl,h0⟩
  rw [h0]
  clear h0 w0
  go_wp2_with fail
  refine (kx _ lB.o _).mono ?_
  exact alN
theorem anJ (h:v:=by
 have jB:=I h1;clear h1
 go_wp2_with fail
 refine (km _ jB.o _).mono ?_
 rintro e w0 ⟨rfl,h0⟩
 rw [h0]
 clear h0 w0
 go_wp2
 go_ret
 exact⟨fe (El bC (by rw [BE av.o];simp only [jB.o];simp)).symm,(ai U ao)⟩):v:=h
theorem amJ (h:v:=by
 have oX:=I h3;clear h3
 go_wp2_with fail
 refine (km _ jB.o _).mono ?_
 rintro e w0 ⟨rfl,h0⟩
 rw [h0]
 clear h0 w0
 go_wp2_with fail
 refine (JQ k KK hw _ oX.o (cv.ad ao)).mono ?_
 rintro e aI ⟨rfl,aQ⟩
 have aj:=be wr aQ;replace U:=ai U aj;replace bJ:=bJ.ad aj;replace cv:=cv.ad aj;replace ag:=ag.to aj;replace aJ:=ag.aL
 go_wp2
 go_ret
 exact⟨fe (El bC (by rw [BE av.o];simp only [jB.o,oX.o];simp)).symm,(ai U ao)⟩):v:=h
theorem amM (h:v:=by
 have oW:=I h2
 go_wp2_with fail
 refine (km _ jB.o _).mono ?_
 rintro e w0 ⟨rfl,h0⟩
 rw [h0]
 clear h0 w0
 go_wp2_with fail
 refine (JQ k KK hw _ oX.o (cv.ad ao)).mono ?_
 rintro e aI ⟨rfl,aQ⟩
 have aj:=be wr aQ;replace U:=ai U aj;replace bJ:=bJ.ad aj;replace cv:=cv.ad aj;replace ag:=ag.to aj;replace aJ:=ag.aL
 go_wp2
 go_ret
 exact⟨fe (El bC (by rw [BE av.o];simp only [jB.o,oW.o,oX.o];simp)).symm,(ai U ao)⟩):v:=h
theorem ans (h:v:=by
 rintro e bw ⟨rfl,bG⟩
 have aY:=be aI bG;replace U:=ai U aY;replace bJ:=bJ.ad aY;replace cv:=cv.ad aY;replace ag:=ag.to aY;replace aJ:=ag.aL
 go_wp2
 go_ret
 exact⟨fe (El bC (by rw [BE av.o];simp only [jB.o,oW.o,oX.o,rj.o];simp)).symm,(ai U ao)⟩):v:=h
theorem anc (h:v:=by
 rintro e bw ⟨rfl,bG⟩
 have aY:=be aI bG;replace U:=ai U aY;replace bJ:=bJ.ad aY;replace cv:=cv.ad aY;replace ag:=ag.to aY;replace aJ:=ag.aL
 go_wp2
 go_roundw
 case rel=>exact⟨k + 1,by omega,by go_num,qg aT.o (by rw [BE av.o];simp only [jB.o,oW.o,oX.o,rj.o];rfl),U,ag⟩
 case measure=>simp [intOf];omega):v:=h
theorem azT (tu se:Int) (W:QR) (ws:List Int) (wc:Nat) (S:QR) (dT:Nat) (ae:List aW) (hw:ws) (bq:ae) (aN:ws.length<=wc) (h1:fB tu 1 3= true) (h2:fB se 1 3600= true) (h4:ws.length<=10) (h5:xq tu se ae= true) (w:World) (cv:aX 1 cE w W ws) (bJ:aX 3 aW.cells w S ae):
 Rd 184 #[.agg #[tu,se,(0:Int),W ws wc,S ae dT]] w λe ah=>e= .returned (.bool (hG tu se 0 ws ae))/\Below w w ah:=by
 replace h5:=I h5;have H1:=I h1;have ja:=I h2;clear h1 h2
 go_in
 have zd:=I bJ;have CC:=I cv
 go_upto_region 1 with fail
 refine dh λaO ar ag=>?_
 replace bJ:=bJ.ad ar;replace cv:=cv.ad ar;have U:=ar;have aJ:=ag.aL
 go_wp2_with fail
 refine (lO _ H1.o _).mono ?_
 rintro e w0 ⟨rfl,h0⟩
 rw [h0]
 clear h0 w0
 go_wp2_with fail
 refine (lO _ ja.o _).mono ?_
 rintro e w0 ⟨rfl,h0⟩
 rw [h0]
 clear h0 w0
 go_wp2_with fail
 refine (RL hw bq _ h5.o (cv.ad ao) (bJ.ad ao)).mono ?_
 rintro e aI ⟨rfl,aQ⟩
 have aj:=be aO aQ;replace U:=ai U aj;replace bJ:=bJ.ad aj;replace cv:=cv.ad aj;replace ag:=ag.to aj;replace aJ:=ag.aL
 go_wp2
 clear aJ
 go_loopw [3] (λi wr=>∃k:Nat,k<=ws.length/\i= .int .i64 k/\iv (yr tu se 0 ws ae) k= true/\Below w w wr/\ay wr w 41 #[tu,se,(0:Int),W ws wc,S ae dT]) (λi _=>ws.length - (intOf i).toNat)
 case atStart=>exact⟨0,Xd _,rfl,rfl,U,ag⟩
 case round=>
  clear U ag
  obtain⟨k,ax,rfl,aT,aB,ag⟩:=hrel
  replace aT:=I aT;replace bJ:=zd.o;replace cv:=CC.o;have ar:=be w aB;have U:Below w w wr:=ar;replace bJ:=bJ.ad ar;replace cv:=cv.ad ar
  by_cases bC:k < ws.length
  .obtain⟨b,off,m,rfl,eN,av,bO⟩:=cv.at_ (Wt _ _) bC
   have cG:=bO 0 _ rfl
   simp only [Xw,XW] at cG
   have g0:=cG (aD.self _)
   simp only [aD.self] at g0
   replace av:=I av;clear bO cG;have aJ:=ag.aL
   have EG:(k:Int)<=(wc:Int):=KK
   go_upto_region 7 with fail
   clear g0
   cases h1:fy m
   .exact anJ
   have jB:=I h1;clear h1
   by_cases h3:hasB (ws.take k) m= true
   .exact amJ
   replace h3:=Ya.2 h3;have oX:=I h3;clear h3
   by_cases h2:(m == 0)= true
   .exact amM
   replace h2:=Ya.2 h2;have oW:=I h2
   cases h4:rr tu se (fr ae m)
   .have rj:=I h4;clear h4
    go_wp2_with fail
    refine (km _ jB.o _).mono ?_
    rintro e w0 ⟨rfl,h0⟩
    rw [h0]
    clear h0 w0
    go_wp2_with fail
    refine (JQ k KK hw _ oX.o (cv.ad ao)).mono ?_
    rintro e aI ⟨rfl,aQ⟩
    have aj:=be wr aQ;replace U:=ai U aj;replace bJ:=bJ.ad aj;replace cv:=cv.ad aj;replace ag:=ag.to aj;replace aJ:=ag.aL
    go_wp2_with fail
    refine (Ht bq _ rj.o (bJ.ad ao)).mono ?_
    exact ans
   .have rj:=I h4;clear h4
    go_wp2_with fail
    refine (km _ jB.o _).mono ?_
    rintro e w0 ⟨rfl,h0⟩
    rw [h0]
    clear h0 w0
    go_wp2_with fail
    refine (JQ k KK hw _ oX.o (cv.ad ao)).mono ?_
    rintro e aI ⟨rfl,aQ⟩
    have aj:=be wr aQ;replace U:=ai U aj;replace bJ:=bJ.ad aj;replace cv:=cv.ad aj;replace ag:=ag.to aj;replace aJ:=ag.aL
    go_wp2_with fail
    refine (Ht bq _ rj.o (bJ.ad ao)).mono ?_
    exact anc
  .obtain rfl:k= ws.length:=KK
   have aJ:=ag.aL
   go_upto_region 9 with fail
   replace aJ:=ay.kG (λK:aD wr wr=>(ag.ad K.ad ag.lt))
   refine eQ PV PV ?_
   repeat go_big_quiet_step (fail)
   refine VF ?_
   intro K
   go_wp2
   go_ret
   exact⟨fe (adC H1.o ja.o h4 h5.o aT.o).symm,ai U K.ad⟩
theorem azS (tu se sp:Int) (W:QR) (ws:List Int) (wc:Nat) (S:QR) (dT:Nat) (ae:List aW) (hw:ws) (bq:ae) (aN:ws.length<=wc) (h1:fB tu 1 3= true) (h2:fB se 1 3600= true) (h0:sp≠0) (h4:ws.length<=10) (h5:xq tu se ae= true) (w:World) (cv:aX 1 cE w W ws) (bJ:aX 3 aW.cells w S ae):
 Rd 184 #[.agg #[tu,se,sp,W ws wc,S ae dT]] w λe ah=>e= .returned (.bool (hG tu se sp ws ae))/\Below w w ah:=by
 replace h5:=I h5;have H1:=I h1;have ja:=I h2;clear h1 h2
 go_in
 have zd:=I bJ;have CC:=I cv
 go_upto_region 1 with fail
 refine dh λaO ar ag=>?_
 replace bJ:=bJ.ad ar;replace cv:=cv.ad ar;have U:=ar;have aJ:=ag.aL
 go_wp2_with fail
 refine (lO _ H1.o _).mono ?_
 rintro e w0 ⟨rfl,h0⟩
 rw [h0]
 clear h0 w0
 go_wp2_with fail
 refine (lO _ ja.o _).mono ?_
 rintro e w0 ⟨rfl,h0⟩
 rw [h0]
 clear h0 w0
 go_wp2_with fail
 refine (RL hw bq _ h5.o (cv.ad ao) (bJ.ad ao)).mono ?_
 rintro e aI ⟨rfl,aQ⟩
 have aj:=be aO aQ;replace U:=ai U aj;replace bJ:=bJ.ad aj;replace cv:=cv.ad aj;replace ag:=ag.to aj;replace aJ:=ag.aL
 go_wp2
 clear aJ
 go_loopw [3] (λi wr=>∃k:Nat,k<=ws.length/\i= .int .i64 k/\iv (yr tu se sp ws ae) k= true/\Below w w wr/\ay wr w 41 #[tu,se,sp,W ws wc,S ae dT]) (λi _=>ws.length - (intOf i).toNat)
 case atStart=>exact⟨0,Xd _,rfl,rfl,U,ag⟩
 case round=>
  clear U ag
  obtain⟨k,ax,rfl,aT,aB,ag⟩:=hrel
  replace aT:=I aT;replace bJ:=zd.o;replace cv:=CC.o;have ar:=be w aB;have U:Below w w wr:=ar;replace bJ:=bJ.ad ar;replace cv:=cv.ad ar
  by_cases bC:k < ws.length
  .obtain⟨b,off,m,rfl,eN,av,bO⟩:=cv.at_ (Wt _ _) bC
   have cG:=bO 0 _ rfl
   simp only [Xw,XW] at cG
   have g0:=cG (aD.self _)
   simp only [aD.self] at g0
   replace av:=I av;clear bO cG;have aJ:=ag.aL
   have EG:(k:Int)<=(wc:Int):=KK
   go_upto_region 7 with fail
   clear g0
   cases h1:fy m
   .exact anJ
   have jB:=I h1;clear h1
   by_cases h3:hasB (ws.take k) m= true
   .exact amJ
   replace h3:=Ya.2 h3;have oX:=I h3;clear h3
   by_cases h2:(m == sp)= true
   .exact amM
   replace h2:=Ya.2 h2;have oW:=I h2
   cases h4:rr tu se (fr ae m)
   .have rj:=I h4;clear h4
    go_wp2_with fail
    refine (km _ jB.o _).mono ?_
    rintro e w0 ⟨rfl,h0⟩
    rw [h0]
    clear h0 w0
    go_wp2_with fail
    refine (JQ k KK hw _ oX.o (cv.ad ao)).mono ?_
    rintro e aI ⟨rfl,aQ⟩
    have aj:=be wr aQ;replace U:=ai U aj;replace bJ:=bJ.ad aj;replace cv:=cv.ad aj;replace ag:=ag.to aj;replace aJ:=ag.aL
    go_wp2_with fail
    refine (Ht bq _ rj.o (bJ.ad ao)).mono ?_
    exact ans
   .have rj:=I h4;clear h4
    go_wp2_with fail
    refine (km _ jB.o _).mono ?_
    rintro e w0 ⟨rfl,h0⟩
    rw [h0]
    clear h0 w0
    go_wp2_with fail
    refine (JQ k KK hw _ oX.o (cv.ad ao)).mono ?_
    rintro e aI ⟨rfl,aQ⟩
    have aj:=be wr aQ;replace U:=ai U aj;replace bJ:=bJ.ad aj;replace cv:=cv.ad aj;replace ag:=ag.to aj;replace aJ:=ag.aL
    go_wp2_with fail
    refine (Ht bq _ rj.o (bJ.ad ao)).mono ?_
    exact anc
  .obtain rfl:k= ws.length:=KK
   have aJ:=ag.aL
   go_upto_region 9 with fail
   have dP:(sp == 0)= false:=Xb.2 h0;have Mb:=I bJ
   obtain⟨s,aP⟩ :∃s,fr ae sp= s:=⟨_,rfl⟩
   replace aP:=I aP
   obtain⟨sm,st,cR⟩:=s
   have wT:∀W:World,(Instr.field 214 (.agg #[sm,st,cR]) 1).run Tryz.prog W= .ok (.int .i64 st) W:=λ_=>by kernel_rfl
   cases h3:fy sp
   .have lB:=I h3;clear h3
    replace aJ:=ay.kG (λK:aD wr wr=>(ag.ad K.ad ag.lt))
    refine eQ PV PV ?_
    repeat go_big_quiet_step (fail)
    go_big_quiet_step ((go_at_call 162;exact aD.same _ (km _ lB.o _)))
    repeat go_big_quiet_step (fail)
    refine VF ?_
    intro K
    go_wp2
    go_ret
    exact⟨fe (adA h0 lB.o).symm,ai U K.ad⟩
   have lB:=I h3;clear h3
   by_cases jI:st < tu
   .have WA:decide (st < tu)= true:=Xh jI
    replace aJ:=ay.kG (λK:aD wr wr=>(ag.ad K.ad ag.lt))
    refine eQ PV PV ?_
    repeat go_big_quiet_step (fail)
    go_big_quiet_step ((go_at_call 162;exact aD.same _ (km _ lB.o _)))
    repeat go_big_quiet_step (fail)
    go_big_quiet_step ((go_at_call 267;exact aD.call _ Xm (zP tu se sp W ws.length wc S dT ae bq sp _ aP.o _ (Mb.o.ad (aD.ad _)))))
    repeat go_big_quiet_step (fail)
    refine VF ?_
    intro K
    go_wp2
    go_ret
    exact⟨fe (by rw [QF H1.o ja.o h0 lB.o h4 h5.o aT.o,aP.o,Xh (show (aW.dw ⟨sm,st,cR⟩) < tu from jI)]),ai U K.ad⟩
   .have WA:decide (st < tu)= false:=Xe jI
    replace aJ:=ay.kG (λK:aD wr wr=>(ag.ad K.ad ag.lt))
    refine eQ PV PV ?_
    repeat go_big_quiet_step (fail)
    go_big_quiet_step ((go_at_call 162;exact aD.same _ (km _ lB.o _)))
    repeat go_big_quiet_step (fail)
    go_big_quiet_step ((go_at_call 267;exact aD.call _ Xm (zP tu se sp W ws.length wc S dT ae bq sp _ aP.o _ (Mb.o.ad (aD.ad _)))))
    repeat go_big_quiet_step (fail)
    refine VF ?_
    intro K
    go_wp2
    go_ret
    exact⟨fe (by rw [QF H1.o ja.o h0 lB.o h4 h5.o aT.o,aP.o,Xe (show¬(aW.dw ⟨sm,st,cR⟩) < tu from by show¬st < tu;omega)]),ai U K.ad⟩
theorem oz (wc:Nat) (hw:ws) (bq:ae) (aN:ws.length<=wc) (v:Bool) (az:hG tu se sp ws ae= v) {w:World} (cv:aX 1 cE w W ws) (bJ:aX 3 aW.cells w S ae):
 Rd 184 #[.agg #[tu,se,sp,W ws wc,S ae dT]] w λe ah=>e= .returned v/\Below w w ah:=by
 subst az
 cases h1:fB tu 1 3
 .have H1:=I h1
  go_in
  go_upto_region 1 with fail
  refine dh λaO ar ag=>?_
  replace bJ:=bJ.ad ar;replace cv:=cv.ad ar;have U:=ar;have aJ:=ag.aL
  go_wp2_with fail
  refine (lO _ H1.o _).mono ?_
  exact alJ
 cases h2:fB se 1 3600
 .have H1:=I h1
  have ja:=I h2
  go_in
  go_upto_region 1 with fail
  refine dh λaO ar ag=>?_
  replace bJ:=bJ.ad ar;replace cv:=cv.ad ar;have U:=ar;have aJ:=ag.aL
  go_wp2_with fail
  refine (lO _ H1.o _).mono ?_
  rintro e w0 ⟨rfl,h0⟩
  rw [h0]
  clear h0 w0
  go_wp2_with fail
  refine (lO _ ja.o _).mono ?_
  exact alK
 cases h5:xq tu se ae
 .have H1:=I h1
  have ja:=I h2;have Po:=I h5
  go_in
  go_upto_region 1 with fail
  refine dh λaO ar ag=>?_
  replace bJ:=bJ.ad ar;replace cv:=cv.ad ar;have U:=ar;have aJ:=ag.aL
  go_wp2_with fail
  refine (lO _ H1.o _).mono ?_
  rintro e w0 ⟨rfl,h0⟩
  rw [h0]
  clear h0 w0
  go_wp2_with fail
  refine (lO _ ja.o _).mono ?_
  rintro e w0 ⟨rfl,h0⟩
  rw [h0]
  clear h0 w0
  go_wp2_with fail
  refine (RL hw bq _ Po.o (cv.ad ao) (bJ.ad ao)).mono ?_
  rintro e aI ⟨rfl,aQ⟩
  have aj:=be aO aQ;replace U:=ai U aj;replace bJ:=bJ.ad aj;replace cv:=cv.ad aj;replace ag:=ag.to aj;replace aJ:=ag.aL
  go_wp2
  go_ret
  exact⟨fe (MD Po.o).symm,(ai U ao)⟩
 by_cases h4:ws.length<=10
 case neg=>
  have H1:=I h1;have ja:=I h2;have Po:=I h5
  go_in
  go_upto_region 1 with fail
  refine dh λaO ar ag=>?_
  replace bJ:=bJ.ad ar;replace cv:=cv.ad ar;have U:=ar;have aJ:=ag.aL
  go_wp2_with fail
  refine (lO _ H1.o _).mono ?_
  rintro e w0 ⟨rfl,h0⟩
  rw [h0]
  clear h0 w0
  go_wp2_with fail
  refine (lO _ ja.o _).mono ?_
  rintro e w0 ⟨rfl,h0⟩
  rw [h0]
  clear h0 w0
  go_wp2_with fail
  refine (RL hw bq _ Po.o (cv.ad ao) (bJ.ad ao)).mono ?_
  rintro e aI ⟨rfl,aQ⟩
  have aj:=be aO aQ;replace U:=ai U aj;replace bJ:=bJ.ad aj;replace cv:=cv.ad aj;replace ag:=ag.to aj;replace aJ:=ag.aL
  go_wp2
  go_ret
  exact⟨fe (adB h4).symm,(ai U ao)⟩
 by_cases h0:sp= 0
 .subst h0
  exact azT tu se W ws wc S dT ae hw bq aN h1 h2 h4 h5 w cv bJ
 .exact azS tu se sp W ws wc S dT ae hw bq aN h1 h2 h0 h4 h5 w cv bJ
end Go.Proofs.YtlaaemmmbodaaaaGreatDoor
