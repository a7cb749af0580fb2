/- Parts. -/
import Derived.OpenVars
import Derived.Test.YtlaaemmmbodaaaaGreatDoorCards
import Derived.Test.YtlaaemmmbodaaaaGreatDoorTie
import Derived.Deep.DeepWitnessRowRef
import Derived.Lay
import Derived.Stop.LaidErr
import Derived.Test.YtlaaemmmbodaaaaGreatDoorFx11
import Derived.Test.YtlaaemmmbodaaaaGreatDoorFx12
set_option maxHeartbeats 16000000
set_option maxRecDepth 100000
set_option linter.all false
open Go Go.RowKit Go.ChangeShapes Go.WideShapes Go.ChangeAt Go.Deep Go.ChangeMaps Go.Proofs.YtlaaemmmbodaaaaGreatDoor
variable {m:di} {ws:List Int} {B c0 aw c2 c3 c4:Nat} {aq au ak al aF:QR} {rs:List aM} {qs:List aZ} {tu se sp cU:Int} {ae:List aW} {os:List Out} {cV cW:VU} {x:dE} {P:Program} {fn:Func} {W:World} {rt:TypeId} {v:Prop} {KL:VG aq au ak al aF c0 aw c2 c3 c4 rs qs ws ae os tu se sp}
namespace Go.Proofs.YtlaaemmmbodaaaaGreatDoor
theorem YS (h:v:=by rw [h];rfl):v:=h
theorem Zv (h:v:=by simp [results,Tryz.results61,go_sem,z0]):v:=h
theorem Zw (h:v:=by simp [results,Tryz.results19,go_sem,z0]):v:=h
theorem Zx (h:v:=by simp [results,Tryz.results89,go_sem,z0]):v:=h
theorem aGx (h:v:=by simp [results,Tryz.results76,go_sem,z0,bF]):v:=h
theorem ZZ (h:v:=by rw [e];simp):v:=h
theorem ajw (c:UInt8):∀{l u:List UInt8},mf c l= [u]->u= l
 | [],u,h=>by simp [mf] at h;exact h
 | x ::l,u,h=>by
  unfold mf at h
  split at h
  .have h2:=(List.cons.inj h).2
   exact absurd h2 (aIJ c l)
  .split at h
   .rename_i h0;exact absurd h0 (aIJ c l)
   .rename_i w ws h0
    obtain⟨h1,h2⟩:=List.cons.inj h
    subst h2
    rw [<- h1,ajw c h0]
theorem aBi {c:UInt8} {s a:VU} (h:hj c s= [a]):a= s:=by
 unfold hj at h
 obtain⟨u,hu⟩ :∃u,mf c s.data.toList= [u]:=by
  match aP:mf c s.data.toList,h with
  | [u],_=>exact⟨u,rfl⟩
 rw [hu] at h
 have h1:=(List.cons.inj h).1
 rw [<- h1,ajw c hu,Qo]
theorem Qf {a:pJ} (h4:a.kind≠4) (h7:a.kind≠7):wx m a= qX m a (⟨#[111,107]⟩ :VU):=by
 unfold wx qX
 cases hY m a with
 | none=>rfl
 | some n=>simp only [tb,XU h4,XU h7]
theorem QB {w:VU} {r:List ByteArray} (h:∀p,oR (fA w)= some p->r.length≠p.size):lI m (w ::r)= (m,(⟨#[63]⟩ :VU)):=by
 cases aS:oR (fA w) with
 | none=>exact aqJ aS
 | some p=>exact aqH aS (h p aS)
theorem Sn {i:Nat} {p:VU} (h:oR i= some p):(i<=6/\p.size= 0)\/(7<=i/\i<=12/\p.size= 1)\/(i= 13/\p.size= 2)\/(i= 14/\p.size= 3):=by
 unfold oR at h
 split at h <;> first | (cases h;done) | (injection h with h;subst h;first | exact Or.inl ⟨by decide,rfl⟩ | exact Or.inr (Or.inl ⟨by decide,by decide,rfl⟩) | exact Or.inr (Or.inr (Or.inl ⟨rfl,rfl⟩)) | exact Or.inr (Or.inr (Or.inr ⟨rfl,rfl⟩)))
theorem Tn (h:v:=by
 rw [adn (p:=⟨#[]⟩) (l:=[]) YS (SC _) YS rfl,h];rfl):v:=h
theorem aqC (m:di) (w:VU):lI m [w]= yt m (fA w):=by
 have hw:=Mm w
 have no:7<=fA w->lI m [w]= yt m (fA w):=λh7=>by
  rw [QB (λp aS e=>by rcases Sn aS with h | h | h | h <;> simp at e <;> omega),ajX] <;> omega
 rcases RW hw with h | h | h | h | h | h | h | h | h | h | h | h | h | h | h | h
 .rw [Jb (p:=⟨#[]⟩) (l:=[]) (a:=⟨4,0,0,0,0,0⟩) YS (SC _) YS,h];rfl
 .rw [Jb (p:=⟨#[]⟩) (l:=[]) (a:=⟨6,0,0,0,0,0⟩) YS (SC _) YS,h];exact Qf WG WG
 .rw [Jb (p:=⟨#[]⟩) (l:=[]) (a:=⟨9,0,0,0,0,0⟩) YS (SC _) YS,h];exact Qf WG WG
 .exact Tn
 .exact Tn
 .exact Tn
 .exact Tn
 all_goals exact no KK
theorem aqD (m:di) (w x:VU):lI m [w,x]= if gf x then xg m (fA w) (jh x.data.toList) else (m,(⟨#[63]⟩ :VU)):=by
 have hw:=Mm w
 have no:¬(7<=fA w/\fA w<=12)->lI m [w,x]= if gf x then xg m (fA w) (jh x.data.toList) else (m,(⟨#[63]⟩ :VU)):=λh7=>by
  rw [QB (λp aS e=>by rcases Sn aS with h | h | h | h <;> simp at e <;> omega),aho]
  .simp
  all_goals omega
 have one:=ayp m.bT x
 have bad:oR (fA w)= some (⟨#[110]⟩ :VU)->gf x= false->lI m [w,x]= if gf x then xg m (fA w) (jh x.data.toList) else (m,(⟨#[63]⟩ :VU)):=λaS av=>by
  rw [av] at one ⊢
  exact QC aS one
 have act:∀a:Int->pJ,oR (fA w)= some (⟨#[110]⟩ :VU)->(∀n,wv (fA w) [n]= some (a n))->(∀n,(a n).kind≠4)->(∀n,(a n).kind≠7)->(∀n,xg m (fA w) n= qX m (a n) (⟨#[111,107]⟩ :VU))->lI m [w,x]= if gf x then xg m (fA w) (jh x.data.toList) else (m,(⟨#[63]⟩ :VU)):=λa aS de h4 h7 bq=>by
  cases av:gf x
  .have:=bad aS av;rwa [av] at this
  .rw [av] at one
   rw [XX rfl,Jb aS one (de _),bq]
   exact Qf (h4 _) (h7 _)
 have ask:oR (fA w)= some (⟨#[110]⟩ :VU)->(∀n,wv (fA w) [n]= none)->(∀n,xg m (fA w) n= (m,(mh m (fA w) [n]).getD (⟨#[63]⟩ :VU)))->lI m [w,x]= if gf x then xg m (fA w) (jh x.data.toList) else (m,(⟨#[63]⟩ :VU)):=λaS de bq=>by
  cases av:gf x
  .have:=bad aS av;rwa [av] at this
  .rw [av] at one
   rw [XX rfl,adn aS one (de _) rfl,bq]
 rcases RW hw with h | h | h | h | h | h | h | h | h | h | h | h | h | h | h | h
 all_goals first
  | exact no KK
  | exact act (λn=>⟨2,n,0,0,0,0⟩) YS (λn=>by rw [h];rfl) (λ_=>(by decide:(2:Int)≠4)) (λ_=>(by decide:(2:Int)≠7)) (λn=>by rw [h];rfl)
  | exact act (λn=>⟨3,n,0,0,0,0⟩) YS (λn=>by rw [h];rfl) (λ_=>(by decide:(3:Int)≠4)) (λ_=>(by decide:(3:Int)≠7)) (λn=>by rw [h];rfl)
  | exact act (λn=>⟨5,0,n,0,0,0⟩) YS (λn=>by rw [h];rfl) (λ_=>(by decide:(5:Int)≠4)) (λ_=>(by decide:(5:Int)≠7)) (λn=>by rw [h];rfl)
  | exact act (λn=>⟨8,n,0,0,0,0⟩) YS (λn=>by rw [h];rfl) (λ_=>(by decide:(8:Int)≠4)) (λ_=>(by decide:(8:Int)≠7)) (λn=>by rw [h];rfl)
  | exact ask YS (λn=>by rw [h];rfl) (λn=>by rw [h];rfl)
theorem alP (h:v:=by
 rw [XU h]
 exact QB (λp aS e=>by rcases Sn aS with h | h | h | h <;> simp at e <;> omega)):v:=h
theorem aqE (m:di) (w x y:VU):lI m [w,x,y]= if fA w= 13 then JY m x y else (m,(⟨#[63]⟩ :VU)):=by
 by_cases h:fA w= 13
 .rw [XX h]
  have two:=ayr m.bT x y
  unfold JY
  cases hf:yS m.bT x with
  | none=>rw [hf] at two;rw [QC (p:=(⟨#[114,110]⟩ :VU)) YS two];rfl
  | some r=>
   rw [hf] at two
   cases hy:gf y
   .rw [hy] at two;rw [QC (p:=(⟨#[114,110]⟩ :VU)) YS two];rfl
   .rw [hy] at two
    rw [ahf,Jb (p:=(⟨#[114,110]⟩ :VU)) (l:=[r.id,jh y.data.toList]) YS two YS]
    exact Qf (show (1:Int)≠4 by decide) (show (1:Int)≠7 by decide)
 .exact alP
theorem aqF (m:di) (w x y z:VU):lI m [w,x,y,z]= if fA w= 14 then HY m x y z else (m,(⟨#[63]⟩ :VU)):=by
 by_cases h:fA w= 14
 .rw [XX h]
  have three:=ayq m.bT x y z
  unfold HY
  cases az:(gf x && (gf y && gf z))
  .rw [az] at three;rw [QC (p:=(⟨#[110,110,110]⟩ :VU)) YS three];rfl
  .rw [az] at three
   exact Jb (p:=(⟨#[110,110,110]⟩ :VU)) (l:=[jh x.data.toList,jh y.data.toList,jh z.data.toList]) YS three YS
 .exact alP
theorem aqG (m:di) (w:VU) (r:List ByteArray) (h:4<=r.length):lI m (w ::r)= (m,(⟨#[63]⟩ :VU)):=QB (λp aS e=>by rcases Sn aS with h | h | h | h <;> omega)
theorem five {ws:List ByteArray} (h:ws≠[]):(∃a,ws= [a])\/(∃a b,ws= [a,b])\/(∃a b c,ws= [a,b,c])\/(∃a b c d,ws= [a,b,c,d])\/(∃a r,ws= a ::r/\4<=r.length):=
 match ws,h with
 | [a],_=>Or.inl ⟨a,rfl⟩
 | [a,b],_=>Or.inr (Or.inl ⟨a,b,rfl⟩)
 | [a,b,c],_=>Or.inr (Or.inr (Or.inl ⟨a,b,c,rfl⟩))
 | [a,b,c,d],_=>Or.inr (Or.inr (Or.inr (Or.inl ⟨a,b,c,d,rfl⟩)))
 | a ::b ::c ::d ::e ::r,_=>Or.inr (Or.inr (Or.inr (Or.inr ⟨a,b ::c ::d ::e ::r,rfl,by simp⟩)))
theorem amD (h:v:=by
 have z0:=cp.ca
 refine XY (v:= .tuple #[.agg #[ck dQ e0,cf dY e1,dX,dW,dU,ct cq e2,cu cw e3,cl dR e4,cV,cW,cU],kO]) Zv rfl ?_
 exact⟨⟨dQ,dY,dX,dW,dU,cq,cw,dR,ck,e0,cf,e1,ct,e2,cu,e3,cl,e4,_,rfl,I (oJ.o.trans fl.o),hg⟩,fg⟩):v:=h
theorem amC (h:v:=by
 clear aE
 have z0:=cp.ca
 refine XY (v:= .tuple #[.agg #[aq rs c0,au qs aw,tu,se,sp,ak ws c2,al ae c3,aF os c4,cV,cW,cU],.string (⟨#[63]⟩ :VU)]) Zv rfl ?_
 exact⟨⟨rs,qs,tu,se,sp,ws,ae,os,aq,c0,au,aw,ak,c2,al,c3,aF,c4,_,rfl,I (oJ.o),hg⟩,fg⟩):v:=h
theorem anB (h:v:=by
 rintro e cO ⟨⟨dQ,dY,dX,dW,dU,cq,cw,dR,ck,e0,cf,e1,ct,e2,cu,e3,cl,e4,kO,rfl,fl,gN⟩,eM⟩
 have vk:=I gN;clear gN;have om:=ai fO eM;have nh:=qJ.to eM;have gC:=(eM.cell (p:=⟨nN,_,none⟩) NL).trans ev
 go_wp2
 refine gb ((cH.o _).2 ⟨gC,nh⟩) (da _ _ ?_)
 refine gA λff da=>?_
 refine YB ?_
 repeat go_big_quiet_step (fail)
 refine VF ?_
 refine XV ?_
 have dO:=I (lG.o.ad eM lG.o.lt);have af:=dO.o.ca;have eO:=dO.o.hk;have jq:=dO.o.lt
 go_wp2
 clear af eO jq
 refine hD 0 λcP aE=>?_
 have eT:=aE.dj nh;have cp:=aE.jo dO.o;have hg:=vk.o.hb dO.o aE.eC;have fg:=aE.aN om;have Dc:=aE.eC.cell gC (by simpa using vj.o)
 clear aE
 refine gb ((cH.o _).2 ⟨Dc,eT⟩) (da _ _ ?_)
 refine ky ?_
 refine Xp ?_
 repeat go_big_quiet_step (fail)
 refine VF ?_
 clear cA x1 cB cY cZ dG dH dA gV gW gU u0
 go_wp2
 have z0:=cp.ca
 refine XY (v:= .tuple #[.agg #[ck dQ e0,cf dY e1,dX,dW,dU,ct cq e2,cu cw e3,cl dR e4,cV,cW,cU],kO]) Zv rfl ?_
 exact⟨⟨dQ,dY,dX,dW,dU,cq,cw,dR,ck,e0,cf,e1,ct,e2,cu,e3,cl,e4,_,rfl,I (oJ.o.trans fl.o),hg⟩,fg⟩):v:=h
theorem amo (h:v:=by
 have dB:=fk.o.ad mv fk.o.lt;have dO:=I dB;have af:=dB.ca;have eO:=dB.hk;have jq:=dB.lt;clear dB
 go_wp2
 clear af eO jq bE g0
 refine hD 0 λcP aE=>?_
 have cp:=aE.jo dO.o;have hg:=(jC.o).hb dO.o aE.eC;have fg:=aE.aN iL;clear aE
 have z0:=cp.ca
 refine XY (v:= .tuple #[.agg #[aq rs c0,au qs aw,tu,se,sp,ak ws c2,al ae c3,aF os c4,cV,cW,cU],.string (⟨#[63]⟩ :VU)]) Zv rfl ?_
 exact⟨⟨rs,qs,tu,se,sp,ws,ae,os,aq,c0,au,aw,ak,c2,al,c3,aF,c4,_,rfl,I (oJ.o),hg⟩,fg⟩):v:=h
theorem awz (h:hL KL) (l:VU) (aT:l.size<=1000) {w:World} (qH:B<=w.heap.size) (aV:fu B w aq c0 au aw ak c2 al c3 aF c4 rs qs ws ae os):
 Rd 61 #[.agg #[aq rs c0,au qs aw,tu,se,sp,ak ws c2,al ae c3,aF os c4,cV,cW,cU],l] w λe ah=>IP B cV cW cU (lI KL (hj 32 l)) e ah/\Below w w ah:=by
 have IF:=I (λW=>XO l 32 KK W);have yH:=I (show∀x ∈ hj 32 l,x.size<=1048576 from λx av=>by have:=HU av;omega);have rm:=I (OT 32 l);have Iz:=I (show∀a,hj 32 l= [a]->a= l from λa h=>aBi h);have aEz:=aIH 32 l
 generalize hj 32 l= vs at *
 replace h:=I h;replace aV:=I aV
 go_in
 go_upto_region 1 with fail
 refine fU λaO ar aR J=>?_
 have U:=ar
 obtain⟨cA,x1,cB,cY,cZ,dG,dH,dA,gV,gW,gU⟩:=aR.ca
 obtain⟨z0,bF,z2,z3,z4,z5,ek,ig,iE,z9,iD⟩:=J.ca;have fk:=I J;have gI:=I aR;have sS:=aR.lt
 have vJ:=J.lt;have jT:=I (aV.o.aK U);clear z0 bF z2 z3 z4 z5 ek ig iE z9 iD J aR aV cA x1 cB cY cZ dG dH dA gV gW gU sS
 go_wp2_with fail
 refine (IF.o _).mono ?_
 rintro e aI ⟨A,n,rfl,rQ,mv⟩
 have iL:=ai U mv
 have AP:B<=aI.heap.size:=by have:=iL.size;omega
 have jC:=I (jT.o.aK mv);have AE:=I (gI.o.ad mv gI.o.lt);have PT:=I (fk.o.ad mv fk.o.lt);have bE:=AE.o.ca;have zL:=AE.o.lt;have zx:0 < vs.length:=List.length_pos_iff.2 rm.o;have sK:=nW rQ jP
 obtain⟨nN,Bq,a,rfl,oP,de,uE⟩:=(rQ.ej (hf:=jP)).at_ (Wt _ _) (k:=0) zx
 have g0:=uE 0 _ rfl (aD.self _)
 simp only [Xy,XW,aD.self] at g0
 have vj:=I (show nN≠w.heap.size + 1 by have:=(rQ.lt nN (ahx rQ zx)).1;omega);have iF:=I (rQ.ej (hf:=jP));have fP:=IZ a
 obtain⟨-,-,-,-,-,-,-,-,-,-,-,-,-,f13,f14⟩:=fP
 clear uE rQ vJ
 go_upto_region 2 with fail
 rcases five rm.o with ⟨a',e⟩ | ⟨a',b,e⟩ | ⟨a',b,c,e⟩ | ⟨a',b,c,d,e⟩ | ⟨a',r,e,bu⟩
 .skip
  obtain rfl:a= a':=by rw [e] at de;exact (Wx de).symm
  have oJ:=I (show lI ⟨rs,qs,tu,se,sp,ws,ae,os⟩ vs= yt ⟨rs,qs,tu,se,sp,ws,ae,os⟩ (fA a) by rw [e];exact aqC _ _)
  have hlen:vs.length= 1:=by rw [e];rfl
  obtain rfl:a= l:=Iz.o a e
  clear rm Iz yH IF e de zx
  rw [hlen]
  rw [hlen] at sK
  clear f13 f14 sK
  go_wp2_with fail
  refine (awB h.o AP jC.o).mono ?_
  rintro e cO ⟨⟨dQ,dY,dX,dW,dU,cq,cw,dR,ck,e0,cf,e1,ct,e2,cu,e3,cl,e4,kO,rfl,fl,gN⟩,eM⟩
  have vk:=I gN;clear gN;have nh:=ai mv eM;have om:=ai iL eM;have dB:=fk.o.ad nh fk.o.lt;have dO:=I dB;have af:=dB.ca;have eO:=dB.hk;have jq:=dB.lt;clear dB
  go_wp2
  clear af eO jq bE g0
  refine hD 0 λcP aE=>?_
  have cp:=aE.jo dO.o;have hg:=(vk.o).hb dO.o aE.eC;have fg:=aE.aN om;clear aE
  exact amD
 .skip
  obtain rfl:a= a':=by rw [e] at de;exact (Wx de).symm
  have oJ:=I (show lI ⟨rs,qs,tu,se,sp,ws,ae,os⟩ vs= if gf b then xg ⟨rs,qs,tu,se,sp,ws,ae,os⟩ (fA a) (jh b.data.toList) else (⟨rs,qs,tu,se,sp,ws,ae,os⟩,(⟨#[63]⟩ :VU)) by rw [e];exact aqD _ _ _)
  have hlen:vs.length= 2:=by rw [e];rfl
  have CF:=yH.o b ZZ
  obtain⟨dc,hx,a1,e1,-,Gz,hX⟩:=iF.o.at_ (Wt _ _) (k:=1) (by rw [hlen];decide)
  cases e1
  obtain rfl:b= a1:=by rw [e] at Gz;exact Wx Gz
  have g1:=hX 0 _ rfl (aD.self _)
  simp only [Xw,XW,aD.self] at g1
  clear hX Gz;clear rm Iz yH IF e de zx
  rw [hlen]
  rw [hlen] at sK
  obtain⟨v,jS,uK,EN,Hj⟩:=OG b
  have LA:=I (λW=>OQ b CF v jS EN W)
  rw [uK] at oJ
  generalize (fA a == 13)= HJ at *
  go_upto_region 4 with fail
  go_cut [20] (λv W=>v= .bool false/\aI= W)
  case first=>
   cases HJ
   all_goals
    go_wp2
    go_meet
    exact⟨rfl,rfl⟩
  case' rest=>
   obtain⟨rfl,zJ⟩:=hcut
   subst zJ
  generalize (fA a == 14)= xj at *
  go_upto_region 6 with fail
  go_cut [40] (λv W=>v= .bool false/\aI= W)
  case first=>
   cases xj
   all_goals
    go_wp2
    go_meet
    exact⟨rfl,rfl⟩
  case' rest=>
   obtain⟨rfl,zJ⟩:=hcut
   subst zJ
  go_wp2_with fail
  refine (LA.o _).mono ?_
  rintro e bw ⟨rfl,bG⟩
  have iw:=ai iL bG;have hA:=ai mv bG;have jD:=I (jC.o.aK bG);have LM:=I (AE.o.ad bG AE.o.lt);have aoN:=I (PT.o.ad bG PT.o.lt);have h0:=(bG.cell (p:=⟨nN,_,none⟩) oP).trans g0;clear g1;replace bE:=LM.o.ca;replace zL:=LM.o.lt;replace g0:=h0;replace oP:nN < bw.heap.size:=YW oP bG.size;clear h0
  cases jS
  .skip
   have dB:=fk.o.ad hA fk.o.lt;have dO:=I dB;have af:=dB.ca;have eO:=dB.hk;have jq:=dB.lt;clear dB
   go_wp2
   clear af eO jq bE g0
   refine hD 0 λcP aE=>?_
   have cp:=aE.jo dO.o;have hg:=(jD.o).hb dO.o aE.eC;have fg:=aE.aN iw
   exact amC
  .obtain rfl:=Hj rfl
   go_upto_region 13 with fail
   obtain⟨dx,et⟩ :∃X:World->Prop,∀V,X V↔V.cell? ⟨nN,Bq,none⟩ =some (.string a)/\ay V w 46 #[aq rs c0,au qs aw,tu,se,sp,ak ws c2,al ae c3,aF os c4,cV,cW,cU]:=⟨_,λ_=>Xt⟩
   have cH:=I et;clear et;have kh:=(cH.o bw).2 ⟨g0,LM.o⟩
   haveI:Nonempty (cM dx):=⟨⟨bw,kh⟩⟩
   refine nZ dx [([0,1,2,3,4],5),([6,7],8)] [9] PV PV ((cH.o _).2 ⟨g0,LM.o⟩) ?_
   clear bE zL
   obtain⟨cA,x1,cB,cY,cZ,dG,dH,dA,gV,gW,gU⟩:=ay.pS (λK:cM dx=>((cH.o _).1 K.holds).2)
   have u0:=λK:cM dx=>((cH.o _).1 K.holds).1
   have fO:Below w w bw.drew:=ai iw (Wt _ _).drew;have TB:=(Wt bw bw).drew;have ev:bw.drew.cell? ⟨nN,Bq,none⟩ =some (.string a):=g0;clear g0;have Ez:=LM.o;have qJ:ay bw.drew w 46 #[aq rs c0,au qs aw,tu,se,sp,ak ws c2,al ae c3,aF os c4,cV,cW,cU]:=Ez
   have EA:=aoN.o;have lG:Hid (ay bw.drew (w.heap.size + 1) 46 #[(),(),(0:Int),(0:Int),(0:Int),(),(),(),.string ⟨#[]⟩,.string ⟨#[]⟩,(0:Int)]):=I EA;have kf:=I (jD.o.aK (Wt _ _).drew);have NL:nN < bw.drew.heap.size:=oP;clear Ez EA oP kh
   generalize bw.drew= wd at *
   refine gA λff da=>?_
   refine Yp ?_
   repeat go_big_quiet_step (fail)
   refine VF ?_
   refine XV ?_
   go_wp2_with fail
   refine (awy B aq au ak al aF c0 aw c2 c3 c4 rs qs tu se sp ws ae os cV cW cU h.o a _ _ (by have:=fO.size;omega) kf.o).mono ?_
   exact anB
 .skip
  obtain rfl:a= a':=by rw [e] at de;exact (Wx de).symm
  have oJ:=I (show lI ⟨rs,qs,tu,se,sp,ws,ae,os⟩ vs= if (fA a == 13) then JY ⟨rs,qs,tu,se,sp,ws,ae,os⟩ b c else (⟨rs,qs,tu,se,sp,ws,ae,os⟩,(⟨#[63]⟩ :VU)) by rw [e,aqE];simp only [Xx])
  have hlen:vs.length= 3:=by rw [e];rfl
  have CF:=yH.o b ZZ;have tD:=yH.o c ZZ
  obtain⟨dc,hx,a1,e1,-,Gz,hX⟩:=iF.o.at_ (Wt _ _) (k:=1) (by rw [hlen];decide)
  cases e1
  obtain rfl:b= a1:=by rw [e] at Gz;exact Wx Gz
  have g1:=hX 0 _ rfl (aD.self _)
  simp only [Xw,XW,aD.self] at g1
  clear hX Gz
  obtain⟨dr,fc,a2,e2,-,AV,kI⟩:=iF.o.at_ (Wt _ _) (k:=2) (by rw [hlen];decide)
  cases e2
  obtain rfl:c= a2:=by rw [e] at AV;exact Wx AV
  have g2:=kI 0 _ rfl (aD.self _)
  simp only [Xw,XW,aD.self] at g2
  clear kI AV;clear rm Iz yH IF e de zx
  rw [hlen]
  rw [hlen] at sK
  generalize (fA a == 13)= HJ at *
  go_upto_region 4 with fail
  cases HJ
  .skip
   generalize (fA a == 14)= xj at *
   go_upto_region 6 with fail
   go_cut [40] (λv W=>v= .bool false/\aI= W)
   case first=>
    cases xj
    all_goals
     go_wp2
     go_meet
     exact⟨rfl,rfl⟩
   case' rest=>
    obtain⟨rfl,zJ⟩:=hcut
    subst zJ
   have dB:=fk.o.ad mv fk.o.lt;have dO:=I dB;have af:=dB.ca;have eO:=dB.hk;have jq:=dB.lt;clear dB
   go_wp2
   clear af eO jq bE g0 g1 g2
   refine hD 0 λcP aE=>?_
   have cp:=aE.jo dO.o;have hg:=(jC.o).hb dO.o aE.eC;have fg:=aE.aN iL
   exact amC
  .go_upto_region 5 with fail
   clear g0
   obtain⟨dx,et⟩ :∃X:World->Prop,∀V,X V↔V.cell? ⟨nN,Bq + 1,none⟩ =some (.string b)/\V.cell? ⟨nN,Bq + 2,none⟩ =some (.string c)/\ay V w 46 #[aq rs c0,au qs aw,tu,se,sp,ak ws c2,al ae c3,aF os c4,cV,cW,cU]:=⟨_,λ_=>Xt⟩
   have cH:=I et;clear et;have kh:=(cH.o aI).2 ⟨g1,g2,AE.o⟩
   haveI:Nonempty (cM dx):=⟨⟨aI,kh⟩⟩
   refine nZ dx [([0,1,2,3,4,5,6],7),([8,9],10)] [11] PV PV ((cH.o _).2 ⟨g1,g2,AE.o⟩) ?_
   clear bE zL
   obtain⟨cA,x1,cB,cY,cZ,dG,dH,dA,gV,gW,gU⟩:=ay.pS (λK:cM dx=>((cH.o _).1 K.holds).2.2)
   have u0:=λK:cM dx=>((cH.o _).1 K.holds).1
   have u1:=λK:cM dx=>((cH.o _).1 K.holds).2.1
   have fO:Below w w aI.drew:=ai iL (Wt _ _).drew;have TB:=(Wt aI aI).drew;have ev:aI.drew.cell? ⟨nN,Bq + 1,none⟩ =some (.string b):=g1;have eU:aI.drew.cell? ⟨nN,Bq + 2,none⟩ =some (.string c):=g2;clear g1 g2;have Ez:=AE.o;have qJ:ay aI.drew w 46 #[aq rs c0,au qs aw,tu,se,sp,ak ws c2,al ae c3,aF os c4,cV,cW,cU]:=Ez
   have EA:=PT.o;have lG:Hid (ay aI.drew (w.heap.size + 1) 46 #[(),(),(0:Int),(0:Int),(0:Int),(),(),(),.string ⟨#[]⟩,.string ⟨#[]⟩,(0:Int)]):=I EA;have kf:=I (jC.o.aK (Wt _ _).drew);have NL:nN < aI.drew.heap.size:=oP;clear Ez EA oP kh
   generalize aI.drew= wd at *
   refine gA λff da=>?_
   refine Zf ?_
   repeat go_big_quiet_step (fail)
   refine VF ?_
   refine XV ?_
   go_wp2_with fail
   refine (awx B aq au ak al aF c0 aw c2 c3 c4 rs qs tu se sp ws ae os cV cW cU h.o b c tD _ (by have:=fO.size;omega) kf.o).mono ?_
   rintro e cO ⟨⟨dQ,dY,dX,dW,dU,cq,cw,dR,ck,e0,cf,e1,ct,e2,cu,e3,cl,e4,kO,rfl,fl,gN⟩,eM⟩
   have vk:=I gN;clear gN;have om:=ai fO eM;have nh:=qJ.to eM;have gC:=(eM.cell (p:=⟨nN,_,none⟩) NL).trans ev;have gp:=(eM.cell (p:=⟨nN,_,none⟩) NL).trans eU
   go_wp2
   refine gb ((cH.o _).2 ⟨gC,gp,nh⟩) (da _ _ ?_)
   refine gA λff da=>?_
   refine YB ?_
   repeat go_big_quiet_step (fail)
   refine VF ?_
   refine XV ?_
   have dO:=I (lG.o.ad eM lG.o.lt);have af:=dO.o.ca;have eO:=dO.o.hk;have jq:=dO.o.lt
   go_wp2
   clear af eO jq
   refine hD 0 λcP aE=>?_
   have eT:=aE.dj nh;have cp:=aE.jo dO.o;have hg:=vk.o.hb dO.o aE.eC;have fg:=aE.aN om;have Dc:=aE.eC.cell gC (by simpa using vj.o)
   have awi:=aE.eC.cell gp (by simpa using vj.o);clear aE
   refine gb ((cH.o _).2 ⟨Dc,awi,eT⟩) (da _ _ ?_)
   refine ky ?_
   refine Xp ?_
   repeat go_big_quiet_step (fail)
   refine VF ?_
   clear cA x1 cB cY cZ dG dH dA gV gW gU u0 u1
   go_wp2
   exact amD
 .skip
  obtain rfl:a= a':=by rw [e] at de;exact (Wx de).symm
  have oJ:=I (show lI ⟨rs,qs,tu,se,sp,ws,ae,os⟩ vs= if (fA a == 14) then HY ⟨rs,qs,tu,se,sp,ws,ae,os⟩ b c d else (⟨rs,qs,tu,se,sp,ws,ae,os⟩,(⟨#[63]⟩ :VU)) by rw [e,aqF];simp only [Xx])
  have hlen:vs.length= 4:=by rw [e];rfl
  have CF:=yH.o b ZZ;have tD:=yH.o c ZZ;have wR:=yH.o d ZZ;have UG:=iF.o
  rw [e] at UG
  have aoT:=I (Ki UG 1);clear UG;clear rm Iz yH IF e de zx
  rw [hlen]
  rw [hlen] at sK
  generalize (fA a == 14)= xj at *
  generalize (fA a == 13)= HJ at *
  go_upto_region 4 with fail
  go_cut [20] (λv W=>v= .bool false/\aI= W)
  case first=>
   cases HJ
   all_goals
    go_wp2
    go_meet
    exact⟨rfl,rfl⟩
  case' rest=>
   obtain⟨rfl,zJ⟩:=hcut
   subst zJ
  go_upto_region 6 with fail
  cases xj
  .skip
   exact amo
  .go_upto_region 7 with fail
   obtain⟨dx,et⟩ :∃X:World->Prop,∀V,X V↔V.cell? ⟨nN,Bq,none⟩ =some (.string a)/\ay V w 46 #[aq rs c0,au qs aw,tu,se,sp,ak ws c2,al ae c3,aF os c4,cV,cW,cU]:=⟨_,λ_=>Xt⟩
   have cH:=I et;clear et;have kh:=(cH.o aI).2 ⟨g0,AE.o⟩
   haveI:Nonempty (cM dx):=⟨⟨aI,kh⟩⟩
   refine nZ dx [([0,1,2],3),([4,5],6)] [7] PV PV ((cH.o _).2 ⟨g0,AE.o⟩) ?_
   clear bE zL
   obtain⟨cA,x1,cB,cY,cZ,dG,dH,dA,gV,gW,gU⟩:=ay.pS (λK:cM dx=>((cH.o _).1 K.holds).2)
   have u0:=λK:cM dx=>((cH.o _).1 K.holds).1
   have fO:Below w w aI.drew:=ai iL (Wt _ _).drew;have TB:=(Wt aI aI).drew;have ev:aI.drew.cell? ⟨nN,Bq,none⟩ =some (.string a):=g0;clear g0;have Ez:=AE.o;have qJ:ay aI.drew w 46 #[aq rs c0,au qs aw,tu,se,sp,ak ws c2,al ae c3,aF os c4,cV,cW,cU]:=Ez
   have EA:=PT.o;have lG:Hid (ay aI.drew (w.heap.size + 1) 46 #[(),(),(0:Int),(0:Int),(0:Int),(),(),(),.string ⟨#[]⟩,.string ⟨#[]⟩,(0:Int)]):=I EA;have kf:=I (jC.o.aK (Wt _ _).drew);have NL:nN < aI.drew.heap.size:=oP;clear Ez EA oP kh
   generalize aI.drew= wd at *
   refine gA λff da=>?_
   refine YI ?_
   repeat go_big_quiet_step (fail)
   refine VF ?_
   refine XV ?_
   go_wp2_with fail
   refine (awA h.o CF tD wR (by have:=fO.size;omega) kf.o (aoT.o.ad (show Below aI aI wd from TB))).mono ?_
   exact anB
 .skip
  obtain rfl:a= a':=by rw [e] at de;exact (Wx de).symm
  have oJ:=I (show lI ⟨rs,qs,tu,se,sp,ws,ae,os⟩ vs= (⟨rs,qs,tu,se,sp,ws,ae,os⟩,(⟨#[63]⟩ :VU)) by rw [e];exact aqG _ _ _ bu)
  have hlen:vs.length= r.length + 1:=by rw [e];rfl
  clear rm Iz yH IF e de zx
  obtain⟨Ka,atG⟩ :∃k,vs.length= k:=⟨_,rfl⟩
  rw [atG]
  have h1:((Ka:Int) == 1)= false:=by rw [Xb];omega
  have h2:((Ka:Int) == 3)= false:=by rw [Xb];omega
  have h3:((Ka:Int) == 4)= false:=by rw [Xb];omega
  have h4:((Ka:Int) != 2)= true:=by rw [bne_iff_ne];omega
  generalize (fA a == 13)= HJ at *
  go_upto_region 4 with fail
  go_cut [20] (λv W=>v= .bool false/\aI= W)
  case first=>
   cases HJ
   all_goals
    go_wp2
    go_meet
    exact⟨rfl,rfl⟩
  case' rest=>
   obtain⟨rfl,zJ⟩:=hcut
   subst zJ
  generalize (fA a == 14)= xj at *
  go_upto_region 6 with fail
  go_cut [40] (λv W=>v= .bool false/\aI= W)
  case first=>
   cases xj
   all_goals
    go_wp2
    go_meet
    exact⟨rfl,rfl⟩
  case' rest=>
   obtain⟨rfl,zJ⟩:=hcut
   subst zJ
  exact amo
theorem azH (Z:KL) (cF:cV.size + cW.size<=1048576) {l:VU} (aT:l.size<=1048576) {w:World} (R:eF w aq au ak al aF rs qs ws ae os):
 Rd 19 #[.agg #[aq rs c0,au qs aw,tu,se,sp,ak ws c2,al ae c3,aF os c4,cV,cW,cU],l] w λe ah=>∃(dQ:List aM) (dY:List aZ) (dX dW dU:Int) (cq:List Int) (cw:List aW) (dR:List Out) (um uS:VU) (uj:Int) (ck:QR) (e0:Nat) (cf:QR) (e1:Nat) (ct:QR) (e2:Nat) (cu:QR) (e3:Nat) (cl:QR) (e4:Nat) (y:VU),e= .returned (.tuple #[.agg #[ck dQ e0,cf dY e1,dX,dW,dU,ct cq e2,cu cw e3,cl dR e4,um,uS,uj],y])/\Hid ((lX (⟨rs,qs,tu,se,sp,ws,ae,os,cV,cW,cU⟩ :dE) l,qD (⟨rs,qs,tu,se,sp,ws,ae,os,cV,cW,cU⟩ :dE) l)= ((⟨dQ,dY,dX,dW,dU,cq,cw,dR,um,uS,uj⟩ :dE),y))/\fu w ah ck e0 cf e1 ct e2 cu e3 cl e4 dQ dY cq cw dR/\Below w w ah:=by
 replace Z:=I Z
 cases aN:gJ (⟨rs,qs,tu,se,sp,ws,ae,os,cV,cW,cU⟩ :dE)
 .have cI:=I aN
  have fP:=I (Qu (l:=l) aN);clear aN
  go_in
  go_upto_region 1 with fail
  refine fU λaO ar aR J=>?_
  replace R:=R.ad ar;have U:=ar
  have cA:=aR.ca
  obtain⟨z0,bF,z2,z3,z4,z5,ek,ig,iE,z9,iD⟩:=J.ca;have ih:=I aR;have fk:=I J;have gu:=I R
  have uJ:=U.size;clear z0 bF z2 z3 z4 z5 ek ig iE z9 iD aR J R
  go_wp2_with fail
  refine (Ow Z.o gu.o).mono ?_
  rintro e aI ⟨bN,d0,bZ,d1,aU,d2,bd,d3,bI,d4,rfl,hM,mv⟩
  have kB:=I (hM.base (B':=w) uJ);clear hM cA
  go_upto_region 2 with fail
  obtain⟨yb,ni⟩ :∃b,b= aI.heap.size:=⟨_,rfl⟩
  refine Xi λbw uD uz=>?_;rw [<- ni] at uz
  rw [<- ni]
  clear ni;have hA:=ai mv uD;have Gx:=ai U hA;have jD:=I (kB.o.aK uD);have wk:=I uz;have kY:=I (gu.o.ad hA);have bE:=(ih.o.ad hA ih.o.lt).ca;clear uz uD mv
  go_wp2_with fail
  refine (Bm (⟨rs,qs,tu,se,sp,ws,ae,os,cV,cW,cU⟩ :dE) Z.o.h0 Z.o.h1 Z.o.h2 Z.o.h3 Z.o.h4 cF _ cI.o kY.o.fC kY.o.dM kY.o.r2 kY.o.gS kY.o.ll Z.o.ev Z.o.eU Z.o.cL Z.o.dS Z.o.hl).mono ?_
  rintro e bH ⟨rfl,db⟩
  have kR:=ai hA db;have zf:=ai Gx db;have kX:=I (jD.o.aK db);have Ar:=I (wk.o.ad db wk.o.lt);clear bE;have oC:=Ar.o.ca;have cp:=fk.o.ad kR fk.o.lt;have af:=cp.ca;have eO:=cp.hk;have js:=I cp;clear cp
  go_wp2
  clear af eO oC
  refine hD 0 λcP aE=>?_
  have cp:=aE.jo js.o;have hg:=kX.o.hb js.o aE.eC;have fg:=aE.aN zf;clear aE
  have z0:=cp.ca
  refine XY (v:= .tuple #[.agg #[bN rs d0,bZ qs d1,tu,se,sp,aU ws d2,bd ae d3,bI os d4,cV,cW,cU],.string (⟨#[110,111]⟩ :VU)]) Zw rfl ?_
  exact KP
 .have cI:=I aN
  obtain⟨tO,hQ⟩ :∃b,mF l ⟨#[]⟩ =b:=⟨_,rfl⟩
  have uc:=I hQ
  cases tO
  .have fP:=I (Qs aN hQ)
   clear aN hQ
   go_in
   go_upto_region 1 with fail
   refine fU λaO ar aR J=>?_
   replace R:=R.ad ar;have U:=ar
   have cA:=aR.ca
   obtain⟨z0,bF,z2,z3,z4,z5,ek,ig,iE,z9,iD⟩:=J.ca;have ih:=I aR;have fk:=I J;have gu:=I R
   have uJ:=U.size;clear z0 bF z2 z3 z4 z5 ek ig iE z9 iD aR J R
   go_wp2_with fail
   refine (Ow Z.o gu.o).mono ?_
   rintro e aI ⟨bN,d0,bZ,d1,aU,d2,bd,d3,bI,d4,rfl,hM,mv⟩
   have kB:=I (hM.base (B':=w) uJ);clear hM cA
   go_upto_region 2 with fail
   obtain⟨yb,ni⟩ :∃b,b= aI.heap.size:=⟨_,rfl⟩
   refine Xi λbw uD uz=>?_;rw [<- ni] at uz
   rw [<- ni]
   clear ni;have hA:=ai mv uD;have Gx:=ai U hA;have jD:=I (kB.o.aK uD);have wk:=I uz;have kY:=I (gu.o.ad hA);have bE:=(ih.o.ad hA ih.o.lt).ca;clear uz uD mv
   go_wp2_with fail
   refine (Bm (⟨rs,qs,tu,se,sp,ws,ae,os,cV,cW,cU⟩ :dE) Z.o.h0 Z.o.h1 Z.o.h2 Z.o.h3 Z.o.h4 cF _ cI.o kY.o.fC kY.o.dM kY.o.r2 kY.o.gS kY.o.ll Z.o.ev Z.o.eU Z.o.cL Z.o.dS Z.o.hl).mono ?_
   rintro e bH ⟨rfl,db⟩
   have kR:=ai hA db;have zf:=ai Gx db;have kX:=I (jD.o.aK db);have Ar:=I (wk.o.ad db wk.o.lt);clear bE
   go_wp2_with fail
   refine (Hr l ⟨#[]⟩ aT (Xd _) _ uc.o bH).mono ?_
   rintro e cO ⟨rfl,eM⟩
   have nh:=ai kR eM;have Jo:=ai zf eM;have lD:=I (kX.o.aK eM);have FV:=I (Ar.o.ad eM Ar.o.lt);have oC:=FV.o.ca;have cp:=fk.o.ad nh fk.o.lt;have af:=cp.ca;have eO:=cp.hk;have js:=I cp;clear cp
   go_wp2
   clear af eO oC
   refine hD 0 λcP aE=>?_
   have cp:=aE.jo js.o;have hg:=lD.o.hb js.o aE.eC;have fg:=aE.aN Jo;clear aE
   have z0:=cp.ca
   refine XY (v:= .tuple #[.agg #[bN rs d0,bZ qs d1,tu,se,sp,aU ws d2,bd ae d3,bI os d4,cV,cW,cU],.string (⟨#[98,97,100]⟩ :VU)]) Zw rfl ?_
   exact KP
  .obtain⟨oN,wS⟩ :∃b,(cU == 60)= b:=⟨_,rfl⟩
   cases oN
   rotate_left
   .have fP:=I (Qt aN hQ wS)
    clear aN hQ
    go_in
    go_upto_region 1 with fail
    refine fU λaO ar aR J=>?_
    replace R:=R.ad ar;have U:=ar
    have cA:=aR.ca
    obtain⟨z0,bF,z2,z3,z4,z5,ek,ig,iE,z9,iD⟩:=J.ca;have ih:=I aR;have fk:=I J;have gu:=I R
    have uJ:=U.size;clear z0 bF z2 z3 z4 z5 ek ig iE z9 iD aR J R
    go_wp2_with fail
    refine (Ow Z.o gu.o).mono ?_
    rintro e aI ⟨bN,d0,bZ,d1,aU,d2,bd,d3,bI,d4,rfl,hM,mv⟩
    have kB:=I (hM.base (B':=w) uJ);clear hM cA
    go_upto_region 2 with fail
    obtain⟨yb,ni⟩ :∃b,b= aI.heap.size:=⟨_,rfl⟩
    refine Xi λbw uD uz=>?_;rw [<- ni] at uz
    rw [<- ni]
    clear ni;have hA:=ai mv uD;have Gx:=ai U hA;have jD:=I (kB.o.aK uD);have wk:=I uz;have kY:=I (gu.o.ad hA);have bE:=(ih.o.ad hA ih.o.lt).ca;clear uz uD mv
    go_wp2_with fail
    refine (Bm (⟨rs,qs,tu,se,sp,ws,ae,os,cV,cW,cU⟩ :dE) Z.o.h0 Z.o.h1 Z.o.h2 Z.o.h3 Z.o.h4 cF _ cI.o kY.o.fC kY.o.dM kY.o.r2 kY.o.gS kY.o.ll Z.o.ev Z.o.eU Z.o.cL Z.o.dS Z.o.hl).mono ?_
    rintro e bH ⟨rfl,db⟩
    have kR:=ai hA db;have zf:=ai Gx db;have kX:=I (jD.o.aK db);have Ar:=I (wk.o.ad db wk.o.lt);clear bE
    go_wp2_with fail
    refine (Hr l ⟨#[]⟩ aT (Xd _) _ uc.o bH).mono ?_
    rintro e cO ⟨rfl,eM⟩
    have nh:=ai kR eM;have Jo:=ai zf eM;have lD:=I (kX.o.aK eM);have FV:=I (Ar.o.ad eM Ar.o.lt);have bE:=(ih.o.ad nh ih.o.lt).ca;have oC:=FV.o.ca;have cp:=fk.o.ad nh fk.o.lt;have af:=cp.ca;have eO:=cp.hk;have js:=I cp;clear cp
    go_wp2
    clear af eO oC bE
    refine hD 0 λcP aE=>?_
    have cp:=aE.jo js.o;have hg:=lD.o.hb js.o aE.eC;have fg:=aE.aN Jo;clear aE
    have z0:=cp.ca
    refine XY (v:= .tuple #[.agg #[bN rs d0,bZ qs d1,tu,se,sp,aU ws d2,bd ae d3,bI os d4,cV,cW,cU],.string (⟨#[102,117,108,108]⟩ :VU)]) Zw rfl ?_
    exact KP
   .have fP:=I (Qv aN hQ wS)
    have aeW:=(aih hQ).2;have lE:Hid (hL ⟨rs,qs,tu,se,sp,ws,ae,os⟩):=I (Gl aN);have TL:=I (show (⟨cV,cW,cU⟩ :ft).bY.size + (⟨cV,cW,cU⟩ :ft).bW.size<=1048576 from cF);clear aN hQ
    go_in
    go_upto_region 1 with fail
    refine fU λaO ar aR J=>?_
    replace R:=R.ad ar;have U:=ar
    have cA:=aR.ca
    obtain⟨z0,bF,z2,z3,z4,z5,ek,ig,iE,z9,iD⟩:=J.ca;have ih:=I aR;have fk:=I J;have gu:=I R
    have uJ:=U.size;clear z0 bF z2 z3 z4 z5 ek ig iE z9 iD aR J R
    go_wp2_with fail
    refine (Ow Z.o gu.o).mono ?_
    rintro e aI ⟨bN,d0,bZ,d1,aU,d2,bd,d3,bI,d4,rfl,hM,mv⟩
    have kB:=I (hM.base (B':=w) uJ);clear hM cA;have pY:=mv.size
    go_upto_region 2 with fail
    obtain⟨yb,ni⟩ :∃b,b= aI.heap.size:=⟨_,rfl⟩
    refine Xi λbw uD uz=>?_;rw [<- ni] at uz
    rw [<- ni]
    have aEn:aO.heap.size<=yb:=KK
    clear ni pY;have hA:=ai mv uD;have Gx:=ai U hA;have jD:=I (kB.o.aK uD);have wk:=I uz;have kY:=I (gu.o.ad hA);have bE:=(ih.o.ad hA ih.o.lt).ca;clear uz uD mv
    go_wp2_with fail
    refine (Bm (⟨rs,qs,tu,se,sp,ws,ae,os,cV,cW,cU⟩ :dE) Z.o.h0 Z.o.h1 Z.o.h2 Z.o.h3 Z.o.h4 cF _ cI.o kY.o.fC kY.o.dM kY.o.r2 kY.o.gS kY.o.ll Z.o.ev Z.o.eU Z.o.cL Z.o.dS Z.o.hl).mono ?_
    rintro e bH ⟨rfl,db⟩
    have kR:=ai hA db;have zf:=ai Gx db;have kX:=I (jD.o.aK db);have Ar:=I (wk.o.ad db wk.o.lt);clear bE
    go_wp2_with fail
    refine (Hr l ⟨#[]⟩ aT (Xd _) _ uc.o bH).mono ?_
    rintro e cO ⟨rfl,eM⟩
    have nh:=ai kR eM;have Jo:=ai zf eM;have lD:=I (kX.o.aK eM);have FV:=I (Ar.o.ad eM Ar.o.lt);have bE:=(ih.o.ad nh ih.o.lt).ca
    go_upto_region 8 with fail
    clear bE;have oC:=FV.o.ca;have atX:=Jo.size
    go_wp2_with fail
    refine (awz lE.o l KK atX lD.o).mono ?_
    rintro e dk ⟨⟨dQ,dY,dX,dW,dU,cq,cw,dR,ck,e0,cf,e1,ct,e2,cu,e3,cl,e4,y,rfl,oJ,gN⟩,iH⟩
    replace gN:=I gN;clear oC;have xM:=ai nh iH;have MT:=ai Jo iH;have aaY:=I (FV.o.ad iH FV.o.lt);have Ll:Hid (hL ⟨dQ,dY,dX,dW,dU,cq,cw,dR⟩):=I (by have:=ado (ws:=hj 32 l) lE.o;rw [oJ.o] at this;exact this);have Ao:Hid (rE ⟨rs,qs,tu,se,sp,ws,ae,os⟩ l= (⟨dQ,dY,dX,dW,dU,cq,cw,dR⟩,y)):=I oJ.o
    clear oJ
    go_upto_region 9 with fail
    obtain⟨bK,lh⟩ :∃b,b= dk.heap.size:=⟨_,rfl⟩
    refine Xi λfS Nj VW=>?_;rw [<- lh] at VW
    rw [<- lh]
    clear lh;have Wj:=ai xM Nj;have ael:=ai MT Nj;have aba:=I (gN.o.aK Nj);have aaZ:=I (aaY.o.ad Nj aaY.o.lt);have hn:=VW.ca;have EO:=ael.size
    go_wp2_with fail
    refine (Ow (Og aba.o Ll.o) aba.o.rd).mono ?_
    rintro e du ⟨lA,f0,lR,f1,lS,f2,lT,f3,lU,f4,rfl,OF,pU⟩
    have Ix:=I (OF.base (B':=w) EO);clear OF hn;have zg:=ai Wj pU;have QS:=ai ael pU;have PA:=I (aaZ.o.ad pU aaZ.o.lt);have oC:=PA.o.ca;have Mz:=PA.o.hk
    go_upto_region 10 with fail
    clear oC Mz VW Nj
    refine hD 0 λCh jA=>?_
    have vt:=jA.jo PA.o;have eT:=jA.aN zg;have Jp:=jA.aN QS;have aow:=I (Ix.o.hb PA.o jA.eC);replace vt:=I vt;clear jA
    go_upto_if 38 with fail
    go_cut [8] (λKE W=>∃hU,KE= .string hU/\Hid (qb y= hU)/\Ch= W)
    case first=>
     exact akL
    case rest=>
     obtain⟨hU,rfl,DS,hw⟩:=hcut
     subst hw
     have rD:hU.size<=1048576:=by
      rw [<- DS.o]
      unfold qb
      split
      .decide
      .omega
     have oc:=λW=>SJ ⟨cV,cW,cU⟩ TL.o ⟨l,hU⟩ aT rD W
     obtain⟨g,cy⟩ :∃g,eK ⟨cV,cW,cU⟩ ⟨l,hU⟩ =g:=⟨_,rfl⟩
     rw [cy] at oc
     replace cy:=I cy
     obtain⟨um,uS,uj⟩:=g
     replace oc:=I oc
     simp only at oc
     have bE:=(ih.o.ad eT ih.o.lt).ca
     go_wp2_with fail
     refine (oc.o Ch).mono ?_
     rintro e pH ⟨rfl,uC⟩
     have jQ:=vt.o.ad uC vt.o.lt;have IA:=I jQ;have oC:=jQ.ca;have Mz:=jQ.hk;clear bE jQ
     go_upto_region 13 with fail
     clear oC Mz
     refine ra 8 λEd jL=>?_
     have pT:=jL.aHT IA.o;have bf:=(aow.o.aK uC).hb IA.o jL.eC;have ast:=jL.aN (ai eT uC);have ass:=jL.aN (ai Jp uC);have cp:=fk.o.ad ast fk.o.lt
     have js:=I cp;have TW:=I bf;have oC:=pT.ca;have af:=cp.ca;have eO:=cp.hk;clear cp bf jL pT
     go_wp2
     clear oC af eO
     refine hD 0 λWF DA=>?_
     have Wm:=DA.jo js.o;have OF:=TW.o.hb js.o DA.eC;have Tz:=DA.aN ass;clear DA
     have z0:=Wm.ca
     refine XY (v:= .tuple #[.agg #[lA dQ f0,lR dY f1,dX,dW,dU,lS cq f2,lT cw f3,lU dR f4,um,uS,uj],.string hU]) Zw rfl ?_
     exact⟨dQ,dY,dX,dW,dU,cq,cw,dR,um,uS,uj,lA,f0,lR,f1,lS,f2,lT,f3,lU,f4,hU,rfl,I (by
      rw [fP.o.1,fP.o.2]
      unfold wF
      rw [show rE (dE.nA (⟨rs,qs,tu,se,sp,ws,ae,os,cV,cW,cU⟩ :dE)) l= (⟨dQ,dY,dX,dW,dU,cq,cw,dR⟩,y) from Ao.o]
      simp only
      rw [DS.o,show eK (dE.log (⟨rs,qs,tu,se,sp,ws,ae,os,cV,cW,cU⟩ :dE)) ⟨l,hU⟩ =⟨um,uS,uj⟩ from cy.o]
      rfl),OF,Tz⟩
def sx (w W:World) (bN:Option Addr) (d0:Nat) (bZ:Option Addr) (d1:Nat) (aU:Option Addr) (d2:Nat) (bd:Option Addr) (d3:Nat) (bI:Option Addr) (d4:Nat) (rs:List aM) (qs:List aZ) (ws:List Int) (ae:List aW) (os:List Out):Prop:=eF w bN bZ aU bd bI rs qs ws ae os\/fu w.heap.size W bN d0 bZ d1 aU d2 bd d3 bI d4 rs qs ws ae os
section
variable {w W V:World} {bN bZ aU bd bI:Option Addr} {d0 d1 d2 d3 d4:Nat} {rs:List aM} {qs:List aZ} {ws:List Int} {ae:List aW} {os:List Out}
theorem sx.rd (h:sx w W bN d0 bZ d1 aU d2 bd d3 bI d4 rs qs ws ae os) (aB:Below w w W):eF W bN bZ aU bd bI rs qs ws ae os:=h.elim (λh=>h.ad aB) (λh=>h.rd)
theorem sx.aK (h:sx w W bN d0 bZ d1 aU d2 bd d3 bI d4 rs qs ws ae os) (aB:Below W W V):sx w V bN d0 bZ d1 aU d2 bd d3 bI d4 rs qs ws ae os:=h.imp id (λh=>h.aK aB)
theorem sx.hb {g:Nat} {cs:Array Value} (h:sx w W bN d0 bZ d1 aU d2 bd d3 bI d4 rs qs ws ae os) (aB:ay W g 46 cs) (cy:W.grownBy V (some g)):sx w V bN d0 bZ d1 aU d2 bd d3 bI d4 rs qs ws ae os:=h.imp id (λh=>h.hb aB cy)
end
theorem anv (h:v:=by
 rintro e ah ⟨dQ,dY,dX,dW,dU,cq,cw,dR,um,uS,uj,bN,d0,bZ,d1,aU,d2,bd,d3,bI,d4,y,rfl,hw,O,aB⟩
 exact⟨⟨dQ,dY,dX,dW,dU,cq,cw,dR,um,uS,uj⟩,y,bN,d0,bZ,d1,aU,d2,bd,d3,bI,d4,rfl,I ⟨Xc Prod.fst hw.o,Xc Prod.snd hw.o⟩,O,aB⟩):v:=h
theorem RD (x:dE) (Z:fa aq au ak al aF c0 aw c2 c3 c4 x.bT x.ch x.cz x.cC x.bQ) (cF:x.bY.size + x.bW.size<=1048576) (l:VU) (aT:l.size<=1048576) {w:World} (R:eF w aq au ak al aF x.bT x.ch x.cz x.cC x.bQ) (bX:ob w):
 Rd 18 #[.agg #[aq x.bT c0,au x.ch aw,x.dw,x.dp,x.dF,ak x.cz c2,al x.cC c3,aF x.bQ c4,x.bY,x.bW,x.bM],l] w λe ah=>∃(y:dE) (z:VU) (bN:QR) (d0:Nat) (bZ:QR) (d1:Nat) (aU:QR) (d2:Nat) (bd:QR) (d3:Nat) (bI:QR) (d4:Nat),e= .returned (.tuple #[.agg #[bN y.bT d0,bZ y.ch d1,y.dw,y.dp,y.dF,aU y.cz d2,bd y.cC d3,bI y.bQ d4,y.bY,y.bW,y.bM],z])/\Hid (lX x l= y/\qD x l= z)/\fu w ah bN d0 bZ d1 aU d2 bd d3 bI d4 y.bT y.ch y.cz y.cC y.bQ/\Below w w ah:=by
 refine (auM Z cF aT R bX).mono ?_
 exact anv
theorem OO (x:dE) (Z:fa aq au ak al aF c0 aw c2 c3 c4 x.bT x.ch x.cz x.cC x.bQ) (cF:x.bY.size + x.bW.size<=1048576) (l:VU) (aT:l.size<=1048576) {w:World} (R:eF w aq au ak al aF x.bT x.ch x.cz x.cC x.bQ):
 Rd 19 #[.agg #[aq x.bT c0,au x.ch aw,x.dw,x.dp,x.dF,ak x.cz c2,al x.cC c3,aF x.bQ c4,x.bY,x.bW,x.bM],l] w λe ah=>∃(y:dE) (z:VU) (bN:QR) (d0:Nat) (bZ:QR) (d1:Nat) (aU:QR) (d2:Nat) (bd:QR) (d3:Nat) (bI:QR) (d4:Nat),e= .returned (.tuple #[.agg #[bN y.bT d0,bZ y.ch d1,y.dw,y.dp,y.dF,aU y.cz d2,bd y.cC d3,bI y.bQ d4,y.bY,y.bW,y.bM],z])/\Hid (lX x l= y/\qD x l= z)/\fu w ah bN d0 bZ d1 aU d2 bd d3 bI d4 y.bT y.ch y.cz y.cC y.bQ/\Below w w ah:=by
 refine (azH Z cF aT R).mono ?_
 exact anv
theorem aak (h:v:=by
 refine eQ PV PV ?_
 repeat (go_big_quiet_step ((fail)))
 refine VF ?_
 intro K
 go_wp2
 go_ret
 exact⟨_,rfl,by simp only [YU,ByteArray.size_extract];omega,(aA.aK K.ad).mono KK,bx aG (bL K.ad _)⟩):v:=h
theorem ajz (t s:VU) (cJ:t.size<=1048576) (tI:0 < s.size) (aP:s.size<=1048576) (p:Nat) (A:QR) (c:Nat) (cs:List UInt8) (cK:cs) (N:Nat) (bU:N<=800000) (w:World) (aA:gX w p A c cs N):
 Rd 53 #[.pointer (some ⟨p,0,none⟩),t,s] w λe ah=>∃x:ByteArray,e= .returned x/\x.size<=t.size + 1/\Stepped w ah p A c cs (N + 6):=by
 go_in
 have aS:=aA.lt;have aG:=ht w (some p)
 have bq:t.toList.isEmpty= false->0 < t.size:=by
  intro he
  rw [ByteArray.toList_eq] at he
  rcases Nat.eq_zero_or_pos t.size with h | h
  .exfalso
   have h2:t.data.toList= []:=YD.1 (by rw [YV];exact h)
   rw [h2] at he;cases he
  .exact h
 rcases Bool.eq_false_or_eq_true t.toList.isEmpty with h0 | h0
 .have h1:(1:Int)<=s.size:=KK
  go_wp2
  refine XY (v:= .string (s.extract 0 1)) (by simp [results,Tryz.results53,go_sem]) rfl ?_
  refine⟨_,rfl,by rw [ByteArray.size_extract];omega,aA.mono KK,aG⟩
 .have WY:=bq h0
  clear bq
  go_wp2_with fail
  refine (iI t.size p A c cK N KK KK _ (aA.aK ao)).mono ?_
  rintro e bm ⟨i,rfl,⟨atk,Nt,Ri⟩,ot⟩
  obtain⟨fI,aA,nY,aG⟩:=Xk ot aG
  have aDW:i < t.size:=by
   by_cases h:(1:Int) < t.size
   .exact Ri h
   .have:=Nt KK;omega
  obtain⟨k,rfl⟩ :∃k:Nat,i= k:=⟨i.toNat,by omega⟩
  clear Nt Ri
  go_wp2_with fail
  refine (iI s.size p A c cK (N + 2) KK KK _ (aA.aK ao)).mono ?_
  rintro e aI ⟨j,rfl,⟨aDZ,aeQ,Nu⟩,jF⟩
  obtain⟨eI,aA,sj,aG⟩:=Xk jF aG
  have aEa:j < s.size:=by
   by_cases h:(1:Int) < s.size
   .exact Nu h
   .have:=aeQ KK;omega
  obtain⟨m,rfl⟩ :∃m:Nat,j= m:=⟨j.toNat,by omega⟩
  clear aeQ Nu
  have ax:k < t.size:=KK
  have hm:m < s.size:=KK
  have Ba:(m:Int)<=s.size:=KK
  have ki:(1:Int)<=(s.extract m s.size).size:=by rw [ByteArray.size_extract];omega
  have wV:(k:Int)<=t.size:=KK
  have xQ:(k:Int) + 1<=t.size:=KK
  go_wp2_with fail
  refine (iI 3 p A c cK (N + 2 + 2) KK KK _ (aA.aK ao)).mono ?_
  rintro e bw ⟨r,rfl,⟨pX,_,gR⟩,mi⟩
  obtain⟨hH,aA,uV,aG⟩:=Xk mi aG;have nk:=gR KK;clear gR
  rcases Int.lt_trichotomy r 1 with bu | bu | bu
  .obtain rfl:r= 0:=KK
   go_upto_region 7 with fail
   exact aak
  .subst bu
   go_upto_region 9 with fail
   exact aak
  .obtain rfl:r= 2:=KK
   go_upto_region 10 with fail
   exact aak
theorem Qn (w:World) (xs:List ByteArray) (hm:xs.length<=maxLen):aX 1 hh (w.alloc (.cells (xs.flatMap hh).toArray 9)) (some ⟨w,0,none⟩) xs:=(bn.built (B:=w) (f:=hh) w xs 9 (XZ _) hm jP).ej (hf:=jP)
theorem avU:(Tryz.prog.info? 5).map (λi=>(i.zero,i.size,i.bytes))= some (some (.int .u8 0),1,1):=PV
theorem agG {p:Nat} {A:QR} {c:Nat} {cs:List UInt8} (cK:cs) {N:Nat} (bU:N<=800000) {w:World} (aA:gX w p A c cs N):
 Rd 76 #[.pointer (some ⟨p,0,none⟩)] w λe ah=>∃x:fi,e= .returned (.agg #[x.cmd,x.rep])/\(x.cmd.size<=20/\x.rep.size<=20)/\Stepped w ah p A c cs (N + 10):=by
 go_in
 have aS:=aA.lt;have aG:=ht w (some p)
 go_upto_region 1 with fail
 refine Xi λbm bD J=>?_
 replace aA:=aA.aK bD;replace aG:=bx aG (bL bD (some p));have nY:=bD.size;have Gf:=J.lt;obtain⟨z0,bF⟩:=J.fD;have AS:=Qn bm [(⟨#[99,111,117,110,116]⟩ :VU),(⟨#[115,111,114,116,32,109,101,114,103,101]⟩ :VU),(⟨#[120]⟩ :VU),(⟨#[115,101,108,101,99,116,32,50]⟩ :VU),(⟨#[48,32,49]⟩ :VU)] Yk
 simp only [Yd,ZL,hh,Yq,Zh] at AS
 replace AS:=I AS
 have aEq:p < bm.heap.size:=KK
 go_wp2_with fail
 refine (Kc Wn Wn cK KK (aA.aK ao) AS.o (λeH h _=>by cases h;show bm.heap.size≠p;omega)).mono ?_
 rintro e aI ⟨s1,rfl,ki,jF⟩
 clear z0 bF;obtain⟨eI,aA,sj,aG⟩:=Xk jF aG;replace J:=J.bV eI;obtain⟨z0,bF⟩:=J.fD
 have dZ:s1.size<=12:=by
  simp only [Xl,YT,or_false] at ki
  rcases ki with rfl | rfl | rfl | rfl | rfl <;> decide
 have yZ:=Qn aI [(⟨#[]⟩ :VU),(⟨#[51]⟩ :VU),(⟨#[63]⟩ :VU),(⟨#[97,64,98]⟩ :VU),(⟨#[51,32,49,32,50]⟩ :VU)] Yk
 simp only [Yd,ZL,hh,Yq,Zh] at yZ
 replace yZ:=I yZ;clear ki AS
 go_wp2_with fail
 refine (Kc Wn Wn cK KK (aA.aK ao) yZ.o (λeH h _=>by cases h;show aI.heap.size≠p;omega)).mono ?_
 rintro e bw ⟨s2,rfl,CN,mi⟩
 clear z0 bF;obtain⟨hH,aA,uV,aG⟩:=Xk mi aG;replace J:=J.bV hH;obtain⟨z0,bF⟩:=J.fD
 have dV:s2.size<=12:=by
  simp only [Xl,YT,or_false] at CN
  rcases CN with rfl | rfl | rfl | rfl | rfl <;> decide
 clear CN yZ
 go_upto_region 2 with fail
 refine Xi λbH db ec=>?_
 replace aA:=aA.aK db;replace aG:=bx aG (bL db (some p));clear z0 bF;replace J:=J.bV (bL db (some p));obtain⟨z0,bF⟩:=J.fD;have yj:=db.size;have aCv:=ec.lt;have gx:=ec.fD
 go_wp2_with fail
 refine (iI 24 p A c cK (N + 2 + 2) KK KK _ (aA.aK ao)).mono ?_
 rintro e cO ⟨r,rfl,⟨pX,_,_⟩,jw⟩
 clear z0 bF;obtain⟨fw,aA,ti,aG⟩:=Xk jw aG;replace J:=J.bV fw;replace ec:=ec.bV fw;obtain⟨z0,bF⟩:=J.fD;replace gx:=ec.fD
 rcases Int.lt_trichotomy r 1 with bu | bu | bu
 .obtain rfl:r= 0:=KK
  obtain⟨i0,bo,JI,NN,rD⟩:=Xo avU
  have rB:(Instr.makeSlice 35 (.int .i64 3) (.int .i64 3)).run Tryz.prog cO= .ok (.slice cO 3 3) (cO.alloc (.cells #[.int .u8 0,.int .u8 0,.int .u8 0] 5)):=by
   have:=azm (P:=Tryz.prog) 35 5 i0 _ Tryz.underlying35 bo JI .i64 .i64 3 3 (XZ _) (by rw [rD];omega) KK cO
   rw [NN] at this
   have e:madeCells (Value.int .u8 0).cells (3 * 1)= #[.int .u8 0,.int .u8 0,.int .u8 0]:=PV
   rw [e] at this
   exact this
  have sJ:Lib.Bytes (cO.alloc (.cells #[.int .u8 0,.int .u8 0,.int .u8 0] 5)) cO 0 ⟨#[0,0,0]⟩:=by
   intro i bo
   have h:=(ay.new cO 5 #[.int .u8 0,.int .u8 0,.int .u8 0]).cell (0 + i);have Ns:i < 3:=bo
   rw [h]
   match i,Ns with
   | 0,_=>rfl
   | 1,_=>rfl
   | 2,_=>rfl
  have gn:=Lib.run_convert_whole (P:=Tryz.prog) _ 35 5 9 Tryz.underlying35 Tryz.underlying5 Tryz.underlying9 cO 0 ⟨#[0,0,0]⟩ sJ 3
  rw [show (⟨#[0,0,0]⟩ :VU).size= 3 from rfl] at gn
  have Ev:=Qn (cO.alloc (.cells #[.int .u8 0,.int .u8 0,.int .u8 0] 5)) [(⟨#[]⟩ :VU),(⟨#[97,64,98]⟩ :VU),(⟨#[97,35]⟩ :VU),(⟨#[10]⟩ :VU),⟨#[0,0,0]⟩] Yk
  rw [show (cO.alloc (.cells #[.int .u8 0,.int .u8 0,.int .u8 0] 5)).heap.size= cO.heap.size + 1 from by simp] at Ev
  simp only [Yd,ZL,hh,Yq,Zh] at Ev
  have Lm:=I Ev;clear Ev sJ
  go_wp2_with fail
  refine (Kc Wn Wn cK KK (aA.aK ao) Lm.o (λeH h _=>by cases h;show cO.heap.size + 1≠p;omega)).mono ?_
  rintro e dk ⟨gT,rfl,vA,jd⟩
  clear z0 bF;obtain⟨fx,aA,uW,aG⟩:=Xk jd aG;replace J:=J.bV fx;replace ec:=ec.bV fx;obtain⟨z0,bF⟩:=J.fD;replace gx:=ec.fD
  have auq:gT.size<=12:=by
   simp only [Xl,YT,or_false] at vA
   rcases vA with rfl | rfl | rfl | rfl | rfl <;> decide
  clear vA Lm rB gn;have aqS:=ec.frozen 0;have eE:=J.lt;have Ai:=ec.lt
  go_upto_region 7 with fail
  clear aqS eE Ai;clear z0 bF;clear gx;replace aG:w.grownBy (World.setCell dk ⟨bw,0,none⟩ (.string gT)) (some p):=(il aG (g:=bw) KK 0 (.string gT));replace aA:=(aA.store (g:=bw) KK 0 (.string gT));replace J:=J.nf (fZ (j:=0) (ht dk (some bw)) (.string gT)) KK;replace ec:ay (World.setCell dk ⟨bw,0,none⟩ (.string gT)) bw 56 #[gT,s2]:=(ec.ey 0 (.string gT))
  generalize World.setCell dk ⟨bw,0,none⟩ (.string gT)= fS at *
  obtain⟨z0,bF⟩:=J.fD;have gx:=ec.fD;have eg:=J.yU;have eE:=J.lt;have Ai:=ec.lt
  go_wp2
  clear eg eE Ai;clear z0 bF;clear gx;replace aG:w.grownBy (World.setCell (World.setCell fS ⟨w,0,none⟩ (.string gT)) ⟨w,1,none⟩ (.string s2)) (some p):=(il (il aG (g:=w) KK 0 (.string gT)) (g:=w) KK 1 (.string s2));replace aA:=((aA.store (g:=w) KK 0 (.string gT)).store (g:=w) KK 1 (.string s2))
  replace J:ay (World.setCell (World.setCell fS ⟨w,0,none⟩ (.string gT)) ⟨w,1,none⟩ (.string s2)) w 56 #[gT,s2]:=((J.ey 0 (.string gT)).ey 1 (.string s2));replace ec:=ec.nf (fZ (j:=1) (fZ (j:=0) (ht fS (some w)) (.string gT)) (.string s2)) KK
  generalize World.setCell (World.setCell fS ⟨w,0,none⟩ (.string gT)) ⟨w,1,none⟩ (.string s2)= cP at *
  obtain⟨z0,bF⟩:=J.fD
  have gx:=ec.fD
  refine XY (v:= .agg #[gT,s2]) aGx rfl ?_
  exact⟨⟨gT,s2⟩,rfl,⟨by show gT.size<=20;omega,by show s2.size<=20;omega⟩,aA.mono KK,aG⟩
 .subst bu
  have Ev:=Qn cO [(⟨#[35]⟩ :VU),(⟨#[10]⟩ :VU),⟨#[127]⟩] Yk
  simp only [Yd,ZL,hh,Yq,Zh] at Ev
  have Lm:=I Ev;clear Ev
  go_wp2_with fail
  refine (Kc Wn Wn cK KK (aA.aK ao) Lm.o (λeH h _=>by cases h;show cO.heap.size≠p;omega)).mono ?_
  rintro e dk ⟨gT,rfl,vA,jd⟩
  clear z0 bF;obtain⟨fx,aA,uW,aG⟩:=Xk jd aG;replace J:=J.bV fx;replace ec:=ec.bV fx
  obtain⟨z0,bF⟩:=J.fD
  replace gx:=ec.fD
  have auq:gT.size<=12:=by
   simp only [Xl,YT,or_false] at vA
   rcases vA with rfl | rfl | rfl <;> decide
  clear vA Lm;have aqT:=ec.frozen 1;have eE:=J.lt;have Ai:=ec.lt
  go_upto_region 7 with fail
  clear aqT eE Ai;clear z0 bF;clear gx;replace aG:w.grownBy (World.setCell dk ⟨bw,1,none⟩ (.string gT)) (some p):=(il aG (g:=bw) KK 1 (.string gT));replace aA:=(aA.store (g:=bw) KK 1 (.string gT));replace J:=J.nf (fZ (j:=1) (ht dk (some bw)) (.string gT)) KK;replace ec:ay (World.setCell dk ⟨bw,1,none⟩ (.string gT)) bw 56 #[s1,gT]:=(ec.ey 1 (.string gT))
  generalize World.setCell dk ⟨bw,1,none⟩ (.string gT)= fS at *
  obtain⟨z0,bF⟩:=J.fD
  have gx:=ec.fD;have eg:=J.yU;have eE:=J.lt;have Ai:=ec.lt
  go_wp2
  clear eg eE Ai;clear z0 bF;clear gx;replace aG:w.grownBy (World.setCell (World.setCell fS ⟨w,0,none⟩ (.string s1)) ⟨w,1,none⟩ (.string gT)) (some p):=(il (il aG (g:=w) KK 0 (.string s1)) (g:=w) KK 1 (.string gT));replace aA:=((aA.store (g:=w) KK 0 (.string s1)).store (g:=w) KK 1 (.string gT))
  replace J:ay (World.setCell (World.setCell fS ⟨w,0,none⟩ (.string s1)) ⟨w,1,none⟩ (.string gT)) w 56 #[s1,gT]:=((J.ey 0 (.string s1)).ey 1 (.string gT));replace ec:=ec.nf (fZ (j:=1) (fZ (j:=0) (ht fS (some w)) (.string s1)) (.string gT)) KK
  generalize World.setCell (World.setCell fS ⟨w,0,none⟩ (.string s1)) ⟨w,1,none⟩ (.string gT)= cP at *
  obtain⟨z0,bF⟩:=J.fD
  have gx:=ec.fD
  refine XY (v:= .agg #[s1,gT]) aGx rfl ?_
  exact⟨⟨s1,gT⟩,rfl,⟨by show s1.size<=20;omega,by show gT.size<=20;omega⟩,aA.mono KK,aG⟩
 .have h0:(r == 0)= false:=Xb.2 KK
  have h1:(r == 1)= false:=Xb.2 KK;have eg:=J.yU;have eE:=J.lt;have Ai:=ec.lt
  go_wp2
  clear eg eE Ai;clear z0 bF;clear gx;replace aG:w.grownBy (World.setCell (World.setCell cO ⟨w,0,none⟩ (.string s1)) ⟨w,1,none⟩ (.string s2)) (some p):=(il (il aG (g:=w) KK 0 (.string s1)) (g:=w) KK 1 (.string s2));replace aA:=((aA.store (g:=w) KK 0 (.string s1)).store (g:=w) KK 1 (.string s2))
  replace J:ay (World.setCell (World.setCell cO ⟨w,0,none⟩ (.string s1)) ⟨w,1,none⟩ (.string s2)) w 56 #[s1,s2]:=((J.ey 0 (.string s1)).ey 1 (.string s2));replace ec:=ec.nf (fZ (j:=1) (fZ (j:=0) (ht cO (some w)) (.string s1)) (.string s2)) KK
  generalize World.setCell (World.setCell cO ⟨w,0,none⟩ (.string s1)) ⟨w,1,none⟩ (.string s2)= cP at *
  obtain⟨z0,bF⟩:=J.fD
  have gx:=ec.fD
  refine XY (v:= .agg #[s1,s2]) aGx rfl ?_
  exact⟨⟨s1,s2⟩,rfl,⟨by show s1.size<=20;omega,by show s2.size<=20;omega⟩,aA.mono KK,aG⟩
theorem acg (x:ft) (y:fi):(eK x y).bY.size + (eK x y).bW.size<=x.bY.size + x.bW.size + 372:=by
 unfold eK vo
 split
 .rename_i h
  simp only [rS,Xa] at h
  have h1:=Oa h.1.1;have h2:=Hw (k:=x.bM) KK KK h.1.2
  simp only [fY,Xu,YK,ZS]
  have:x.p.length= x.bW.size:=by unfold ft.p;exact YV
  omega
 .rw [xH];show x.bY.size + x.bW.size<=_;omega
theorem aBs (x:ft):(kM x).bY.size + (kM x).bW.size<=x.bY.size + x.bW.size:=by
 unfold kM
 split
 .show (x.bY ++ x.bW).size + _<=_
  rw [YU];show _ + 0<=_;omega
 .exact Xd _
theorem aqr (p:Nat) (A:QR) (c:Nat) (cs:List UInt8) (cK:cs) (N:Nat) (bU:N<=700000) (w:World) (aA:gX w p A c cs N):
 Rd 160 #[.pointer (some ⟨p,0,none⟩)] w λe ah=>∃x:ft,e= .returned (.agg #[x.bY,x.bW,x.bM])/\(x.bY.size + x.bW.size<=3000)/\Stepped w ah p A c cs (N + 100):=by
 go_in
 have aS:=aA.lt;have aG:=ht w (some p)
 go_upto_region 2 with fail
 have bD:Below w w (World.alloc (World.alloc w (.cells #[.string ⟨#[]⟩,.string ⟨#[]⟩,(0:Int)] 31)) (.cells #[.string ⟨#[]⟩,.string ⟨#[]⟩,(0:Int)] 31)):=IU w _ _
 have J:ay (World.alloc (World.alloc w (.cells #[.string ⟨#[]⟩,.string ⟨#[]⟩,(0:Int)] 31)) (.cells #[.string ⟨#[]⟩,.string ⟨#[]⟩,(0:Int)] 31)) w 31 #[.string ⟨#[]⟩,.string ⟨#[]⟩,(0:Int)]:=by repeat (first | exact ay.new _ _ _ | exact ay.HB _ _ _ _ | exact ay.JZ _ _ _ _ _ | exact ay.Ok _ _ _ _ _ _ | refine ay.alloc ?_ _)
 have br:ay (World.alloc (World.alloc w (.cells #[.string ⟨#[]⟩,.string ⟨#[]⟩,(0:Int)] 31)) (.cells #[.string ⟨#[]⟩,.string ⟨#[]⟩,(0:Int)] 31)) (w.heap.size + 1) 31 #[.string ⟨#[]⟩,.string ⟨#[]⟩,(0:Int)]:=by repeat (first | exact ay.new _ _ _ | exact ay.HB _ _ _ _ | exact ay.JZ _ _ _ _ _ | exact ay.Ok _ _ _ _ _ _ | refine ay.alloc ?_ _)
 generalize World.alloc (World.alloc w (.cells #[.string ⟨#[]⟩,.string ⟨#[]⟩,(0:Int)] 31)) (.cells #[.string ⟨#[]⟩,.string ⟨#[]⟩,(0:Int)] 31)= bm at *
 replace aA:=aA.aK bD;replace aG:=bx aG (bL bD (some p));have nY:=bD.size;have Gf:=J.lt;obtain⟨z0,bF,z2⟩:=J.cb;have aIw:=br.lt;have gC:=br.cb
 go_wp2_with fail
 refine (iI 7 p A c cK N KK KK _ (aA.aK ao)).mono ?_
 rintro e aI ⟨r,rfl,⟨pX,_,gR⟩,jF⟩
 clear z0 bF z2;obtain⟨eI,aA,sj,aG⟩:=Xk jF aG;replace J:=J.bV eI;replace br:=br.bV eI;obtain⟨z0,bF,z2⟩:=J.cb
 replace gC:=br.cb;have nk:=gR KK
 obtain⟨hr,rfl⟩ :∃hr:Nat,r= hr:=⟨r.toNat,by omega⟩
 clear z0 bF z2 gC gR
 go_wp2
 go_loopw [4] (λv4 wr=>∃(m:Nat) (x:ft),m<=6/\v4= .int .i64 m/\x.bY.size + x.bW.size<=400 * (6 - m)/\ay wr w 31 #[.string ⟨#[]⟩,.string ⟨#[]⟩,(0:Int)]/\ay wr (w.heap.size + 1) 31 #[x.bY,x.bW,x.bM]/\gX wr p A c cs (N + 2 + 16 * (6 - m))/\w.grownBy wr (some p)) (λv4 _=>(intOf v4).toNat)
 case atStart=>exact⟨hr,ahs,by omega,rfl,Xd _,J,br,aA.mono KK,aG⟩
 case round=>
  clear J br aA aG nk pX
  obtain⟨m,x,hm,rfl,av,J,br,aA,aG⟩:=hrel
  have aFa:=J.lt;have aEZ:=br.lt
  by_cases bC:0 < m
  .obtain⟨z0,bF,z2⟩:=J.cb;have gC:=br.cb
   have zu:(m:Int) - 1= ((m - 1:Nat):Int):=KK
   go_upto_region 5 with fail
   haveI:Nonempty (cM (λV=>ay V (w.heap.size + 1) 31 #[x.bY,x.bW,x.bM])):=⟨⟨wr,br⟩⟩
   haveI:Nonempty (cM (λ_=>True)):=⟨⟨wr,trivial⟩⟩
   have jx:=ay.kF (λK:cM (λV=>ay V (w.heap.size + 1) 31 #[x.bY,x.bW,x.bM])=>K.holds)
   refine tV (λV=>ay V (w.heap.size + 1) 31 #[x.bY,x.bW,x.bM]) [([0,1],[],2,false),([],[],3,false),([],[4,5,6],7,true)] [] [] PV PV br.drew ?_
   refine jj λK fj=>?_
   refine YB ?_
   repeat go_big_quiet_step (fail)
   refine VF ?_
   refine VF ?_
   refine XV ?_
   replace aA:=aA.aK (Wt _ _).drew;replace aG:=bx aG (bL (Wt wr wr).drew (some p));clear z0 bF z2;replace J:ay wr.drew w 31 #[.string ⟨#[]⟩,.string ⟨#[]⟩,(0:Int)]:=J;clear gC;replace br:ay wr.drew ((w.heap.size + 1)) 31 #[x.bY,x.bW,x.bM]:=br;have tR:wr.drew.heap.size= wr.heap.size:=rfl
   generalize wr.drew= cO at *
   obtain⟨z0,bF,z2⟩:=J.cb
   have gC:=br.cb
   go_wp2_with fail
   refine (agG cK KK (aA.aK ao)).mono ?_
   rintro e bw ⟨y,rfl,⟨NN,rD⟩,mi⟩
   clear z0 bF z2;obtain⟨hH,aA,uV,aG⟩:=Xk mi aG;replace J:=J.bV hH;replace br:=br.bV hH;obtain⟨z0,bF,z2⟩:=J.cb
   replace gC:=br.cb
   go_wp2
   refine nK br (fj _ _ ?_)
   refine jj λff da=>?_
   refine VF ?_
   refine VF ?_
   refine XV ?_
   go_wp2_with fail
   refine (SJ x KK y KK KK _).mono ?_
   rintro e bH ⟨rfl,mL⟩
   clear z0 bF z2;obtain⟨db,ed,aA,yj,aG⟩:=YR mL aA aG;replace J:=J.bV ed;replace br:=br.bV ed;obtain⟨z0,bF,z2⟩:=J.cb
   replace gC:=br.cb
   go_wp2
   refine nK br (da _ _ ?_)
   refine jj λxE oq=>?_
   refine VF ?_
   refine YI ?_
   repeat go_big_quiet_step (fail)
   refine VF ?_
   refine XV ?_
   clear jx;have Vo:=br.kH;have eE:=J.lt;have ie:=br.lt
   go_wp2
   clear Vo eE ie;clear z0 bF z2;clear gC;replace aG:w.grownBy (World.setCell (World.setCell (World.setCell bH ⟨(w.heap.size + 1),0,none⟩ (.string (eK x y).bY)) ⟨(w.heap.size + 1),1,none⟩ (.string (eK x y).bW)) ⟨(w.heap.size + 1),2,none⟩ (.int .i64 (eK x y).bM)) (some p):=(il (il (il aG (g:=(w.heap.size + 1)) KK 0 (.string (eK x y).bY)) (g:=(w.heap.size + 1)) KK 1 (.string (eK x y).bW)) (g:=(w.heap.size + 1)) KK 2 (.int .i64 (eK x y).bM))
   replace aA:=(((aA.store (g:=(w.heap.size + 1)) KK 0 (.string (eK x y).bY)).store (g:=(w.heap.size + 1)) KK 1 (.string (eK x y).bW)).store (g:=(w.heap.size + 1)) KK 2 (.int .i64 (eK x y).bM));replace J:=J.nf (fZ (j:=2) (fZ (j:=1) (fZ (j:=0) (ht bH (some ((w.heap.size + 1)))) (.string (eK x y).bY)) (.string (eK x y).bW)) (.int .i64 (eK x y).bM)) KK
   replace br:ay (World.setCell (World.setCell (World.setCell bH ⟨(w.heap.size + 1),0,none⟩ (.string (eK x y).bY)) ⟨(w.heap.size + 1),1,none⟩ (.string (eK x y).bW)) ⟨(w.heap.size + 1),2,none⟩ (.int .i64 (eK x y).bM)) ((w.heap.size + 1)) 31 #[.string (eK x y).bY,.string (eK x y).bW,.int .i64 (eK x y).bM]:=(((br.ey 0 (.string (eK x y).bY)).ey 1 (.string (eK x y).bW)).ey 2 (.int .i64 (eK x y).bM))
   generalize World.setCell (World.setCell (World.setCell bH ⟨(w.heap.size + 1),0,none⟩ (.string (eK x y).bY)) ⟨(w.heap.size + 1),1,none⟩ (.string (eK x y).bW)) ⟨(w.heap.size + 1),2,none⟩ (.int .i64 (eK x y).bM)= du at *
   obtain⟨z0,bF,z2⟩:=J.cb
   have gC:=br.cb
   refine rP (oq _ _ ?_)
   refine qu ?_
   refine VF ?_
   refine VF ?_
   have aEA:=acg x y;have xc:=aBs (eK x y)
   go_wp2_with fail
   refine (uR 4 p A c cs cK (N + 2 + 16 * (6 - m) + 10) KK KK _ (aA.aK ao)).mono ?_
   rintro e cO ⟨b,rfl,jw⟩
   clear z0 bF z2;obtain⟨fw,aA,ti,aG⟩:=Xk jw aG;replace J:=J.bV fw;replace br:=br.bV fw;obtain⟨z0,bF,z2⟩:=J.cb
   replace gC:=br.cb
   cases b
   .go_wp2
    exact⟨⟨m - 1,eK x y,by omega,rfl,by omega,J,br,aA.mono KK,aG⟩,by simp [intOf];omega⟩
   .go_wp2_with fail
    refine (aAs (eK x y) KK _).mono ?_
    rintro e dk ⟨rfl,jd⟩
    clear z0 bF z2;obtain⟨iH,fx,aA,uW,aG⟩:=YR jd aA aG;replace J:=J.bV fx;replace br:=br.bV fx;obtain⟨z0,bF,z2⟩:=J.cb
    replace gC:=br.cb
    have Vo:=br.kH;have eE:=J.lt;have ie:=br.lt
    go_wp2
    clear Vo eE ie;clear z0 bF z2;clear gC;replace aG:w.grownBy (World.setCell (World.setCell (World.setCell dk ⟨(w.heap.size + 1),0,none⟩ (.string (kM (eK x y)).bY)) ⟨(w.heap.size + 1),1,none⟩ (.string (kM (eK x y)).bW)) ⟨(w.heap.size + 1),2,none⟩ (.int .i64 (kM (eK x y)).bM)) (some p):=(il (il (il aG (g:=(w.heap.size + 1)) KK 0 (.string (kM (eK x y)).bY)) (g:=(w.heap.size + 1)) KK 1 (.string (kM (eK x y)).bW)) (g:=(w.heap.size + 1)) KK 2 (.int .i64 (kM (eK x y)).bM))
    replace aA:=(((aA.store (g:=(w.heap.size + 1)) KK 0 (.string (kM (eK x y)).bY)).store (g:=(w.heap.size + 1)) KK 1 (.string (kM (eK x y)).bW)).store (g:=(w.heap.size + 1)) KK 2 (.int .i64 (kM (eK x y)).bM));replace J:=J.nf (fZ (j:=2) (fZ (j:=1) (fZ (j:=0) (ht dk (some ((w.heap.size + 1)))) (.string (kM (eK x y)).bY)) (.string (kM (eK x y)).bW)) (.int .i64 (kM (eK x y)).bM)) KK
    replace br:ay (World.setCell (World.setCell (World.setCell dk ⟨(w.heap.size + 1),0,none⟩ (.string (kM (eK x y)).bY)) ⟨(w.heap.size + 1),1,none⟩ (.string (kM (eK x y)).bW)) ⟨(w.heap.size + 1),2,none⟩ (.int .i64 (kM (eK x y)).bM)) ((w.heap.size + 1)) 31 #[.string (kM (eK x y)).bY,.string (kM (eK x y)).bW,.int .i64 (kM (eK x y)).bM]:=(((br.ey 0 (.string (kM (eK x y)).bY)).ey 1 (.string (kM (eK x y)).bW)).ey 2 (.int .i64 (kM (eK x y)).bM))
    generalize World.setCell (World.setCell (World.setCell dk ⟨(w.heap.size + 1),0,none⟩ (.string (kM (eK x y)).bY)) ⟨(w.heap.size + 1),1,none⟩ (.string (kM (eK x y)).bW)) ⟨(w.heap.size + 1),2,none⟩ (.int .i64 (kM (eK x y)).bM)= oG at *
    obtain⟨z0,bF,z2⟩:=J.cb
    have gC:=br.cb
    exact⟨⟨m - 1,kM (eK x y),by omega,rfl,by omega,J,br,aA.mono KK,aG⟩,by simp [intOf];omega⟩
  .obtain rfl:m= 0:=KK
   obtain⟨z0,bF,z2⟩:=J.cb
   have gC:=br.cb
   have eg:=J.kH;have eE:=J.lt;have ie:=br.lt
   go_wp2
   clear eg eE ie;clear z0 bF z2;clear gC;replace aG:w.grownBy (World.setCell (World.setCell (World.setCell wr ⟨w,0,none⟩ (.string x.bY)) ⟨w,1,none⟩ (.string x.bW)) ⟨w,2,none⟩ (.int .i64 x.bM)) (some p):=(il (il (il aG (g:=w) KK 0 (.string x.bY)) (g:=w) KK 1 (.string x.bW)) (g:=w) KK 2 (.int .i64 x.bM))
   replace aA:=(((aA.store (g:=w) KK 0 (.string x.bY)).store (g:=w) KK 1 (.string x.bW)).store (g:=w) KK 2 (.int .i64 x.bM));replace J:ay (World.setCell (World.setCell (World.setCell wr ⟨w,0,none⟩ (.string x.bY)) ⟨w,1,none⟩ (.string x.bW)) ⟨w,2,none⟩ (.int .i64 x.bM)) w 31 #[x.bY,x.bW,x.bM]:=(((J.ey 0 (.string x.bY)).ey 1 (.string x.bW)).ey 2 (.int .i64 x.bM))
   replace br:=br.nf (fZ (j:=2) (fZ (j:=1) (fZ (j:=0) (ht wr (some w)) (.string x.bY)) (.string x.bW)) (.int .i64 x.bM)) KK
   generalize World.setCell (World.setCell (World.setCell wr ⟨w,0,none⟩ (.string x.bY)) ⟨w,1,none⟩ (.string x.bW)) ⟨w,2,none⟩ (.int .i64 x.bM)= cP at *
   have z0:=J.cb
   have gC:=br.cb
   exact hV ⟨x,rfl,by omega,aA.mono KK,aG⟩ (by simp [results,Tryz.results160,go_sem,z0])
theorem apk (p:Nat) (A:QR) (c:Nat) (cs:List UInt8) (cK:cs) (N:Nat) (bU:N<=600000) (w:World) (aA:gX w p A c cs N):
 Rd 89 #[.pointer (some ⟨p,0,none⟩)] w λe ah=>∃x:ft,e= .returned (.agg #[x.bY,x.bW,x.bM])/\(x.bY.size + x.bW.size<=7000)/\Stepped w ah p A c cs (N + 110):=by
 go_in
 have aS:=aA.lt;have aG:=ht w (some p)
 go_upto_region 1 with fail
 refine Xi λbm bD J=>?_
 replace aA:=aA.aK bD;replace aG:=bx aG (bL bD (some p));have nY:=bD.size;have Gf:=J.lt;obtain⟨z0,bF,z2⟩:=J.cb
 go_wp2_with fail
 refine (aqr p A c cs cK N KK _ (aA.aK ao)).mono ?_
 rintro e aI ⟨x,rfl,av,jF⟩
 clear z0 bF z2;obtain⟨eI,aA,sj,aG⟩:=Xk jF aG;replace J:=J.bV eI;obtain⟨z0,bF,z2⟩:=J.cb
 go_upto_region 2 with fail
 refine Xi λpG bG br=>?_
 replace aA:=aA.aK bG;replace aG:=bx aG (bL bG (some p));clear z0 bF z2;replace J:=J.bV (bL bG (some p));obtain⟨z0,bF,z2⟩:=J.cb;have uV:=bG.size;have aIw:=br.lt;have eG:=br.cb
 go_wp2_with fail
 refine (iI 24 p A c cK (N + 100) KK KK _ (aA.aK ao)).mono ?_
 rintro e bH ⟨r,rfl,⟨pX,_,_⟩,mL⟩
 clear z0 bF z2;obtain⟨ed,aA,yj,aG⟩:=Xk mL aG;replace J:=J.bV ed;replace br:=br.bV ed;obtain⟨z0,bF,z2⟩:=J.cb
 replace eG:=br.cb
 by_cases h0:r= 0
 .subst h0
  have sC:=br.frozen 2;have eE:=J.lt;have ie:=br.lt
  go_upto_region 9 with fail
  clear sC eE ie;clear z0 bF z2;clear eG;replace aG:w.grownBy (World.setCell bH ⟨aI,2,none⟩ (.int .i64 (wrap64 (x.bM + 1)))) (some p):=(il aG (g:=aI) KK 2 (.int .i64 (wrap64 (x.bM + 1))));replace aA:=(aA.store (g:=aI) KK 2 (.int .i64 (wrap64 (x.bM + 1))));replace J:=J.nf (fZ (j:=2) (ht bH (some aI)) (.int .i64 (wrap64 (x.bM + 1)))) KK
  replace br:ay (World.setCell bH ⟨aI,2,none⟩ (.int .i64 (wrap64 (x.bM + 1)))) aI 31 #[x.bY,x.bW,.int .i64 (wrap64 (x.bM + 1))]:=(br.ey 2 (.int .i64 (wrap64 (x.bM + 1))))
  generalize World.setCell bH ⟨aI,2,none⟩ (.int .i64 (wrap64 (x.bM + 1)))= fS at *
  obtain⟨z0,bF,z2⟩:=J.cb;have eG:=br.cb;have eg:=J.kH;have eE:=J.lt;have ie:=br.lt
  go_wp2
  clear eg eE ie;clear z0 bF z2;clear eG;replace aG:w.grownBy (World.setCell (World.setCell (World.setCell fS ⟨w,0,none⟩ (.string x.bY)) ⟨w,1,none⟩ (.string x.bW)) ⟨w,2,none⟩ (.int .i64 (wrap64 (x.bM + 1)))) (some p):=(il (il (il aG (g:=w) KK 0 (.string x.bY)) (g:=w) KK 1 (.string x.bW)) (g:=w) KK 2 (.int .i64 (wrap64 (x.bM + 1))))
  replace aA:=(((aA.store (g:=w) KK 0 (.string x.bY)).store (g:=w) KK 1 (.string x.bW)).store (g:=w) KK 2 (.int .i64 (wrap64 (x.bM + 1))));replace J:ay (World.setCell (World.setCell (World.setCell fS ⟨w,0,none⟩ (.string x.bY)) ⟨w,1,none⟩ (.string x.bW)) ⟨w,2,none⟩ (.int .i64 (wrap64 (x.bM + 1)))) w 31 #[x.bY,x.bW,.int .i64 (wrap64 (x.bM + 1))]:=(((J.ey 0 (.string x.bY)).ey 1 (.string x.bW)).ey 2 (.int .i64 (wrap64 (x.bM + 1))))
  replace br:=br.nf (fZ (j:=2) (fZ (j:=1) (fZ (j:=0) (ht fS (some w)) (.string x.bY)) (.string x.bW)) (.int .i64 (wrap64 (x.bM + 1)))) KK
  generalize World.setCell (World.setCell (World.setCell fS ⟨w,0,none⟩ (.string x.bY)) ⟨w,1,none⟩ (.string x.bW)) ⟨w,2,none⟩ (.int .i64 (wrap64 (x.bM + 1)))= cP at *
  have z0:=J.cb
  have eG:=br.cb
  refine XY (v:= .agg #[x.bY,x.bW,.int .i64 (wrap64 (x.bM + 1))]) Zx rfl ?_
  exact⟨⟨x.bY,x.bW,wrap64 (x.bM + 1)⟩,rfl,by show x.bY.size + x.bW.size<=_;omega,aA.mono KK,aG⟩
 by_cases h1:r= 1
 .subst h1
  go_wp2_with fail
  refine (ajz x.bW ⟨#[35,64,10,48,49]⟩ KK WG WG p A c cs cK (N + 100 + 2) KK _ (aA.aK ao)).mono ?_
  rintro e cO ⟨s,rfl,aP,jw⟩
  clear z0 bF z2;obtain⟨fw,aA,ti,aG⟩:=Xk jw aG;replace J:=J.bV fw;replace br:=br.bV fw
  obtain⟨z0,bF,z2⟩:=J.cb
  replace eG:=br.cb;have Gs:=br.frozen 1;have eE:=J.lt;have ie:=br.lt
  go_upto_region 9 with fail
  clear Gs eE ie;clear z0 bF z2;clear eG;replace aG:w.grownBy (World.setCell cO ⟨aI,1,none⟩ (.string s)) (some p):=(il aG (g:=aI) KK 1 (.string s));replace aA:=(aA.store (g:=aI) KK 1 (.string s));replace J:=J.nf (fZ (j:=1) (ht cO (some aI)) (.string s)) KK;replace br:ay (World.setCell cO ⟨aI,1,none⟩ (.string s)) aI 31 #[x.bY,s,x.bM]:=(br.ey 1 (.string s))
  generalize World.setCell cO ⟨aI,1,none⟩ (.string s)= fS at *
  obtain⟨z0,bF,z2⟩:=J.cb
  have eG:=br.cb;have eg:=J.kH;have eE:=J.lt;have ie:=br.lt
  go_wp2
  clear eg eE ie;clear z0 bF z2;clear eG;replace aG:w.grownBy (World.setCell (World.setCell (World.setCell fS ⟨w,0,none⟩ (.string x.bY)) ⟨w,1,none⟩ (.string s)) ⟨w,2,none⟩ (.int .i64 x.bM)) (some p):=(il (il (il aG (g:=w) KK 0 (.string x.bY)) (g:=w) KK 1 (.string s)) (g:=w) KK 2 (.int .i64 x.bM))
  replace aA:=(((aA.store (g:=w) KK 0 (.string x.bY)).store (g:=w) KK 1 (.string s)).store (g:=w) KK 2 (.int .i64 x.bM));replace J:ay (World.setCell (World.setCell (World.setCell fS ⟨w,0,none⟩ (.string x.bY)) ⟨w,1,none⟩ (.string s)) ⟨w,2,none⟩ (.int .i64 x.bM)) w 31 #[x.bY,s,x.bM]:=(((J.ey 0 (.string x.bY)).ey 1 (.string s)).ey 2 (.int .i64 x.bM))
  replace br:=br.nf (fZ (j:=2) (fZ (j:=1) (fZ (j:=0) (ht fS (some w)) (.string x.bY)) (.string s)) (.int .i64 x.bM)) KK
  generalize World.setCell (World.setCell (World.setCell fS ⟨w,0,none⟩ (.string x.bY)) ⟨w,1,none⟩ (.string s)) ⟨w,2,none⟩ (.int .i64 x.bM)= cP at *
  have z0:=J.cb
  have eG:=br.cb
  refine XY (v:= .agg #[x.bY,s,x.bM]) Zx rfl ?_
  exact⟨⟨x.bY,s,x.bM⟩,rfl,by show x.bY.size + s.size<=_;omega,aA.mono KK,aG⟩
 by_cases h2:r= 2
 .subst h2
  have yT:=br.frozen 0;have eE:=J.lt;have ie:=br.lt
  go_upto_region 9 with fail
  clear yT eE ie;clear z0 bF z2;clear eG;replace aG:w.grownBy (World.setCell bH ⟨aI,0,none⟩ (.string (x.bY ++ x.bW))) (some p):=(il aG (g:=aI) KK 0 (.string (x.bY ++ x.bW)));replace aA:=(aA.store (g:=aI) KK 0 (.string (x.bY ++ x.bW)));replace J:=J.nf (fZ (j:=0) (ht bH (some aI)) (.string (x.bY ++ x.bW))) KK
  replace br:ay (World.setCell bH ⟨aI,0,none⟩ (.string (x.bY ++ x.bW))) aI 31 #[.string (x.bY ++ x.bW),x.bW,x.bM]:=(br.ey 0 (.string (x.bY ++ x.bW)))
  generalize World.setCell bH ⟨aI,0,none⟩ (.string (x.bY ++ x.bW))= fS at *
  obtain⟨z0,bF,z2⟩:=J.cb
  have eG:=br.cb;have eg:=J.kH;have eE:=J.lt;have ie:=br.lt
  go_wp2
  clear eg eE ie;clear z0 bF z2;clear eG;replace aG:w.grownBy (World.setCell (World.setCell (World.setCell fS ⟨w,0,none⟩ (.string (x.bY ++ x.bW))) ⟨w,1,none⟩ (.string x.bW)) ⟨w,2,none⟩ (.int .i64 x.bM)) (some p):=(il (il (il aG (g:=w) KK 0 (.string (x.bY ++ x.bW))) (g:=w) KK 1 (.string x.bW)) (g:=w) KK 2 (.int .i64 x.bM))
  replace aA:=(((aA.store (g:=w) KK 0 (.string (x.bY ++ x.bW))).store (g:=w) KK 1 (.string x.bW)).store (g:=w) KK 2 (.int .i64 x.bM));replace J:ay (World.setCell (World.setCell (World.setCell fS ⟨w,0,none⟩ (.string (x.bY ++ x.bW))) ⟨w,1,none⟩ (.string x.bW)) ⟨w,2,none⟩ (.int .i64 x.bM)) w 31 #[.string (x.bY ++ x.bW),x.bW,x.bM]:=(((J.ey 0 (.string (x.bY ++ x.bW))).ey 1 (.string x.bW)).ey 2 (.int .i64 x.bM))
  replace br:=br.nf (fZ (j:=2) (fZ (j:=1) (fZ (j:=0) (ht fS (some w)) (.string (x.bY ++ x.bW))) (.string x.bW)) (.int .i64 x.bM)) KK
  generalize World.setCell (World.setCell (World.setCell fS ⟨w,0,none⟩ (.string (x.bY ++ x.bW))) ⟨w,1,none⟩ (.string x.bW)) ⟨w,2,none⟩ (.int .i64 x.bM)= cP at *
  have z0:=J.cb
  have eG:=br.cb
  refine XY (v:= .agg #[.string (x.bY ++ x.bW),x.bW,x.bM]) Zx rfl ?_
  exact⟨⟨x.bY ++ x.bW,x.bW,x.bM⟩,rfl,by show (x.bY ++ x.bW).size + x.bW.size<=_;rw [YU];omega,aA.mono KK,aG⟩
 .have VC:(r == 0)= false:=Xb.2 h0
  have sD:(r == 1)= false:=Xb.2 h1;have rU:(r == 2)= false:=Xb.2 h2;have eg:=J.kH;have eE:=J.lt;have ie:=br.lt
  go_wp2
  clear eg eE ie;clear z0 bF z2;clear eG;replace aG:w.grownBy (World.setCell (World.setCell (World.setCell bH ⟨w,0,none⟩ (.string x.bY)) ⟨w,1,none⟩ (.string x.bW)) ⟨w,2,none⟩ (.int .i64 x.bM)) (some p):=(il (il (il aG (g:=w) KK 0 (.string x.bY)) (g:=w) KK 1 (.string x.bW)) (g:=w) KK 2 (.int .i64 x.bM))
  replace aA:=(((aA.store (g:=w) KK 0 (.string x.bY)).store (g:=w) KK 1 (.string x.bW)).store (g:=w) KK 2 (.int .i64 x.bM));replace J:ay (World.setCell (World.setCell (World.setCell bH ⟨w,0,none⟩ (.string x.bY)) ⟨w,1,none⟩ (.string x.bW)) ⟨w,2,none⟩ (.int .i64 x.bM)) w 31 #[x.bY,x.bW,x.bM]:=(((J.ey 0 (.string x.bY)).ey 1 (.string x.bW)).ey 2 (.int .i64 x.bM))
  replace br:=br.nf (fZ (j:=2) (fZ (j:=1) (fZ (j:=0) (ht bH (some w)) (.string x.bY)) (.string x.bW)) (.int .i64 x.bM)) KK
  generalize World.setCell (World.setCell (World.setCell bH ⟨w,0,none⟩ (.string x.bY)) ⟨w,1,none⟩ (.string x.bW)) ⟨w,2,none⟩ (.int .i64 x.bM)= cP at *
  have z0:=J.cb
  have eG:=br.cb
  exact hV ⟨x,rfl,by omega,aA.mono KK,aG⟩ Zx
structure lQ (x:dE):Prop where
 dD:x.bT.length<=12
 dc:x.ch.length<=7
 dr:x.cz.length<=60
 eb:x.cC.length<=99
 eL:x.bQ.length<=30
 Ef:x.bY.size + x.bW.size<=30000
theorem lQ.i0 (h:lQ x):x.bT.length<=1048576:=Xr h.dD WG
theorem lQ.i1 (h:lQ x):x.ch.length<=1048576:=Xr h.dc WG
theorem lQ.i2 (h:lQ x):x.cz.length<=1048576:=Xr h.dr WG
theorem lQ.i3 (h:lQ x):x.cC.length<=1048576:=Xr h.eb WG
theorem lQ.i4 (h:lQ x):x.bQ.length<=1048576:=Xr h.eL WG
theorem lQ.tJ (h:lQ x):x.bY.size + x.bW.size<=1048576:=Xr h.Ef WG
theorem lQ.w (h:lQ x) (l:VU):lQ (lX x l):=by
 cases aB:gJ x
 .unfold lX;rw [aB];exact h
 .have aN:=Gk (l:=l) aB
  obtain⟨a0,a1,a2,a3,a4⟩:=uO (Gl aN)
  have h5:=(JU (Co aN)).1
  exact⟨Xr (show (lX x l).bT.length<=8 from a0) WG,Xr (show (lX x l).ch.length<=6 from a1) WG,Xr (show (lX x l).cz.length<=10 from a2) WG,show (lX x l).cC.length<=99 from a3,Xr (show (lX x l).bQ.length<=12 from a4) WG,h5⟩
theorem lQ.uN (h:lQ x) {w:World} {ck:QR} {e0:Nat} {cf:QR} {e1:Nat} {ct:QR} {e2:Nat} {cu:QR} {e3:Nat} {cl:QR} {e4:Nat} (O:fu B w ck e0 cf e1 ct e2 cu e3 cl e4 x.bT x.ch x.cz x.cC x.bQ):fa ck cf ct cu cl e0 e1 e2 e3 e4 x.bT x.ch x.cz x.cC x.bQ:=O.uN h.i0 h.i1 h.i2 h.i3 h.i4
theorem amt (h:v:=by
 go_wp2_with fail
 refine (uR 24 p A c cs cK (N + 2802) KK KK _ TC).mono ?_
 rintro e du ⟨b,rfl,JF⟩
 have Ga:=I (nr.o.bV JF.2);have rq:=I (dO.o.bV JF.2);have Aq:=I (lD.o.cur Bd JF.2);have xA:=I JF.1;have An:=I (bx rl.o JF.2);clear nr dO lD oI TC rl JF
 cases b
 .have Ih:=U
  have bE:=Ga.o.ca;have af:=rq.o.ca;have eO:=rq.o.hk
  go_wp2
  clear bE af eO
  refine hD 0 λcP aE=>?_
  have cp:ay cP w 46 #[ck x.bT e0,cf x.ch e1,x.dw,x.dp,x.dF,ct x.cz e2,cu x.cC e3,cl x.bQ e4,x.bY,x.bW,x.bM]:=aE.own rq.o;have ix:=Aq.o.hb rq.o aE.eC;have yX:=xA.o.row aE.eC (λk ax=>by have:=Wx ax;omega)
  have ph:=nR An.o aE.eC (λk ax=>by have:=Wx ax;omega);clear aE
  have z0:=cp.ca
  refine XY (v:= .agg #[ck x.bT e0,cf x.ch e1,x.dw,x.dp,x.dF,ct x.cz e2,cu x.cC e3,cl x.bQ e4,x.bY,x.bW,x.bM]) (by simp [results,Tryz.results48,go_sem,z0]) rfl ?_
  exact⟨x,ck,e0,cf,e1,ct,e2,cu,e3,cl,e4,rfl,Ih.o,ix,yX.mono KK,ph⟩
 .go_wp2_with fail
  refine (apk p A c cs cK (N + 2804) KK _ xA.o).mono ?_
  rintro e fS ⟨gP,rfl,GU,EO⟩
  have kP:=I (Ga.o.bV EO.2);have lW:=I (rq.o.bV EO.2);have od:=I (Aq.o.cur Bd EO.2);have lV:=I EO.1;have oZ:=I (bx An.o EO.2);clear Ga rq Aq xA An EO;have qk:=kP.o.hk;have bE:=kP.o.ca
  go_upto_region 8 with fail
  clear qk bE
  refine ra 8 λpP gz=>?_
  have tq:Hid (ay pP rG 46 #[ck x.bT e0,cf x.ch e1,x.dw,x.dp,x.dF,ct x.cz e2,cu x.cC e3,cl x.bQ e4,gP.bY,gP.bW,gP.bM]):=I (gz.own kP.o);have tB:=I (gz.dj lW.o);have fb:=I (od.o.hb kP.o gz.eC);have uw:=I (lV.o.row gz.eC (λk ax=>by have:=Wx ax;omega))
  have Gu:=I (nR oZ.o gz.eC (λk ax=>by have:=Wx ax;omega));have Ih:Hid (lQ (⟨x.bT,x.ch,x.dw,x.dp,x.dF,x.cz,x.cC,x.bQ,gP.bY,gP.bW,gP.bM⟩ :dE)):=I ⟨U.o.dD,U.o.dc,U.o.dr,U.o.eb,U.o.eL,Xr GU WG⟩;clear gz kP lW od lV oZ;have bE:=tq.o.ca;have af:=tB.o.ca;have eO:=tB.o.hk
  go_wp2
  clear bE af eO
  refine hD 0 λcP aE=>?_
  have cp:ay cP w 46 #[ck x.bT e0,cf x.ch e1,x.dw,x.dp,x.dF,ct x.cz e2,cu x.cC e3,cl x.bQ e4,gP.bY,gP.bW,gP.bM]:=aE.own tB.o;have ix:=fb.o.hb tB.o aE.eC;have yX:=uw.o.row aE.eC (λk ax=>by have:=Wx ax;omega)
  have ph:=nR Gu.o aE.eC (λk ax=>by have:=Wx ax;omega);clear aE
  have z0:=cp.ca
  refine XY (v:= .agg #[ck x.bT e0,cf x.ch e1,x.dw,x.dp,x.dF,ct x.cz e2,cu x.cC e3,cl x.bQ e4,gP.bY,gP.bW,gP.bM]) (by simp [results,Tryz.results48,go_sem,z0]) rfl ?_
  exact⟨⟨x.bT,x.ch,x.dw,x.dp,x.dF,x.cz,x.cC,x.bQ,gP.bY,gP.bW,gP.bM⟩,ck,e0,cf,e1,ct,e2,cu,e3,cl,e4,rfl,Ih.o,ix,yX.mono KK,ph⟩):v:=h
theorem acE (p:Nat) (A:QR) (c:Nat) (cs:List UInt8) (cK:cs) (N:Nat) (bU:N<=190000) (w:World) (aA:gX w p A c cs N):
 Rd 48 #[.pointer (some ⟨p,0,none⟩)] w λe ah=>∃(x:dE) (bN:QR) (d0:Nat) (bZ:QR) (d1:Nat) (aU:QR) (d2:Nat) (bd:QR) (d3:Nat) (bI:QR) (d4:Nat),e= .returned (.agg #[bN x.bT d0,bZ x.ch d1,x.dw,x.dp,x.dF,aU x.cz d2,bd x.cC d3,bI x.bQ d4,x.bY,x.bW,x.bM])/\lQ x/\fu w ah bN d0 bZ d1 aU d2 bd d3 bI d4 x.bT x.ch x.cz x.cC x.bQ/\Stepped w ah p A c cs (N + 2920):=by
 have Bd:=aA.lt
 go_in
 go_upto_region 1 with fail
 refine Xi λbm zj J=>?_
 have MJ:=aA.aK zj;have adV:w.grownBy bm (some p):=bL zj _;have nY:=zj.size;clear aA zj
 go_wp2_with fail
 refine (axp p A c cs cK N KK bm MJ).mono ?_
 rintro e aI ⟨rs,qs,tu,se,sp,ws,ae,os,ck,e0,cf,e1,ct,e2,cu,e3,cl,e4,rfl,vz,_,iS,pr,tE,EH,dv,aP⟩
 have ou:=J.bV aP.2;have Eu:=bx adV aP.2;have uv:=aP.1;have abd:=I (dv.base (B':=w) nY);clear dv aP J MJ adV
 obtain⟨x,av⟩ :∃x:dE,x=⟨rs,qs,tu,se,sp,ws,ae,os,⟨#[]⟩,⟨#[]⟩,0⟩:=⟨_,rfl⟩
 have pK:Hid (lQ x):=I (by rw [av];exact⟨vz,iS,pr,tE,EH,by show (⟨#[]⟩ :VU).size + (⟨#[]⟩ :VU).size<=30000;decide⟩);have jT:Hid (fu w aI ck e0 cf e1 ct e2 cu e3 cl e4 x.bT x.ch x.cz x.cC x.bQ):=I (by rw [av];exact abd.o)
 go_upto_region 2 with fail
 refine Xi λbw sI bJ=>?_
 obtain⟨rG,zB⟩ :∃b,b= aI.heap.size:=⟨_,rfl⟩
 rw [<- zB] at bJ ⊢
 have afr:w.heap.size < rG:=by have:=ou.lt;omega
 have qP:p < rG:=KK
 have PH:Hid (ay bw rG 46 #[ck x.bT e0,cf x.ch e1,x.dw,x.dp,x.dF,ct x.cz e2,cu x.cC e3,cl x.bQ e4,x.bY,x.bW,x.bM]):=I (by rw [av];exact bJ);have Cc:=I (ou.to sI);have adO:=uv.aK sI;have adW:=bx Eu (bL sI _);have jD:=I (jT.o.aK sI)
 clear zB bJ ou Eu uv sI abd jT av vz iS pr tE EH
 go_wp2_with fail
 refine (iI 5 p A c cK (N + 2600) KK KK bw adO).mono ?_
 rintro e bH ⟨r,rfl,⟨pX,_,gR⟩,CS⟩
 replace gR:=gR KK
 obtain⟨m0,rfl⟩ :∃m:Nat,r= m:=⟨r.toNat,by omega⟩
 have mL:=PH.o.bV CS.2;have tB:=Cc.o.bV CS.2;have fb:=jD.o.cur Bd CS.2;have Gu:=bx adW CS.2;have uw:=CS.1;clear PH Cc jD adO adW CS nY
 refine sa ?_ tB fb Gu uw
 clear tB fb Gu uw
 intro tB fb Gu uw
 have tq:=I mL;clear mL
 go_upto_region 3 with fail
 go_loopw [4] (λv wr=>∃(m:Nat) (x:dE) (ck:QR) (e0:Nat) (cf:QR) (e1:Nat) (ct:QR) (e2:Nat) (cu:QR) (e3:Nat) (cl:QR) (e4:Nat),v= .int .i64 m/\m<=4/\lQ x/\fu w wr ck e0 cf e1 ct e2 cu e3 cl e4 x.bT x.ch x.cz x.cC x.bQ/\ay wr rG 46 #[ck x.bT e0,cf x.ch e1,x.dw,x.dp,x.dF,ct x.cz e2,cu x.cC e3,cl x.bQ e4,x.bY,x.bW,x.bM]/\ay wr w 46 #[(),(),(0:Int),(0:Int),(0:Int),(),(),(),.string ⟨#[]⟩,.string ⟨#[]⟩,(0:Int)]/\gX wr p A c cs (N + 2602 + 30 * (4 - m))/\w.grownBy wr (some p)) (λv _=>(intOf v).toNat)
 case atStart=>exact⟨m0,x,ck,e0,cf,e1,ct,e2,cu,e3,cl,e4,rfl,by omega,pK.o,fb.o,tq.o,tB.o,uw.o.mono KK,Gu.o⟩
 case round=>
  clear tq tB fb Gu uw pK pX gR
  obtain⟨m,x,ck,e0,cf,e1,ct,e2,cu,e3,cl,e4,rfl,hm,bz,aV,bJ,J,aA,dd⟩:=hrel
  have U:=I bz;have iJ:=I aV;have fL:=I bJ;have jN:=I J;have hK:=I aA;have aG:=I dd;have iu:=I (bz.uN aV);clear bz aV J aA dd
  obtain⟨adG,aeN⟩ :∃b,gJ x= b:=⟨_,rfl⟩
  have cI:=I aeN;have bE:=bJ.ca;clear aeN bJ
  by_cases EI:0 < m
  .go_wp2_with fail
   refine (Bm x U.o.i0 U.o.i1 U.o.i2 U.o.i3 U.o.i4 U.o.tJ _ cI.o iJ.o.rd.fC iJ.o.rd.dM iJ.o.rd.r2 iJ.o.rd.gS iJ.o.rd.ll iu.o.ev iu.o.eU iu.o.cL iu.o.dS iu.o.hl).mono ?_
   rintro e cO ⟨rfl,eM⟩
   clear bE;have nr:=I (fL.o.ad eM fL.o.lt);have dO:=I (jN.o.ad eM jN.o.lt);have lD:=I (iJ.o.aK eM);have oI:=I (hK.o.aK eM);have rl:=I (bx aG.o (bL eM _));clear fL jN iJ hK aG eM
   cases adG
   .skip
    have TC:=oI.o.mono (M:=N + 2802) KK
    exact amt
   .have aBr:=rl.o.size
    obtain⟨dx,et⟩ :∃X:World->Prop,∀V,X V↔ay V rG 46 #[ck x.bT e0,cf x.ch e1,x.dw,x.dp,x.dF,ct x.cz e2,cu x.cC e3,cl x.bQ e4,x.bY,x.bW,x.bM]:=⟨_,λ_=>Xt⟩
    replace et:=I et
    go_upto_region 5 with fail
    haveI:Nonempty (cM dx):=⟨⟨cO,(et.o _).2 nr.o⟩⟩
    haveI:Nonempty (cM (λ_=>True)):=⟨⟨cO,trivial⟩⟩
    obtain⟨cA,x1,cB,cY,cZ,dG,dH,dA,gV,gW,gU⟩:=ay.pS (λK:cM dx=>(et.o _).1 K.holds)
    refine tV dx [([0,1,2],[],3,false),([],[],4,false),([],[5,6,7],8,true)] [] [] PV PV ((et.o _).2 (nr.o.ad (Wt _ _).drew nr.o.lt)) ?_
    have fO:Below cO cO cO.drew:=(Wt _ _).drew;have LG:=I (nr.o.ad fO nr.o.lt);have lG:=I (dO.o.ad fO dO.o.lt);have kf:=I (lD.o.aK fO);have nH:=I (oI.o.aK fO);have DJ:=I (bx rl.o (bL fO _));have zY:=fO.size;clear fO nr dO lD oI rl
    generalize cO.drew= wd at *
    refine jj λhE eu=>?_
    refine YI ?_
    repeat go_big_quiet_step (fail)
    refine VF ?_
    refine VF ?_
    refine XV ?_
    go_wp2_with fail
    refine (Mn (Xr U.o.dD WG) (Xr U.o.dc WG) cK KK nH.o kf.o.rd.fC kf.o.rd.dM ⟨tM kf.o.jg Bd,tM kf.o.hx Bd⟩).mono ?_
    rintro e dk ⟨y,rfl,hy,Hc⟩
    have qz:=I (LG.o.bV Hc.2);have ue:=I (lG.o.bV Hc.2);have sv:=I (kf.o.cur Bd Hc.2);have pM:=I Hc.1;have ua:=I (bx DJ.o Hc.2);have aix:=Hc.size;clear Hc LG lG kf nH DJ
    go_wp2
    refine nK ((et.o _).2 qz.o) (eu _ _ ?_)
    refine jj λff da=>?_
    refine VF ?_
    refine VF ?_
    refine XV ?_
    clear cA x1 cB cY cZ dG dH dA gV gW gU
    go_wp2_with fail
    refine (OO x iu.o U.o.tJ y KK sv.o.rd).mono ?_
    rintro e fS ⟨cB,z,lA,f0,lR,f1,lS,f2,lT,f3,lU,f4,rfl,mN,OF,gv⟩
    have kP:=I (qz.o.ad gv qz.o.lt);have lW:=I (ue.o.ad gv ue.o.lt);have od:=I (OF.base (B':=w) KK);have lV:=I (pM.o.aK gv);have oZ:=I (bx ua.o (bL gv _));have jM:Hid (lQ cB):=I (by rw [<- mN.o.1];exact U.o.w y);clear OF gv qz ue sv pM ua mN
    go_wp2
    refine nK ((et.o _).2 kP.o) (da _ _ ?_)
    refine jj λxE oq=>?_
    refine VF ?_
    refine YI ?_
    repeat go_big_quiet_step (fail)
    refine VF ?_
    refine XV ?_
    have bE:=kP.o.ca;have qk:=kP.o.hk
    go_wp2
    clear bE qk
    refine hD 0 λcP aE=>?_
    refine rP (oq _ _ ?_)
    refine qu ?_
    refine VF ?_
    refine VF ?_
    have kg:=aE.jo kP.o;have cp:=aE.dj lW.o;have ix:=od.o.hb kP.o aE.eC;have yX:=lV.o.row aE.eC (λk ax=>by have:=Wx ax;omega)
    have ph:=nR oZ.o aE.eC (λk ax=>by have:=Wx ax;omega);clear aE
    have ki:(m:Int) - 1= ((m - 1:Nat):Int):=KK
    go_wp2
    go_roundw
    case rel=>exact⟨m - 1,cB,lA,f0,lR,f1,lS,f2,lT,f3,lU,f4,by rw [<- ki],by omega,jM.o,ix,kg,cp,yX.mono KK,ph⟩
    case measure=>simp [intOf];omega
  .have nr:=fL;have dO:=jN;have lD:=iJ;have oI:=hK;have rl:=aG;clear fL jN iJ hK aG;clear bE;have TC:=oI.o.mono (M:=N + 2802) KK
   exact amt
structure xF (c x:dE):Prop where
 ok:gJ x= true
 st:xo c (iz x.log) (iz x.log).length= x
 Ck:∀k,k < (iz x.log).length->si c (iz x.log) k= true
theorem RM {x:ft} (h:x.ok= true):x.bM= ((iz x).length:Int):=by
 have h1:=(XT (show jJ x.d x.p x.bM= true from h)).2.2.2
 unfold iz pZ
 rw [XX (show jJ x.d x.p x.bM= true from h),h1]
theorem XS:(⟨⟨#[]⟩,⟨#[]⟩,0⟩ :ft).ok= true/\iz ⟨⟨#[]⟩,⟨#[]⟩,0⟩ =[]:=by
 have h:(⟨⟨#[]⟩,⟨#[]⟩,0⟩ :ft).ok= true:=by
  have:=agH [] Wn
  have e:ik []= 0:=by have:=(Gq []).2;simpa using this
  rw [e] at this
  have e2:hc []= []:=by unfold hc ir;rw [ahT];rfl
  rw [e2] at this
  exact this
 refine⟨h,YD.1 ?_⟩
 have:=RM h
 simp only at this
 omega
theorem amz (h:v:=by
 clear aE
 have z0:=cp.ca
 refine XY (v:= .tuple #[.agg #[ck x.bT e0,cf x.ch e1,x.dw,x.dp,x.dF,ct x.cz e2,cu x.cC e3,cl x.bQ e4,x.bY,x.bW,x.bM],y]) (by simp [results,Tryz.results24,go_sem,z0]) rfl ?_
 exact⟨x,y,ck,e0,cf,e1,ct,e2,cu,e3,cl,e4,rfl,U.o,by omega,ix.base KK,Cu ph (XZ _) (λk ax=>by have:=Wx ax;omega)⟩):v:=h
theorem acX (A:QR) (c:Nat) (cs:List UInt8) (cK:cs) (w:World) (bB:aX 1 Ac w A cs):
 Rd 24 #[A cs c] w λe ah=>∃(x:dE) (y:VU) (bN:QR) (d0:Nat) (bZ:QR) (d1:Nat) (aU:QR) (d2:Nat) (bd:QR) (d3:Nat) (bI:QR) (d4:Nat),e= .returned (.tuple #[.agg #[bN x.bT d0,bZ x.ch d1,x.dw,x.dp,x.dF,aU x.cz d2,bd x.cC d3,bI x.bQ d4,x.bY,x.bW,x.bM],y])/\lQ x/\y.size<=2000/\fu w ah bN d0 bZ d1 aU d2 bd d3 bI d4 x.bT x.ch x.cz x.cC x.bQ/\Below w w ah:=by
 go_in
 go_upto_region 2 with fail
 have bC:∀eH,A= some eH->0 < cs.length->eH.block < w.heap.size:=λeH h h0=>by
  obtain⟨b,off,h1,h2,_⟩:=bB h0
  rw [h1] at h;cases h;exact h2
 refine fU λiB ar J ru=>?_
 have U:=ar;obtain⟨z0,bF,z2,z3,z4,z5,ek,ig,iE,z9,iD⟩:=J.ca
 obtain⟨p,zw⟩ :∃p,p= w.heap.size + 1:=⟨_,rfl⟩
 have aA:gX iB p A c cs 0:=by rw [zw];exact⟨⟨0,0,ru,by decide,by decide⟩,bB.ad U,λeH h h0=>by have:=bC eH h h0;omega⟩
 rw [<- zw]
 have afx:w.heap.size < p:=KK
 have pW:=aA.lt;have MO:w.grownBy iB (some p):=bL U _;have afo:=U.size;clear bC ru bB zw U z0 bF z2 z3 z4 z5 ek ig iE z9 iD
 go_wp2_with fail
 refine (acE p A c cs cK 0 KK iB aA).mono ?_
 rintro e aI ⟨x,ck,e0,cf,e1,ct,e2,cu,e3,cl,e4,rfl,bz,aV,aP⟩
 have ou:=J.bV aP.2;have uv:=aP.1;have Eu:=bx MO aP.2;have nj:=uv.lt;clear aP aA MO J
 go_upto_region 3 with fail
 refine Xi λbw sI bJ=>?_
 obtain⟨rG,zB⟩ :∃b,b= aI.heap.size:=⟨_,rfl⟩
 rw [<- zB] at bJ ⊢
 have qP:p < rG:=KK
 have U:=I bz;have fL:=I bJ;have jN:=I (ou.to sI);have iJ:=I (aV.aK sI);have hK:=I (uv.aK sI);have aG:=I (bx Eu (bL sI _));clear zB bJ ou Eu uv sI aV bz nj;have bE:=fL.o.ca
 go_wp2_with fail
 clear bE
 refine (Mn (Xr U.o.dD WG) (Xr U.o.dc WG) cK KK hK.o iJ.o.rd.fC iJ.o.rd.dM ⟨tM iJ.o.jg pW,tM iJ.o.hx pW⟩).mono ?_
 rintro e eB ⟨y,rfl,hy,aP⟩
 have tq:=I (fL.o.bV aP.2);have xD:=I (jN.o.bV aP.2);have kX:=I (iJ.o.cur pW aP.2);have qw:=I aP.1;have rL:=I (bx aG.o aP.2);clear fL jN iJ hK aG
 go_wp2_with fail
 refine (iI 5 p A c cK 2940 KK KK _ qw.o).mono ?_
 rintro e cO ⟨r,rfl,⟨pX,_,gR⟩,aP⟩
 replace gR:=gR KK
 obtain⟨m0,rfl⟩ :∃m:Nat,r= m:=⟨r.toNat,by omega⟩
 have nr:=I (tq.o.bV aP.2);have dO:=I (xD.o.bV aP.2);have lD:=I (kX.o.cur pW aP.2);have oI:=I aP.1;have rl:=I (bx rL.o aP.2);clear tq xD kX qw rL
 go_upto_region 5 with fail
 go_loopw [6,7] (λv i wr=>∃(m:Nat) (y:VU),v= .string y/\i= .int .i64 m/\m<=4/\y.size<=200 + 201 * (4 - m)/\ay wr rG 46 #[ck x.bT e0,cf x.ch e1,x.dw,x.dp,x.dF,ct x.cz e2,cu x.cC e3,cl x.bQ e4,x.bY,x.bW,x.bM]/\ay wr w 46 #[(),(),(0:Int),(0:Int),(0:Int),(),(),(),.string ⟨#[]⟩,.string ⟨#[]⟩,(0:Int)]/\fu iB wr ck e0 cf e1 ct e2 cu e3 cl e4 x.bT x.ch x.cz x.cC x.bQ/\gX wr p A c cs (3000 + 20 * (4 - m))/\w.grownBy wr (some p)) (λ_ i _=>(intOf i).toNat)
 case atStart=>exact⟨m0,y,rfl,rfl,by omega,by omega,nr.o,dO.o,lD.o,oI.o.mono KK,rl.o⟩
 case round=>
  clear nr dO lD oI rl hy pX gR
  obtain⟨m,y,rfl,rfl,hm,hy,bJ,J,aV,aA,dd⟩:=hrel
  refine Dd ?_ bJ J aV aA dd;clear bJ J aV aA dd;intro bJ J aV aA dd
  by_cases EI:0 < m
  .have bE:=bJ.o.ca
   go_wp2_with fail
   clear bE
   refine (Mn (Xr U.o.dD WG) (Xr U.o.dc WG) cK KK aA.o aV.o.rd.fC aV.o.rd.dM ⟨tM aV.o.jg pW,tM aV.o.hx pW⟩).mono ?_
   rintro e eB ⟨hU,rfl,rD,aP⟩
   have kP:=I (bJ.o.bV aP.2);have lW:=I (J.o.bV aP.2);have od:=I (aV.o.cur pW aP.2);have lV:=I aP.1;have oZ:=I (bx dd.o aP.2);clear bJ J aV aA dd
   have ki:(m:Int) - 1= ((m - 1:Nat):Int):=KK
   have NR:((y ++ (⟨#[10]⟩ :VU)) ++ hU).size<=200 + 201 * (4 - (m - 1)):=Xr (pD (pD (n:=1) hy WG) rD) KK
   go_wp2
   go_roundw
   case rel=>exact⟨m - 1,_,rfl,by rw [<- ki],by omega,NR,kP.o,lW.o,od.o,lV.o.mono KK,oZ.o⟩
   case measure=>simp [intOf];omega
  .have aaC:=aA.o.mono (M:=3100) KK
   go_wp2_with fail
   refine (uR 20 p A c cs cK 3100 KK KK _ aaC).mono ?_
   rintro e fS ⟨b,rfl,aP⟩
   clear aaC;have kP:=I (bJ.o.bV aP.2);have lW:=I (J.o.bV aP.2);have od:=I (aV.o.cur pW aP.2);have lV:=I aP.1;have oZ:=I (bx dd.o aP.2);clear bJ J aV aA dd
   cases b
   .have NR:y.size<=2000:=KK
    clear hy;have bE:=kP.o.ca;have af:=lW.o.ca;have eO:=lW.o.hk
    go_wp2
    clear bE af eO
    refine hD 0 λcP aE=>?_
    have cp:ay cP w 46 #[ck x.bT e0,cf x.ch e1,x.dw,x.dp,x.dF,ct x.cz e2,cu x.cC e3,cl x.bQ e4,x.bY,x.bW,x.bM]:=aE.own lW.o;have ix:=od.o.hb lW.o aE.eC;have ph:=nR oZ.o aE.eC (λk ax=>by have:=Wx ax;omega)
    exact amz
   .go_wp2_with fail
    refine (iI 2 p A c cK 3102 KK KK _ lV.o).mono ?_
    rintro e du ⟨r,rfl,⟨pX,_,gR⟩,aP⟩
    replace gR:=gR KK
    obtain⟨ev,GN⟩ :∃k:Nat,29 + r= k:=⟨(29 + r).toNat,by omega⟩
    have Ga:=I (kP.o.bV aP.2);have rq:=I (lW.o.bV aP.2);have Aq:=I (od.o.cur pW aP.2);have An:=I (bx oZ.o aP.2);clear kP lW od lV oZ;clear hy
    go_upto_region 11 with fail
    go_loopw [6,8] (λv i wr=>∃(m:Nat) (y:VU),v= .string y/\i= .int .i64 m/\m<=30/\y.size<=30 - m/\du= wr) (λ_ i _=>(intOf i).toNat)
    case atStart=>exact⟨ev,⟨#[]⟩,rfl,rfl,by omega,Xd _,rfl⟩
    case round=>
     obtain⟨m,y,rfl,rfl,hm,hy,hw⟩:=hrel
     subst hw
     by_cases EI:0 < m
     .have ki:(m:Int) - 1= ((m - 1:Nat):Int):=KK
      have NR:(y ++ (⟨#[10]⟩ :VU)).size<=30 - (m - 1):=Xr (pD (n:=1) hy WG) KK
      go_wp2
      go_roundw
      case rel=>exact⟨m - 1,_,rfl,by rw [<- ki],by omega,NR,trivial⟩
      case measure=>simp [intOf];omega
     .have bE:=Ga.o.ca;have af:=rq.o.ca;have eO:=rq.o.hk
      go_wp2
      clear bE af eO
      refine hD 0 λcP aE=>?_
      have cp:ay cP w 46 #[ck x.bT e0,cf x.ch e1,x.dw,x.dp,x.dF,ct x.cz e2,cu x.cC e3,cl x.bQ e4,x.bY,x.bW,x.bM]:=aE.own rq.o;have ix:=Aq.o.hb rq.o aE.eC;have ph:=nR An.o aE.eC (λk ax=>by have:=Wx ax;omega)
      exact amz
theorem aHX (x:dE) {bN bZ aU bd bI:QR} {d0 d1 d2 d3 d4:Nat} (h0:x.bT) (h1:x.ch) (h2:x.cz) (h3:x.cC) (h4:x.bQ) {w:World} (R:eF w aq au ak al aF x.bT x.ch x.cz x.cC x.bQ) (Q:eF w bN bZ aU bd bI x.bT x.ch x.cz x.cC x.bQ):
 Rd 20 #[.agg #[aq x.bT c0,au x.ch aw,x.dw,x.dp,x.dF,ak x.cz c2,al x.cC c3,aF x.bQ c4,x.bY,x.bW,x.bM],.agg #[bN x.bT d0,bZ x.ch d1,x.dw,x.dp,x.dF,aU x.cz d2,bd x.cC d3,bI x.bQ d4,x.bY,x.bW,x.bM]] w λe ah=>e= .returned true/\Below w w ah:=by
 replace R:=I R;replace Q:=I Q
 go_in
 go_upto_region 1 with fail
 refine fU λaO ar aR rv=>?_
 have U:=ar
 have a0:=aR.ca
 have dD:=rv.ca
 go_wp2_with fail
 refine (aBL h0 h1 h2 h3 h4 (R.o.ad U) (Q.o.ad U)).mono ?_
 rintro e aI ⟨rfl,aQ⟩
 clear a0 dD;have a':=(aR.to aQ).ca;have df:=(rv.to aQ).ca
 go_wp2
 go_ret
 exact⟨rfl,ai U aQ⟩
def Ab (s:ByteArray):List ByteArray:=if s.size<=4000 then hj 10 s else []
theorem ajx (s:VU) (aP:s.size<=1048576) (w:World):
 Rd 27 #[s,.string ⟨#[10]⟩] w λe ah=>∃A n,e= .returned (.tuple #[.slice A (Ab s).length n,.bool (decide (s.size<=4000))])/\bn w 9 1 hh ah (.slice A (Ab s).length n) (Ab s)/\Below w w ah:=by
 by_cases h4:s.size<=4000
 .have e1:Ab s= hj 10 s:=XX h4
  rw [e1,Xh h4]
  have fI:¬(4000:Int) < (s.size:Int):=KK
  have eI:decide ((4000:Int) < (s.size:Int))= false:=Xe fI;have rO:=I (XO s 10 aP w)
  generalize hj 10 s= ls at *
  clear e1
  go_in
  go_wp2_with fail
  refine rO.o.mono ?_
  rintro e aI ⟨A,n,rfl,O,aB⟩
  go_wp2
  go_ret2
  exact⟨A,n,rfl,O,aB⟩
 .have e1:Ab s= []:=XU h4
  rw [e1,Xe h4]
  have fI:(4000:Int) < (s.size:Int):=KK
  have eI:decide ((4000:Int) < (s.size:Int))= true:=Xh fI;clear e1
  go_in
  have lq:=bn.made (sz:=1) (f:=hh) w (B:=w) (XZ _) 9
  go_wp2
  go_ret2
  exact⟨_,0,rfl,lq,bP _ _⟩
theorem aHP:ownKnob Tryz.prog.godebug= none:=PV
theorem aHO:laidOutB Tryz.prog= true:=PV
section
variable {H:Type} {enc:TypeId×Value->H} {w:World} {base:Nat} {sp:Nat->Bool} {cr:Bool} {fuel:Nat} {cs:List Value} {x:DataW H×List MemPlace}
end
variable {H:Type} {enc:TypeId×Value->H} {w:World} {base fuel:Nat} {sp:Nat->Bool} {cr:Bool} {cs:List Value} {x:DataW H×List MemPlace}
theorem UX:Tryz.prog.cellsOf 5= 1:=PV
theorem aGc (h:DataW.trod enc Tryz.prog w base sp cr fuel 5 cs= some x):∃y:UInt8,cs= Ac y:=by
 obtain⟨n,rfl,h1,h2⟩:=DataW.trod_int Tryz.underlying5 h
 unfold Lit.wf at h2
 rw [Xa,Xf,Xf] at h2
 have m1:IntKind.u8.min= 0:=WG
 have m2:IntKind.u8.max= 255:=WG
 have h3:0<=n/\n<=255:=by
  rw [m1,m2] at h2
  omega
 refine⟨UInt8.ofNat n.toNat,?_⟩
 show [Value.int .u8 n]= [Value.int .u8 ((UInt8.ofNat n.toNat).toNat:Int)]
 have e:((UInt8.ofNat n.toNat).toNat:Int)= n:=by
  rw [UInt8.toNat_ofNat']
  omega
 rw [e]
theorem ajN {H:Type} {enc:TypeId×Value->H} {w:World} {sp:Nat->Bool}:∀{nC:List String} {gs:List (DataW H)} {ps:List MemPlace},DataW.TrodVars enc P w sp nC gs ps->gs.length= nC.length
 | [],[],_,_=>rfl
 | _ ::_,_ ::_,_,h=>by obtain⟨_,_,_,_,_,_,_,_,_,_,h2,_⟩:=h;simp [ajN h2]
 | [],_ ::_,_,h=>h.elim
 | _ ::_,[],_,h=>h.elim
theorem awP {H:Type} {enc:TypeId×Value->H}   {s:ChangeSpec} {fz:World} {args:Array Value} {pg gs:List (DataW H)} {before:List MemPlace} 
  (Rn:laidOutB P= true) (aFV:∀t ∈ fn.params.toList,P.readableRec t= true/\t < P.types.size) (aFX:fn.resultTypes= #[rt]) (Wv:P.underlying rt= some .bool) (aFu:varsRowed P s.vars= true)
  (aFo:∀l g:List (DataW H),l.length= fn.params.toList.length->g.length= s.vars.length->s.fn H (l ++ g)= {results:=[.lit (.bool true)],args:=l,vars:=g})
  (cv:DataW.Whole enc P fn.params.toList s.vars false W args.toList pg gs before) (aB:Below W W fz):s.post enc P fn false true false false W args (.bool true) fz:=by
 have bC:=cv.lt;have Wh:=cv
 obtain⟨p,q,bl,iq,rfl,atg,Bb⟩:=cv
 have kJ:=aFo pg gs (ajM bl) (ajN iq)
 refine⟨pg,gs,p ++ q,[],p,q,Wh,?_,?_,?_,aB.frame _,λh=>by cases h⟩
 .rw [kJ,aFX];exact trodAll_mk1 (shut_bool Wv true)
 .rw [kJ];exact ajL Rn aB aFV (λx av=>bC x (Yj _ av)) bl
 .rw [kJ];exact Below.trodVars Rn aB aFu iq
theorem Vd {H:Type} {enc:TypeId×Value->H} {C:Checked} {os:Os} {f:FuncId}  {s:ChangeSpec} {F:Stop.Interp}  {laid:List (String×DataW Unit)} (own:ownKnob C.prog.godebug= none) (started:os.Started) (axB:C.prog.inits.idxOf? f= none) (GI:C.prog.funcs[f]? =some fn)
  (witness:∃(w:World) (tape:Tape) (i:Input),w.os= os/\(w.forCall tape i).Shaped C.prog/\i.vars= []/\Input.okWide C.prog (w.forCall tape i) .any w f i/\
   (OpenSpec.ofChange s).preRow enc C.prog fn [] false laid (w.forCall tape i).memory i.args/\({}:Assume).holds C.prog (lone (Frame.enter C.prog f i.args .normal) [] (w.forCall tape i)))
  (Rn:laidOutB C.prog= true) (aFV:∀t ∈ fn.params.toList,C.prog.readableRec t= true/\t < C.prog.types.size) (aFX:fn.resultTypes= #[rt]) (Wv:C.prog.underlying rt= some .bool) (aFu:varsRowed C.prog s.vars= true)
  (aFo:∀l g:List (DataW H),l.length= fn.params.toList.length->g.length= s.vars.length->s.fn H (l ++ g)= {results:=[.lit (.bool true)],args:=l,vars:=g})
  (walk:∀(W:World) (base:Nat) (args:Array Value) (pg:List (DataW H)) (p:List MemPlace),laidMetH C.prog laid W->W.ShapedOpen C.prog->(∀(j:Nat) t v,fn.params[j]? =some t->args[j]? =some v->Value.okWide C.prog W .any base t v)->
   DataW.TrodAll enc C.prog W 0 (λ_=>true) true fn.params.toList args.toList pg p->Calls C.prog f args W λe fz=>e= .returned true/\Below W W fz):
  ReturnsInHanded {} C os f .any ((OpenSpec.ofChange s).preRow enc C.prog fn [] false laid) (((OpenSpec.ofChange s).at F).post enc C.prog fn false true false false):=by
 refine returnsInHanded_of_row (C:=C) (s:=OpenSpec.ofChange s) own started axB GI witness ?_
 intro W base args pg gs before px cv _ _ _ br lM _
 have Wh:=cv
 obtain⟨p,q,bl,_,_,_,_⟩:=cv
 exact (walk W base args pg p br lM px bl).mono λe fz ⟨he,aB⟩=>⟨_,he,awP (s:=s) Rn aFV aFX Wv aFu aFo Wh aB⟩
theorem aGg {α β aCo:Type} {x:Option (α×β×aCo)} {a:α} {b:β} (h:x.map (λy=>(y.1,y.2.1))= some (a,b)):∃c,x= some (a,b,c):=by
 cases x with
 | none=>cases h
 | some y=>obtain⟨sl,hU,vb⟩:=y;simp at h;obtain⟨rfl,rfl⟩:=h;exact⟨vb,rfl⟩
theorem awL:(Rows.laid_internal_strconv_uint64pow10:DataW Unit)= Lib.tabData .u64 Lib.pow10Tab:=rfl
theorem aId {laid:List (String×DataW Unit)} (hf:laid.filter (λx=>x.1 == "internal/strconv.uint64pow10")= [("internal/strconv.uint64pow10",Rows.laid_internal_strconv_uint64pow10)]) (h:laidMetH Tryz.prog laid W):jV W:=by
 have h1:=h.filter (λx=>x.1 == "internal/strconv.uint64pow10")
 rw [hf,awL] at h1
 have h2:=Lib.tabIs_of_head (P:=Tryz.prog) (rest:=[]) (t:=290) (e:=93) VA PV Tryz.underlying290 Tryz.underlying93 PV PV h1
 refine⟨?_,h2⟩
 have h3:=h2.cell VA 0 WG
 exact World.block_lt_of_cell? W _ h3
set_option maxHeartbeats 4000000
theorem aqB (u:TypeId) (h:Tryz.prog.typeName? 3 u= some "*errors.errorString"):u= 326:=
 typeName_ptr_named (nm:= "errors.errorString") (by rw [show "*" ++ "errors.errorString" = "*errors.errorString" by decide];kernel_rfl) PV WG u (by rw [show "*" ++ "errors.errorString" = "*errors.errorString" by decide];exact h)
theorem Vk {laid:List (String×DataW Unit)} (hf:laid.filter (λx=>x.1 == "strconv.ErrSyntax")= [("strconv.ErrSyntax",Rows.laid_strconv_ErrSyntax)]) (h:laidMetH Tryz.prog laid W):Ib W:=by
 have h1:=h.filter (λx=>x.1 == "strconv.ErrSyntax")
 rw [hf,MakeChecks.laidMetH_plain _ _ _ PV] at h1
 obtain⟨a0,s0,afu,-,-,-⟩:=laid_sentinel h1 VB PV Tryz.underlying257 aqB Tryz.underlying326 Tryz.underlying328 rfl rfl Tryz.underlying9 PV PV
 exact⟨World.block_lt_of_cell? W _ (World.var?_cell VB afu 0),_,_,afu⟩
theorem aHA (h:W.ShapedOpen Tryz.prog):Cf W:=by
 obtain⟨m,hm⟩:=cell_of_shapedOpen_int (P:=Tryz.prog) (g:=1) (t:=3) (zero:=#[(0:Int)]) h (of_decide_eq_true PV) PV rfl PV PV Tryz.underlying3
 exact⟨World.block_lt_of_cell? W _ hm,m,hm⟩
end Go.Proofs.YtlaaemmmbodaaaaGreatDoor
