/- Parts. -/
import Derived.Test.YtlaaemmmbodaaaaGreatDoorFx7
set_option maxHeartbeats 16000000
set_option maxRecDepth 100000
set_option linter.all false
open Go Go.RowKit Go.Proofs.YtlaaemmmbodaaaaGreatDoor
variable {g k c0 aw c2 c3 c4 N:Nat} {t:TypeId} {cs:List UInt8} {a b:VU} {l:cN} {n:Int} {w0 ah:World} {x:dE} {aq au ak al aF A:QR} {rs:List aM} {v:Prop}
namespace Go.Proofs.YtlaaemmmbodaaaaGreatDoor
theorem Ze (h:v:=by show w.heap.size<=w.heap.size;omega):v:=h
theorem Zq (h:v:=by simp [results,Tryz.results153,go_sem,hr]):v:=h
theorem Zy (h:v:=by have:=bG.size;have:=J.lt;simp;omega):v:=h
theorem aGI (h:v:=by simp [results,Tryz.results57,go_sem,hr]):v:=h
theorem aGJ (h:v:=by simp [results,Tryz.results51,go_sem,hr]):v:=h
theorem aGN (h:v:=by have h1:=bD.size;simp at h1;omega):v:=h
theorem ay.drew {w:World} {cs:Array Value} (h:ay w g t cs):ay w.drew g t cs:=h
theorem XN (l:cN) (c:UInt8) (aT:l) (w:World):Rd 67 #[.string (bs l),.int .u8 (c.toNat:Int)] w λe ah=>∃g m n,e= .returned (.slice (some ⟨g,0,none⟩) m n)/\1<=m/\m<=l.length + 1/\((2<=m)↔kT c l= true)/\ah.cell? ⟨g,0,none⟩ =some (.string (bs (ep c l)))/\w.heap.size<=g/\g < ah.heap.size/\Below w w ah:=by
 refine (awt l c aT w).mono ?_
 rintro e ah ⟨A,n,ys,rfl,aV,bJ,aB⟩
 have aS:0 < ys.length:=by have:=bJ.ne;omega
 obtain⟨g,cap,cur,az,bz,gl,vC,pV,cK⟩:=aV.block aS
 injection az with h1 h2 h3
 subst h1 h3
 obtain⟨b,off,bl,bC,aN⟩:=aV.ej (hf:=Kz) aS
 injection bl with bl
 injection bl with hA1 hA2
 subst hA1 hA2
 refine⟨g,ys.length,n,rfl,by omega,bJ.len,bJ.two,?_,bz,bC,aB⟩
 exact aN 0 _ bJ.first 0 _ rfl
theorem ajD (h:a≠b):(a.toList == b.toList)= false:=Xb.2 aGV
theorem ajC (h:a= b):(a.toList == b.toList)= true:=Xx.2 (by rw [h])
theorem aww (l t rest ask rep:cN) (k:Nat) (ax:k < 100) (aed:(eW (k:Int)).size<=10)
 (rO:Hid (∀W,Rd 67 #[.string (bs l),.int .u8 35] W λe ah=>∃g m n,e= .returned (.slice (some ⟨g,0,none⟩) m n)/\1<=m/\m<=l.length + 1/\((2<=m)↔kT 35 l= true)/\ah.cell? ⟨g,0,none⟩ =some (.string (bs t))/\W.heap.size<=g/\g < ah.heap.size/\Below W W ah)) (abr:Hid (∀W,Rd 67 #[.string (bs rest),.int .u8 64] W λe ah=>∃g m n,e= .returned (.slice (some ⟨g,0,none⟩) m n)/\1<=m/\m<=rest.length + 1/\((2<=m)↔kT 64 rest= true)/\ah.cell? ⟨g,0,none⟩ =some (.string (bs ask))/\W.heap.size<=g/\g < ah.heap.size/\Below W W ah))
 (heq:((((bs t).extract 0 ((eW (k:Int)).size + 1))).toList == (eW (k:Int) ++ (⟨#[32]⟩ :VU)).toList)= true) (AZ:(eW (k:Int)).size + 1<=(bs t).size) (aft:(bs t).size<=1048576)
 (kl:(bs t).extract ((eW (k:Int)).size + 1) (bs t).size= bs rest) (EM:(bs rest).extract ((bs ask).size + 1) (bs rest).size= bs rep)
 (aB:(((bs ask).size:Int) == ((bs rest).size:Int))= false) (iS:(bs ask).size + 1<=(bs rest).size) (pr:(bs rest).size<=1048576) (tE:(bs rep).size<=1048576) (EH:(bs l).size<=1048576)
 (v:Bool) (az:(mc ask rep && decide (gq k ask rep= l))= v) (w:World):
  Rd 153 #[.string (bs l),k] w λe ah=>e= .returned (.tuple #[.agg #[.string (bs ask),.string (bs rep)],v])/\Below w w ah:=by
 have Jz:∀W,Rd 60 #[.agg #[.string (bs ask),.string (bs rep)]] W λe ah=>e= .returned (.bool (mc ask rep))/\Below W W ah:=λW=>Hr (bs ask) (bs rep) KK KK _ rfl W
 replace Jz:=I Jz
 cases fo:mc ask rep
 .have rC:v= false:=by rw [<- az,fo];rfl
  subst rC
  rw [fo] at Jz
  clear fo az
  go_in
  go_wp2_with fail
  refine (py k KK KK _).mono ?_
  rintro e bm ⟨rfl,bD⟩
  have ar:=be w bD;have U:Below w w bm:=ar;have J:ay bm w 56 #[.string ⟨#[]⟩,.string ⟨#[]⟩]:=ay.eV bD;have z0:=J.fD
  go_wp2_with fail
  refine (rO.o _).mono ?_
  rintro e aI ⟨g,m2,n,rfl,ki,vA,vB,aN,cy,eI,aQ⟩
  have aj:=be bm aQ;replace U:=ai U aj;replace J:=J.to aj;replace z0:=J.fD
  go_wp2_with fail
  refine (abr.o _).mono ?_
  rintro e bw ⟨bS,m3,hn,rfl,aeZ,afa,afb,vx,GJ,aeM,bG⟩
  have aY:=be aI bG;replace U:=ai U aY;replace J:=J.to aY;replace z0:=J.fD
  go_wp2
  have ec:ay (bw.alloc (.cells #[.string (bs ask),.string (bs rep)] 56)) bw 56 #[.string (bs ask),.string (bs rep)]:=ay.new _ _ _;have Nb:=J.alloc (.cells #[.string (bs ask),.string (bs rep)] 56)
  haveI:Nonempty (cM λV=>ay V bw 56 #[.string (bs ask),.string (bs rep)]):=⟨⟨_,ec⟩⟩
  have gx:=ay.Qw (λK:cM (λV=>ay V bw 56 #[.string (bs ask),.string (bs rep)])=>K.holds)
  refine nZ (λV=>ay V bw 56 #[.string (bs ask),.string (bs rep)]) [([0,1],2),([3,4,5,7,8],6),([9,10],11)] [12] PV PV ec.drew ?_
  refine gA λK fj=>?_
  refine YB ?_
  repeat go_big_quiet_step (fail)
  refine VF ?_
  refine XV ?_
  go_wp2_with fail
  refine (Jz.o _).mono ?_
  rintro e bH ⟨rfl,db⟩
  have Cw:=ec.drew.ad db ec.lt;have tB:=Nb.drew.ad db Nb.lt
  go_wp2
  refine gb Cw (fj _ _ ?_)
  refine gA λff da=>?_
  refine Yp ?_
  repeat go_big_quiet_step (fail)
  refine VF ?_
  refine XV ?_
  go_wp2
  refine gb Cw (da _ _ ?_)
  refine gA λxE oq=>?_
  refine YB ?_
  repeat go_big_quiet_step (fail)
  refine VF ?_
  refine XV ?_
  replace z0:=tB.fD
  obtain⟨kz,sl⟩:=tB.yU
  go_wp2
  refine gb ((Cw.yR Zy _).yR Zy _) (oq _ _ ?_)
  refine ky ?_
  refine Xp ?_
  repeat go_big_quiet_step (fail)
  refine VF ?_
  have ag:=((tB.ey 0 (.string (bs ask))).ey 1 (.string (bs rep)));have hr:=ag.fD
  go_wp2
  have fm:Below w w bH:=ai (ai U (bP _ _)).drew db
  refine XY (v:= .tuple #[.agg #[.string (bs ask),.string (bs rep)],false]) Zq rfl ?_
  exact⟨rfl,(fm.setCell (XZ _) _).setCell (XZ _) _⟩
 .have br:∀W,Rd 91 #[k,.agg #[.string (bs ask),.string (bs rep)]] W λe ah=>e= .returned (.string (bs (gq k ask rep ++ [10])))/\Below W W ah:=λW=>agp k KK KK ask rep fo W
  have Jt:((bs (gq k ask rep ++ [10])).toList == (bs l ++ (⟨#[10]⟩ :VU)).toList)= v:=by
   rw [<- az,fo,Za]
   by_cases he:gq k ask rep= l
   .rw [Xh he,he];exact ajC (qi l [10]).symm
   .rw [Xe he]
    refine ajD λh=>he ?_
    rw [show (⟨#[10]⟩ :VU)= bs [10] from rfl,qi] at h
    exact List.append_cancel_right (acs h)
  rw [fo] at Jz
  replace br:=I br;clear fo az
  go_in
  go_wp2_with fail
  refine (py k KK KK _).mono ?_
  rintro e bm ⟨rfl,bD⟩
  have ar:=be w bD;have U:Below w w bm:=ar;have J:ay bm w 56 #[.string ⟨#[]⟩,.string ⟨#[]⟩]:=ay.eV bD;have z0:=J.fD
  go_wp2_with fail
  refine (rO.o _).mono ?_
  rintro e aI ⟨g,m2,n,rfl,ki,vA,vB,aN,cy,eI,aQ⟩
  have aj:=be bm aQ;replace U:=ai U aj;replace J:=J.to aj;replace z0:=J.fD
  go_wp2_with fail
  refine (abr.o _).mono ?_
  rintro e bw ⟨bS,m3,hn,rfl,aeZ,afa,afb,vx,GJ,aeM,bG⟩
  have aY:=be aI bG;replace U:=ai U aY;replace J:=J.to aY;replace z0:=J.fD
  go_wp2
  have ec:ay (bw.alloc (.cells #[.string (bs ask),.string (bs rep)] 56)) bw 56 #[.string (bs ask),.string (bs rep)]:=ay.new _ _ _;have Nb:=J.alloc (.cells #[.string (bs ask),.string (bs rep)] 56)
  haveI:Nonempty (cM λV=>ay V bw 56 #[.string (bs ask),.string (bs rep)]):=⟨⟨_,ec⟩⟩
  have gx:=ay.Qw (λK:cM (λV=>ay V bw 56 #[.string (bs ask),.string (bs rep)])=>K.holds)
  refine nZ (λV=>ay V bw 56 #[.string (bs ask),.string (bs rep)]) [([0,1],2),([3,4,5,7,8],6),([9,10],11)] [12] PV PV ec.drew ?_
  refine gA λK fj=>?_
  refine YB ?_
  repeat go_big_quiet_step (fail)
  refine VF ?_
  refine XV ?_
  go_wp2_with fail
  refine (Jz.o _).mono ?_
  rintro e bH ⟨rfl,db⟩
  have Cw:=ec.drew.ad db ec.lt;have tB:=Nb.drew.ad db Nb.lt
  go_wp2
  refine gb Cw (fj _ _ ?_)
  refine gA λff da=>?_
  refine Yp ?_
  repeat go_big_quiet_step (fail)
  refine VF ?_
  refine XV ?_
  go_wp2_with fail
  refine (br.o _).mono ?_
  rintro e cO ⟨rfl,eM⟩
  have adR:=Cw.to eM;have dB:=tB.to eM
  go_wp2
  refine gb adR (da _ _ ?_)
  refine gA λxE oq=>?_
  refine YB ?_
  repeat go_big_quiet_step (fail)
  refine VF ?_
  refine XV ?_
  replace z0:=dB.fD
  obtain⟨kz,sl⟩:=dB.yU
  go_wp2
  refine gb ((adR.yR Zy _).yR Zy _) (oq _ _ ?_)
  refine ky ?_
  refine Xp ?_
  repeat go_big_quiet_step (fail)
  refine VF ?_
  have ag:=((dB.ey 0 (.string (bs ask))).ey 1 (.string (bs rep)));have hr:=ag.fD
  go_wp2
  have om:Below w w cO:=ai (ai (ai U (bP _ _)).drew db) eM
  exact hV ⟨rfl,(om.setCell (XZ _) _).setCell (XZ _) _⟩ Zq
def IM (l:cN) (k:Nat) (e:Ending):Prop:=∃(c r:ByteArray) (b:Bool),e= .returned (.tuple #[.agg #[.string c,.string r],.bool b])/\b= (xk l k).isSome/\∀x,xk l k= some x->c= bs x.1/\r= bs x.2
theorem IM.no (c r:VU) (h:zU l k= none):IM l k (.returned (.tuple #[.agg #[c,r],false])):=by
 rw [aib] at h
 exact⟨c,r,false,rfl,by rw [h];rfl,λx av=>by rw [h] at av;cases av⟩
theorem akQ (h:v:=by
 go_in
 go_wp2_with fail
 refine (py k KK KK _).mono ?_
 rintro e bm ⟨rfl,bD⟩
 have ar:=be w bD;have U:Below w w bm:=ar;have J:ay bm w 56 #[.string ⟨#[]⟩,.string ⟨#[]⟩]:=ay.eV bD;have z0:=J.fD
 go_wp2_with fail
 refine (kJ.o _).mono ?_
 rintro e aI ⟨g,m2,n,rfl,ki,vA,vB,aN,cy,eI,aQ⟩
 have aj:=be bm aQ;replace U:=ai U aj;replace J:=J.to aj;replace z0:=J.fD;have kO:=J.yU;have ag:=((J.ey 0 (.string ⟨#[]⟩)).ey 1 (.string ⟨#[]⟩));have hr:=ag.fD
 go_wp2
 refine XY (v:= .tuple #[.agg #[.string ⟨#[]⟩,.string ⟨#[]⟩],false]) Zq rfl ?_
 exact⟨IM.no _ _ DL.o,Ys⟩):v:=h
theorem awv (l:cN) (aT:l) (k:Nat) (ax:k < 100) (w:World):Rd 153 #[.string (bs l),k] w λe ah=>IM l k e/\Below w w ah:=by
 have g1:=IQ 35 l;have bU:=mQ (k:Int) KK;have aed:=bU;have tF:(eW (k:Int)).size= (uQ (k:Int)).length:=fY _;have QU:eW (k:Int) ++⟨#[32]⟩ =bs (uQ (k:Int) ++ [32]):=qi _ [32]
 generalize cJ:ep 35 l= t at g1
 have kJ:∀W,Rd 67 #[.string (bs l),.int .u8 35] W λe ah=>∃g m n,e= .returned (.slice (some ⟨g,0,none⟩) m n)/\1<=m/\m<=l.length + 1/\((2<=m)↔kT 35 l= true)/\ah.cell? ⟨g,0,none⟩ =some (.string (bs t))/\W.heap.size<=g/\g < ah.heap.size/\Below W W ah:=λW=>by
  have:=XN l 35 aT W
  rwa [cJ] at this
 replace kJ:=I kJ;have Hh:=fY t
 generalize hm:(eW (k:Int)).size= m at bU tF
 have jX:zU l k= if t.take (m + 1)= uQ k ++ [32] then (if (ep 64 (t.drop (m + 1))).length= (t.drop (m + 1)).length then none
   else if mc (ep 64 (t.drop (m + 1))) ((t.drop (m + 1)).drop ((ep 64 (t.drop (m + 1))).length + 1)) && decide (gq k (ep 64 (t.drop (m + 1))) ((t.drop (m + 1)).drop ((ep 64 (t.drop (m + 1))).length + 1))= l) then some (ep 64 (t.drop (m + 1)),(t.drop (m + 1)).drop ((ep 64 (t.drop (m + 1))).length + 1)) else none) else none:=by
  unfold zU
  simp only [cJ,Xu,YK,ZS,<- tF]
 replace QU:=I QU;have wm:=I jX;clear jX cJ
 by_cases lM:t.length < m + 1
 .have ha:zU l k= none:=by
   rw [wm.o,XU]
   intro h
   have:=Xc List.length h
   simp at this;omega
  have DL:=I ha;clear ha
  exact akQ
 by_cases tG:t.take (m + 1)= uQ k ++ [32]
 case neg=>
  have ha:zU l k= none:=by rw [wm.o,XU tG]
  have DL:=I ha;clear ha
  have ew:((((bs t).extract 0 ((eW (k:Int)).size + 1))).toList == (eW (k:Int) ++ (⟨#[32]⟩ :VU)).toList)= false:=ajD (by
   rw [QU.o,wA,hm]
   intro h
   exact tG (by simpa using acs h))
  have AZ:(eW (k:Int)).size + 1<=(bs t).size:=KK
  clear tG tF hm Hh
  exact akQ
 case pos=>
  have heq:((((bs t).extract 0 ((eW (k:Int)).size + 1))).toList == (eW (k:Int) ++ (⟨#[32]⟩ :VU)).toList)= true:=ajC (by
   rw [QU.o,wA,hm]
   congr 1)
  have AZ:(eW (k:Int)).size + 1<=(bs t).size:=KK
  have kl:(bs t).extract ((eW (k:Int)).size + 1) (bs t).size= bs (t.drop (m + 1)):=by rw [wA,hm,fY,YO Wn]
  have jX:=wm.o
  rw [XX tG] at jX
  have rz:(t.drop (m + 1)).length<=t.length:=Wn
  generalize bu:t.drop (m + 1)= rest at kl jX rz
  have NH:∀W,Rd 67 #[.string ((bs t).extract ((eW (k:Int)).size + 1) (bs t).size),.int .u8 64] W λe ah=>∃g m n,e= .returned (.slice (some ⟨g,0,none⟩) m n)/\1<=m/\m<=rest.length + 1/\((2<=m)↔kT 64 rest= true)/\ah.cell? ⟨g,0,none⟩ =some (.string (bs (ep 64 rest)))/\W.heap.size<=g/\g < ah.heap.size/\Below W W ah:=λW=>by
   rw [kl];exact XN rest 64 KK W
  have wM:=IQ 64 rest
  generalize asC:ep 64 rest= ask at jX NH wM
  have zz:((bs t).extract ((eW (k:Int)).size + 1) (bs t).size).size= rest.length:=by rw [kl];exact fY _
  have has:=fY ask;replace NH:=I NH;replace bu:=I bu;have aoG:=I kl;clear kl asC tG
  have aft:(bs t).size<=1048576:=KK
  have tH:rest:=KK
  by_cases Rv:ask.length= rest.length
  .rw [XX Rv] at jX
   have DL:=I jX;clear jX
   have gd:(bs t).size - ((eW (k:Int)).size + 1)= rest.length:=by
    have e:=Xc List.length bu.o
    simp only [YQ] at e
    omega
   have aB:(((bs ask).size:Int) == (((bs t).size - ((eW (k:Int)).size + 1):Nat):Int))= true:=by rw [gd,has,Rv];exact Xx.2 rfl
   clear gd Rv;clear zz has tF hm Hh
   go_in
   go_wp2_with fail
   refine (py k KK KK _).mono ?_
   rintro e bm ⟨rfl,bD⟩
   have ar:=be w bD;have U:Below w w bm:=ar;have J:ay bm w 56 #[.string ⟨#[]⟩,.string ⟨#[]⟩]:=ay.eV bD;obtain⟨z0,bF⟩:=J.fD
   go_wp2_with fail
   refine (kJ.o _).mono ?_
   rintro e aI ⟨g,m2,n,rfl,ki,vA,vB,aN,cy,eI,aQ⟩
   have aj:=be bm aQ;replace U:=ai U aj;replace J:=J.to aj;clear z0 bF;obtain⟨z0,bF⟩:=J.fD
   go_wp2_with fail
   refine (NH.o _).mono ?_
   rintro e bw ⟨bS,m3,hn,rfl,aeZ,afa,afb,vx,GJ,aeM,bG⟩
   have aY:=be aI bG;replace U:=ai U aY;replace J:=J.to aY;clear z0 bF;obtain⟨z0,bF⟩:=J.fD;have kO:=J.yU;have ag:=((J.ey 0 (.string ⟨#[]⟩)).ey 1 (.string ⟨#[]⟩));have hr:=ag.fD
   go_wp2
   refine XY (v:= .tuple #[.agg #[.string ⟨#[]⟩,.string ⟨#[]⟩],false]) Zq rfl ?_
   exact⟨IM.no _ _ DL.o,Ys⟩
  .rw [XU Rv] at jX
   have bC:ask.length + 1<=rest.length:=KK
   have atV:(rest.drop (ask.length + 1)).length<=rest.length:=Wn
   have kl:=aoG.o
   have EM:(bs rest).extract ((bs ask).size + 1) (bs rest).size= bs (rest.drop (ask.length + 1)):=by rw [wA,fY,fY,YO Wn]
   have auc:∀W,Rd 67 #[.string (bs rest),.int .u8 64] W λe ah=>∃g m n,e= .returned (.slice (some ⟨g,0,none⟩) m n)/\1<=m/\m<=rest.length + 1/\((2<=m)↔kT 64 rest= true)/\ah.cell? ⟨g,0,none⟩ =some (.string (bs ask))/\W.heap.size<=g/\g < ah.heap.size/\Below W W ah:=λW=>by
    have:=NH.o W
    rwa [kl] at this
   generalize aS:rest.drop (ask.length + 1)= rep at jX EM atV
   have aB:(((bs ask).size:Int) == ((bs rest).size:Int))= false:=by rw [fY,fY];exact Xb.2 KK
   have iS:(bs ask).size + 1<=(bs rest).size:=by rw [fY,fY];omega
   have pr:(bs rest).size<=1048576:=by rw [fY];omega
   have tE:(bs rep).size<=1048576:=by rw [fY];omega
   have EH:(bs l).size<=1048576:=by rw [fY];omega
   refine (aww l t rest ask rep k ax aed kJ (I auc) heq AZ aft kl EM aB iS pr tE EH _ rfl w).mono ?_
   rintro e ah ⟨rfl,fM⟩
   rw [aib] at jX
   refine⟨⟨_,_,_,rfl,?_,?_⟩,fM⟩
   .rw [jX];split <;> rename_i h <;> simp [h]
   .intro x av
    rw [jX] at av
    split at av
    .injection av with av;subst av;exact⟨rfl,rfl⟩
    .cases av
def AO (xs:List (cN×cN×Nat)):Nat:=(0 ::xs.map (·.2.2)).getLastD 0
def ik (l:cN):Nat:=AO (ir l)
theorem adi (xs:List (cN×cN×Nat)) (x:cN×cN×Nat):AO (xs ++ [x])= x.2.2:=by
 have e:(0 ::(xs ++ [x]).map (·.2.2))= (0 ::xs.map (·.2.2)) ++ [x.2.2]:=Wn
 unfold AO
 rw [e,List.getLastD_eq_getLast?,List.getLast?_append]
 rfl
theorem aFy {f:Nat} {a:Nat} (h:jZ l k= none):iU f k l a= []:=by
 cases f with
 | zero=>rfl
 | succ f=>rw [iU,h]
theorem ahP (k:Nat):jZ [] k= none:=by unfold jZ;simp [kT]
theorem ayl (l:cN) (h:60<=k):jZ l k= none:=by unfold jZ;rw [XU];simp;omega
theorem alp (h:v:=by
 have lC:=I cr;clear cr my
 go_wp2
 go_ret2
 obtain⟨A,c,h1,h2⟩:=uF.o lC.o
 exact⟨A,c,Xc Ending.returned h1,h2⟩):v:=h
theorem akM (h:v:=by
 go_wp2
 go_ret2
 obtain⟨A,dq,h1,h2⟩:=uF.o lC.o
 exact⟨A,dq,Xc Ending.returned h1,((h2.1.aK bD).aK aQ).alloc _,(ai (ai h2.2 bD) aQ).alloc KK _⟩):v:=h
theorem XP (l:cN) (aT:l) (w:World):Rd 87 #[.string (bs l)] w λe ah=>∃A c,e= .returned (.tuple #[.slice A (hc l).length c,.int .i64 (ik l:Nat)])/\
  bn w 56 2 fi.cells ah (.slice A (hc l).length c) (hc l)/\Below w w ah:=by
 obtain⟨i0,bo,dP,dZ,dV⟩:=Xo afY
 have gd:=fY l
 have qQ:(bs l).size<=1048576:=KK
 replace gd:=I gd;have pj:=bn.built (B:=w) (f:=fi.cells) w ([]:List fi) 56 (XZ _) Wn fi.wD
 simp only [ZL] at pj
 replace pj:=I pj
 go_in
 go_wp2
 go_loopw [4,5] (λv4 v5 wr=>∃(xs:List (cN×cN×Nat)) (a:Nat),ir l= xs ++ iU (61 - xs.length) xs.length (l.drop a) a/\xs.length<=60/\a<=(bs l).size/\a= AO xs/\v5= .int .i64 a/\
   bn w 56 2 fi.cells wr v4 (xs.map uh)/\Below w w wr) (λ_ v5 _=>1048577 - (intOf v5).toNat)
 case atStart=>
  exact⟨[],0,rfl,by simp,Xd _,rfl,rfl,by simpa using pj.o,bP _ _⟩
 case round=>
  obtain⟨xs,a,my,Bi,de,Wp,rfl,aV,aB⟩:=hrel
  obtain⟨aF,c4,rfl,nU,_,_⟩:=aV.form fi.wD
  simp only [YZ] at aV nU ⊢
  have Rm:a<=l.length:=by rw [<- gd.o];exact de
  have z0:=aB.size;have Bn:=I aV.lt;replace aV:=I aV;replace Wp:=I Wp
  have ov:jZ (l.drop a) xs.length= none->ir l= xs:=λh=>by rw [my,aFy h,Yq]
  replace ov:=I ov
  have uF:ir l= xs->∃A c,Value.tuple #[aF xs c4,a]= .tuple #[.slice A (hc l).length c,.int .i64 (ik l:Nat)]/\bn w 56 2 fi.cells wr (.slice A (hc l).length c) (hc l)/\Below w w wr:=λh=>by
   have e1:hc l= xs.map uh:=by rw [hc,h]
   have e2:ik l= a:=by rw [ik,h,Wp.o]
   rw [e1,e2,YZ]
   exact⟨aF,c4,rfl,aV.o,aB⟩
  replace uF:=I uF
  by_cases bC:a < (bs l).size
  case neg=>
   have cr:ir l= xs:=ov.o (by
    have:l.drop a= []:=List.drop_eq_nil_of_le (by rw [<- gd.o];omega)
    rw [this];exact ahP _)
   exact alp
  by_cases ax:xs.length < 60
  case neg=>
   have cr:ir l= xs:=ov.o (ayl _ KK)
   exact alp
  have av:(bs l).extract a (bs l).size= bs (l.drop a):=by rw [wA,fY,YO Wn]
  have kJ:∀W,Rd 67 #[.string ((bs l).extract a (bs l).size),.int .u8 10] W λe ah=>∃g m n,e= .returned (.slice (some ⟨g,0,none⟩) m n)/\1<=m/\m<=(l.drop a).length + 1/\((2<=m)↔kT 10 (l.drop a)= true)/\ah.cell? ⟨g,0,none⟩ =some (.string (bs (ep 10 (l.drop a))))/\W.heap.size<=g/\g < ah.heap.size/\Below W W ah:=λW=>by
   rw [av];exact XN (l.drop a) 10 Xq W
  have adG:=IQ 10 (l.drop a)
  have rz:(l.drop a).length<=l.length:=Wn
  have jX:∀W,Rd 153 #[.string (bs (ep 10 (l.drop a))),xs.length] W λe ah=>IM (ep 10 (l.drop a)) xs.length e/\Below W W ah:=λW=>awv _ KK xs.length KK W
  replace kJ:=I kJ;replace jX:=I jX;replace my:=I my;clear av
  have gR:jZ (l.drop a) xs.length= if kT 10 (l.drop a) then (xk (ep 10 (l.drop a)) xs.length).map λx=>(x.1,x.2,(ep 10 (l.drop a)).length + 1) else none:=by
   unfold jZ;simp [ax]
  replace gR:=I gR
  have CF:(bs (ep 10 (l.drop a))).size<=1048576:=by rw [fY];omega
  cases gl:kT 10 (l.drop a)
  .have cr:ir l= xs:=ov.o (by rw [gR.o,gl];rfl)
   have lC:=I cr;have wi:=I gl;clear cr gl
   go_wp2_with fail
   refine (kJ.o _).mono ?_
   rintro e bm ⟨g,m,n,rfl,ki,vA,vB,aN,cy,eI,bD⟩
   have afc:m < 2:=by
    have:=wi.o
    rcases Nat.lt_or_ge m 2 with h | h
    .exact h
    .rw [vB.1 h] at this;cases this
   clear vB
   go_wp2_with fail
   refine (jX.o _).mono ?_
   rintro e aI ⟨⟨c,r,b,rfl,hW,ql⟩,aQ⟩
   have z2:=aQ.size
   exact akM
  .cases Ha:xk (ep 10 (l.drop a)) xs.length with
   | none=>
    have cr:ir l= xs:=ov.o (by rw [gR.o,gl,Ha];rfl);have lC:=I cr;have wi:=I gl;have PF:=I Ha;clear cr gl Ha
    go_wp2_with fail
    refine (kJ.o _).mono ?_
    rintro e bm ⟨g,m,n,rfl,ki,vA,vB,aN,cy,eI,bD⟩
    have afc:2<=m:=vB.2 wi.o;clear vB
    go_wp2_with fail
    refine (jX.o _).mono ?_
    rintro e aI ⟨⟨c,r,b,rfl,hW,ql⟩,aQ⟩
    have z2:=aQ.size
    have Wu:b= false:=by rw [hW,PF.o];rfl
    subst Wu
    clear ql hW
    exact akM
   | some x=>
    obtain⟨pe,xn⟩:=x
    have GV:ir l= (xs ++ [(pe,xn,a + ((ep 10 (l.drop a)).length + 1))]) ++ iU (61 - (xs.length + 1)) (xs.length + 1) (l.drop (a + ((ep 10 (l.drop a)).length + 1))) (a + ((ep 10 (l.drop a)).length + 1)):=by
     rw [my.o,show 61 - xs.length= (61 - (xs.length + 1)) + 1 from by omega,iU,gR.o,gl,Ha]
     simp [Zg]
    have hle:a + ((ep 10 (l.drop a)).length + 1)<=(bs l).size:=by
     have h1:jZ (l.drop a) xs.length= some (pe,xn,(ep 10 (l.drop a)).length + 1):=by rw [gR.o,gl,Ha];rfl
     have:=Fb h1
     rw [YQ] at this
     rw [gd.o];omega
    replace GV:=I GV;have wi:=I gl;have PF:=I Ha;clear gl Ha
    go_wp2_with fail
    refine (kJ.o _).mono ?_
    rintro e bm ⟨g,m,n,rfl,ki,vA,vB,aN,cy,eI,bD⟩
    have afc:2<=m:=vB.2 wi.o;clear vB
    go_wp2_with fail
    refine (jX.o _).mono ?_
    rintro e aI ⟨⟨c,r,b,rfl,hW,ql⟩,aQ⟩
    have z2:=aQ.size
    have kI:aI.cell? ⟨g,0,none⟩ =some (.string (bs (ep 10 (l.drop a)))):=by rw [aQ.cell eI];exact aN
    have Wu:b= true:=by rw [hW,PF.o];rfl
    obtain⟨rfl,rfl⟩:=ql _ PF.o
    subst Wu
    clear ql hW;have iR:=I ((((aV.o.aK bD).aK aQ).alloc (.cells #[.string (bs pe),.string (bs xn)] 56)).alloc (.cells #[.string (bs pe),.string (bs xn)] 56))
    have lL:aX 2 fi.cells ((aI.alloc (.cells #[.string (bs pe),.string (bs xn)] 56)).alloc (.cells #[.string (bs pe),.string (bs xn)] 56)) (some ⟨aI.heap.size + 1,0,none⟩) [uh (pe,xn,a + ((ep 10 (l.drop a)).length + 1))]:=by
     have h:=aX.one (sz:=2) (f:=fi.cells) (w:=aI.alloc (.cells #[.string (bs pe),.string (bs xn)] 56)) (uh (pe,xn,a + ((ep 10 (l.drop a)).length + 1))) 56
     rw [show (aI.alloc (.cells #[.string (bs pe),.string (bs xn)] 56)).heap.size= aI.heap.size + 1 from by simp] at h
     exact h
    replace lL:=I lL
    go_upto_region 8 with (at_builtin;refine ke rfl _ _ 52 rfl w 56 i0 _ 2 32 Tryz.underlying52 bo dP dZ dV rfl WG fi.cells fi.wD fi.cells_one (aF xs c4) (xs.map uh) rfl iR.o ⟨aI.heap.size + 1,0,none⟩ 1 (uh (pe,xn,a + ((ep 10 (l.drop a)).length + 1))) rfl lL.o Zz Xq Xq ?_;intro mW bH fb ed mx)
    have z4:=ed.size
    simp only [aeJ] at z4
    have nU:bH.cell? ⟨g,0,none⟩ =some (.string (bs (ep 10 (l.drop a)))):=(World.cell?_of_block (ed.block g Xq (λe=>by have:=(Bn.o g e.symm).2;omega))).trans (((IU aI _ _).cell (p:=⟨g,0,none⟩) (by show g < _;omega)).trans kI);have fm:Below w w bH:=(((ai (ai aB bD) aQ).alloc KK _).alloc Xq _).grown ed Xq (λk ax=>(Bn.o k ax).1)
    go_wp2
    go_roundw
    case rel=>
     refine⟨xs ++ [(pe,xn,a + ((ep 10 (l.drop a)).length + 1))],a + ((ep 10 (l.drop a)).length + 1),by rw [Xu];exact GV.o,by simp;omega,hle,(adi xs (pe,xn,a + ((ep 10 (l.drop a)).length + 1))).symm,by rw [fY];congr 1,?_,fm⟩
     rw [List.map_append];exact fb
    case measure=>simp [intOf];omega
def jJ (d p:cN) (n:Int):Bool:=decide (d.length + p.length<=30000) && (((ik (d ++ p):Nat):Int) == ((d.length:Int) + (p.length:Int)) && ((ik d:Nat):Int) == (d.length:Int) && ((hc (d ++ p)).length:Int) == n)
theorem De (d p:cN) (n:Int) (cr:d) (aS:p) (v:Bool) (az:jJ d p n= v) (w:World):Rd 44 #[.agg #[.string (bs d),.string (bs p),n]] w λe ah=>e= .returned v/\Below w w ah:=by
 subst az
 have zC:=fY d;have kJ:=fY p
 have s1:(bs d).size<=1048576:=KK
 have s2:(bs p).size<=1048576:=KK
 by_cases cJ:d.length + p.length<=30000
 case neg=>
  have az:jJ d p n= false:=by unfold jJ;rw [Xe cJ];rfl
  have gT:30000 < (bs d).size + (bs p).size:=KK
  have cI:=I az;clear az zC kJ cJ
  go_in
  go_wp2
  go_ret
  exact⟨by rw [cI.o];rfl,bP _ _⟩
 have gT:(bs d).size + (bs p).size<=30000:=KK
 have az:jJ d p n= (((ik (d ++ p):Nat):Int) == (((bs d).size:Int) + ((bs p).size:Int)) && ((ik d:Nat):Int) == ((bs d).size:Int) && ((hc (d ++ p)).length:Int) == n):=by
  unfold jJ;rw [Xh cJ,zC,kJ,Za]
 have hop:∀W,Rd 87 #[.string (bs d ++ bs p)] W λe ah=>∃A c,e= .returned (.tuple #[.slice A (hc (d ++ p)).length c,.int .i64 (ik (d ++ p):Nat)])/\
  bn W 56 2 fi.cells ah (.slice A (hc (d ++ p)).length c) (hc (d ++ p))/\Below W W ah:=λW=>by
  rw [qi];exact XP (d ++ p) Xq W
 have aFL:∀W,Rd 87 #[.string (bs d)] W λe ah=>∃A c,e= .returned (.tuple #[.slice A (hc d).length c,.int .i64 (ik d:Nat)])/\
  bn W 56 2 fi.cells ah (.slice A (hc d).length c) (hc d)/\Below W W ah:=λW=>XP d cr W
 replace hop:=I hop;replace aFL:=I aFL;have cI:=I az;clear az zC kJ cJ
 cases h1:(((ik (d ++ p):Nat):Int) == (((bs d).size:Int) + ((bs p).size:Int)))
 all_goals cases h2:(((ik d:Nat):Int) == ((bs d).size:Int))
 all_goals cases h3:(((hc (d ++ p)).length:Int) == n)
 all_goals have BY:=cI.o
 all_goals rw [h1,h2,h3] at BY
 all_goals have fV:=I BY
 all_goals clear cI BY
 all_goals
  go_in
  go_wp2_with fail
  refine (hop.o _).mono ?_
  rintro e bm ⟨au,aw,rfl,iR,bD⟩
  have ar:=be w bD;have U:Below w w bm:=ar;have br:ay bm w 31 #[.string (bs d),.string (bs p),n]:=ay.eV bD
  have dD:=br.cb
  go_wp2_with fail
  refine (aFL.o _).mono ?_
  rintro e aI ⟨ak,c2,rfl,ng,aQ⟩
  have aj:=be bm aQ;replace U:=ai U aj;replace br:=br.to aj
  replace dD:=br.cb
  go_wp2
  go_ret
  exact⟨by rw [fV.o];rfl,(ai U ao)⟩
theorem asA (c:UInt8) (a b:cN):kT c (a ++ b)= (kT c a || kT c b):=by unfold kT;simp
theorem apB {c:UInt8} {a b:cN} (h:kT c a= true):ep c (a ++ b)= ep c a:=by
 have:=aIL (Jr.1 h);have bq:=acn (c:=c) a
 conv=>lhs;rw [this,YX,YL]
 exact Mj bq
theorem aym (d p:cN) (k:Nat):(∀c r n,jZ (d ++ p) k= some (c,r,n)->n<=d.length->jZ d k= some (c,r,n))/\(∀c r n,jZ (d ++ p) k= some (c,r,n)->d.length < n->jZ d k= none)/\(jZ (d ++ p) k= none->jZ d k= none):=by
 cases cr:kT 10 d
 .have h0:jZ d k= none:=by unfold jZ;rw [cr];rfl
  refine⟨λc r n h bq=>?_,λ_ _ _ _ _=>h0,λ_=>h0⟩
  obtain⟨h1,h2,rfl,h4⟩:=Fc h
  exfalso
  have h5:d= (gq k c r ++ 10 ::iG 10 (d ++ p)).take d.length:=by rw [<- h4];simp
  refine Nf.1 cr ?_
  rw [h5,List.take_append,YC]
  refine .inr ?_
  rw [show d.length - (gq k c r).length= (d.length - ((gq k c r).length + 1)) + 1 from by omega]
  simp
 .have e:jZ (d ++ p) k= jZ d k:=by
   unfold jZ
   rw [asA,cr,apB cr];simp
  refine⟨λc r n h _=>by rw [<- e];exact h,λc r n h bq=>?_,λh=>by rw [<- e];exact h⟩
  rw [e] at h
  have:=Fb h
  omega
theorem SB:∀(f k:Nat) (d p:cN) (a:Nat),iU f k d a= (iU f k (d ++ p) a).takeWhile (λx=>decide (x.2.2<=a + d.length))
 | 0,_,_,_,_=>rfl
 | f + 1,k,d,p,a=>by
  obtain⟨h1,h2,h3⟩:=aym d p k
  cases h:jZ (d ++ p) k with
  | none=>rw [iU,iU,h3 h,h];rfl
  | some x=>
   obtain⟨c,r,n⟩:=x
   by_cases bq:n<=d.length
   .rw [iU,iU,h1 c r n h bq,h]
    simp only [List.takeWhile_cons]
    rw [Xh (by omega:a + n<=a + d.length)]
    simp only [if_true]
    rw [SB f (k + 1) (d.drop n) p (a + n),List.drop_append_of_le_length bq]
    have:a + n + (d.drop n).length= a + d.length:=Xq
    rw [this]
   .rw [iU,iU,h2 c r n h KK,h]
    simp only [List.takeWhile_cons]
    rw [Xe KK]
    simp
theorem SA:∀(f k:Nat) (l:cN) (a:Nat),(a ::(iU f k l a).map (·.2.2)).Pairwise (· < ·)
 | 0,_,_,_=>by simp [iU]
 | f + 1,k,l,a=>by
  rw [iU]
  cases h:jZ l k with
  | none=>simp
  | some x=>
   obtain⟨c,r,n⟩:=x
   have bq:=Fb h;have eR:=SA f (k + 1) (l.drop n) (a + n)
   simp only [List.map_cons]
   rw [YM]
   refine⟨λy hy=>?_,eR⟩
   rw [Xl] at hy
   rcases hy with rfl | hy
   .omega
   .have:=(YM.1 eR).1 y hy
    omega
theorem aFx:∀(f k:Nat) (l:cN) (a:Nat),∀x ∈ iU f k l a,x.2.2<=a + 372 * f/\x.2.2<=a + l.length
 | 0,_,_,_=>by simp [iU]
 | f + 1,k,l,a=>by
  rw [iU]
  cases h:jZ l k with
  | none=>simp
  | some x=>
   obtain⟨c,r,n⟩:=x
   have bq:=Fb h
   intro y hy
   rw [Xl] at hy
   rcases hy with rfl | hy
   .simp only;omega
   .have:=aFx f (k + 1) (l.drop n) (a + n) y hy
    rw [YQ] at this
    omega
theorem agz:∀(eZ:List Nat) (a m:Nat),(a ::eZ).Pairwise (· < ·)->a<=m->((a ::eZ.takeWhile (λx=>decide (x<=m))).getLastD 0= m↔m ∈ a ::eZ)
 | [],a,m,_,_=>by simp [eq_comm]
 | z ::eZ,a,m,h,de=>by
  have h1:=(YM.1 h).1;have h2:=(YM.1 h).2;have aDC:=h1 z Wn
  by_cases cF:z<=m
  .have eR:=agz eZ z m h2 cF
   rw [List.takeWhile_cons,Xh cF]
   simp only [if_true]
   have e:(a ::z ::eZ.takeWhile (λx=>decide (x<=m))).getLastD 0= (z ::eZ.takeWhile (λx=>decide (x<=m))).getLastD 0:=by
    simp [List.getLastD_eq_getLast?,List.getLast?_cons]
   rw [e,eR]
   constructor
   .exact λh=>List.mem_cons_of_mem _ h
   .intro h
    rcases Xl.1 h with rfl | h
    .omega
    .exact h
  .rw [List.takeWhile_cons,Xe cF]
   simp only [ZJ,if_false]
   have h3:=(YM.1 h2).1
   constructor
   .intro h;simp at h;simp [h]
   .intro h
    rcases Xl.1 h with rfl | h
    .simp
    .rcases Xl.1 h with rfl | h
     .omega
     .have:=h3 _ h;omega
theorem aIe (m:Nat):∀xs:List (cN×cN×Nat),(xs.takeWhile (λx=>decide (x.2.2<=m))).map (·.2.2)= (xs.map (·.2.2)).takeWhile (λx=>decide (x<=m))
 | []=>rfl
 | x ::xs=>by
  rw [List.map_cons,List.takeWhile_cons,List.takeWhile_cons]
  split
  .rw [List.map_cons,aIe m xs]
  .rfl
theorem adh (d p:cN):ik d= d.length↔d.length ∈ 0 ::(ir (d ++ p)).map (·.2.2):=by
 have h:=SB 61 0 d p 0
 rw [YF] at h
 unfold ik AO ir
 rw [h,aIe]
 exact agz _ 0 d.length (SA 61 0 (d ++ p) 0) (Xd _)
theorem Gq (l:cN):ik l<=22692/\ik l<=l.length:=by
 have hm:ik l ∈ 0 ::(ir l).map (·.2.2):=by
  unfold ik AO
  rw [List.getLastD_eq_getLast?,List.getLast?_eq_some_getLast Wn]
  exact List.getLast_mem _
 rcases Xl.1 hm with h | h
 .omega
 .obtain⟨x,av,e⟩:=YP.1 h
  have:=aFx 61 0 l 0 x av
  omega
theorem adk (l:cN):(nd l)[(ir l).length]? =some ((ik l:Nat):Int):=by
 unfold ik AO nd
 rw [List.getLastD_eq_getLast?,List.getLast?_eq_getElem?]
 have e:(0:Int) ::(ir l).map Cm= (0 ::(ir l).map (·.2.2)).map (λ(x:Nat)=>(x:Int)):=by
  simp [Cm]
 rw [e,List.getElem?_map]
 have:(0 ::(ir l).map (·.2.2)).length - 1= (ir l).length:=Wn
 rw [this]
 have h:(0 ::(ir l).map (·.2.2))[(ir l).length]? =some ((0 ::(ir l).map (·.2.2))[(ir l).length]' Wn):=Xj _
 rw [h];rfl
theorem HP (l:cN):(hc l).length= (ir l).length:=by simp [hc]
theorem adl (l:cN):(nd l).length= (ir l).length + 1:=by simp [nd]
theorem aqA (l:cN) (m:Nat):(m:Int) ∈ nd l↔m ∈ 0 ::(ir l).map (·.2.2):=by
 have e:nd l= (0 ::(ir l).map (·.2.2)).map (λ(x:Nat)=>(x:Int)):=by simp [nd,Cm]
 rw [e,YP]
 constructor
 .rintro ⟨x,av,h⟩
  have:x= m:=KK
  subst this;exact av
 .exact λh=>⟨m,h,rfl⟩
theorem axf (d p:cN) (n:Int):jJ d p n= (((ik (d ++ p):Nat):Int) == ((d.length:Int) + (p.length:Int)) && ((hc (d ++ p)).length:Int) == n && decide ((d.length:Int) ∈ nd (d ++ p))):=by
 have h1:=adh d p;have h2:=Gq (d ++ p)
 have h3:decide ((d.length:Int) ∈ nd (d ++ p))= (((ik d:Nat):Int) == (d.length:Int)):=by
  rw [Bool.eq_iff_iff,decide_eq_true_iff,Xx,aqA,<- h1]
  omega
 unfold jJ
 rw [h3]
 by_cases cJ:d.length + p.length<=30000
 .rw [Xh cJ,Za,Bool.and_assoc,Bool.and_assoc,Bool.and_comm (((ik d:Nat):Int) == (d.length:Int))]
 .rw [Xe cJ]
  have:(((ik (d ++ p):Nat):Int) == ((d.length:Int) + (p.length:Int)))= false:=by
   rw [Xb];omega
  rw [this];rfl
theorem ET (d p:cN) (n:Int) (cJ:d.length + p.length<=1048576) (v:Bool) (az:jJ d p n= v) (w:World) (dN:jV w):Rd 64 #[.agg #[.string (bs d),.string (bs p),n]] w λe ah=>e= .returned v/\Below w w ah:=by
 subst az
 have zC:=fY d;have kJ:=fY p
 have gT:(bs d).size + (bs p).size<=1048576:=KK
 have az:jJ d p n= (((ik (d ++ p):Nat):Int) == (((bs d).size:Int) + ((bs p).size:Int)) && ((hc (d ++ p)).length:Int) == n && decide (((bs d).size:Int) ∈ nd (d ++ p))):=by
  rw [axf,zC,kJ]
 have jX:∀W,jV W->Rd 65 #[.string (bs d ++ bs p)] W λe ah=>∃A c mg dq,e= .returned (.tuple #[.slice A (hc (d ++ p)).length c,.slice mg (nd (d ++ p)).length dq])/\
  bn W 56 2 fi.cells ah (.slice A (hc (d ++ p)).length c) (hc (d ++ p))/\bn W 3 1 cE ah (.slice mg (nd (d ++ p)).length dq) (nd (d ++ p))/\Below W W ah:=λW cv=>by
  rw [qi];exact aGf (d ++ p) Xq W cv
 have gp:=HP (d ++ p);have gK:=adl (d ++ p);have xX:=OD (d ++ p);have uH:=adk (d ++ p)
 rw [<- gp] at uH
 have Dg:(nd (d ++ p)).length= (hc (d ++ p)).length + 1:=KK
 have JR:(hc (d ++ p)).length<=60:=KK
 generalize bB:hc (d ++ p)= R at *
 generalize ec:nd (d ++ p)= E at *
 generalize bU:((ik (d ++ p):Nat):Int)= N at *
 replace jX:=I jX;replace az:=I az;replace uH:=I uH;clear zC kJ gp gK xX bB ec bU
 have awH:R.length < E.length:=KK
 have awI:E.length<=61:=KK
 have QQ:=dN.ad (bP w (.cells #[.string (bs d),.string (bs p),n] 31));replace QQ:=I QQ
 have asL:∀dc dr,(N == (((bs d).size:Int) + ((bs p).size:Int)))= dc->((R.length:Int) == n)= dr->Rd 64 #[.agg #[.string (bs d),.string (bs p),n]] w λe ah=>e= .returned (.bool (dc && dr && decide (((bs d).size:Int) ∈ E)))/\Below w w ah:=by
  intro dc dr h1 h2
  have adI:(N != (((bs d).size:Int) + ((bs p).size:Int)))= !dc:=by rw [bne,h1]
  have adJ:((R.length:Int) != n)= !dr:=by rw [bne,h2]
  rcases aB:dc && dr with _ | _
  .have aoa:=I aB;clear aB
   cases dc
   all_goals cases dr
   case true.true=>cases aoa.o
   all_goals simp only [Zb,Bool.not_false] at adI adJ
   all_goals
    go_in
    go_wp2_with fail
    refine (jX.o _ QQ.o).mono ?_
    rintro e bm ⟨au,aw,ak,c2,rfl,aV,ec,bD⟩
    have ar:=be w bD;have U:Below w w bm:=ar;have br:ay bm w 31 #[.string (bs d),.string (bs p),n]:=ay.eV bD
    obtain⟨dD,dc,dr⟩:=br.cb
    obtain⟨g2,Sm,rfl,oO,bO⟩:=ec.ej (hf:=fR) KK
    have f0:=bO _ _ uH.o 0 _ rfl
    simp only [Xw,XW] at f0
    have ie:=br.lt
    go_wp2
    go_ret
    exact⟨rfl,(ai U ao)⟩
  .obtain⟨rfl,rfl⟩ :dc= true/\dr= true:=by simpa using aB
   clear aB
   simp only [Zb] at adI adJ
   go_in
   go_wp2_with fail
   refine (jX.o _ QQ.o).mono ?_
   rintro e bm ⟨au,aw,ak,c2,rfl,aV,ec,bD⟩
   have ar:=be w bD;have U:Below w w bm:=ar;have br:ay bm w 31 #[.string (bs d),.string (bs p),n]:=ay.eV bD
   obtain⟨dD,dc,dr⟩:=br.cb
   obtain⟨g2,Sm,rfl,oO,bO⟩:=ec.ej (hf:=fR) KK
   have f0:=bO _ _ uH.o 0 _ rfl
   simp only [Xw,XW] at f0
   have ie:=br.lt
   go_wp2
   go_loop [35] (λi=>∃k:Nat,k<=E.length/\i= .int .i64 k/\∀j,j < k->E[j]?≠some ((bs d).size:Int)) (λi=>E.length - (intOf i).toNat)
   case atStart=>exact⟨0,Xd _,rfl,λj cc=>absurd cc (Nat.not_lt_zero _)⟩
   case round=>
    obtain⟨k,ax,rfl,ha⟩:=hrel
    replace ha:=I ha
    by_cases bC:k < E.length
    .have av:E[k]? =some E[k]:=Xj bC
     generalize E[k]= x at av
     have f1:=bO k x av 0 _ rfl
     simp only [Xw,XW] at f1
     replace av:=I av
     cases he:(x == ((bs d).size:Int))
     .have fl:=I he
      go_wp2
      go_round
      case rel=>
       refine⟨k + 1,by omega,by go_num,λj cc=>?_⟩
       rcases Nat.lt_or_ge j k with h | h
       .exact ha.o j h
       .obtain rfl:j= k:=KK
        rw [av.o]
        intro h2;injection h2 with h2
        exact Xb.1 fl.o h2
      case measure=>simp [intOf];omega
     .have fl:=I he
      go_wp2
      go_ret
      have hm:((bs d).size:Int) ∈ E:=YE (by rw [av.o,Xx.1 fl.o])
      exact⟨by rw [Xh hm];rfl,(ai U ao)⟩
    .obtain rfl:k= E.length:=KK
     go_wp2
     go_ret
     have hm:¬((bs d).size:Int) ∈ E:=λh=>by
      obtain⟨j,cc⟩:=List.getElem?_of_mem h
      exact ha.o j (Xg.1 cc).1 cc
     exact⟨by rw [Xe hm];rfl,(ai U ao)⟩
 have:=asL _ _ rfl rfl
 rw [az.o];exact this
def HV (d p:cN) (n:Int):Value:=if jJ d p n then .agg #[.string (bs d ++ bs p),.string ⟨#[]⟩,.int .i64 n] else .agg #[.string ⟨#[]⟩,.string ⟨#[]⟩,.int .i64 0]
theorem anA (h:v:=by
 exact⟨by rw [fL.o],Ys⟩):v:=h
theorem aAt (d p:cN) (n:Int) (cJ:d.length + p.length<=1048576) (w:World):Rd 243 #[.agg #[.string (bs d),.string (bs p),n]] w λe ah=>e= .returned (.tuple #[HV d p n,.bool (jJ d p n)])/\Below w w ah:=by
 have gT:(bs d).size + (bs p).size<=1048576:=by rw [fY,fY];exact cJ
 have cr:d:=KK
 have aS:p:=KK
 cases az:jJ d p n
 .have aP:HV d p n= .agg #[.string ⟨#[]⟩,.string ⟨#[]⟩,(0:Int)]:=by simp [HV,az]
  have fL:=I aP;have cI:=I az;clear aP az
  go_in
  go_wp2_with fail
  refine (De d p n cr aS _ cI.o _).mono ?_
  rintro e bm ⟨rfl,bD⟩
  have ar:=be w bD;have U:Below w w bm:=ar;have J:ay bm ((w.heap.size + 1)) 31 #[.string ⟨#[]⟩,.string ⟨#[]⟩,(0:Int)]:=ay.eV bD;have z0:=J.cb;have Fu:=J.kH;have ag:=(((J.ey 0 (.string ⟨#[]⟩)).ey 1 (.string ⟨#[]⟩)).ey 2 (.int .i64 0));have hr:=ag.cb
  go_wp2
  refine XY (v:= .tuple #[.agg #[.string ⟨#[]⟩,.string ⟨#[]⟩,(0:Int)],false]) (by simp [results,Tryz.results243,go_sem,hr]) rfl ?_
  exact anA
 .have aP:HV d p n= .agg #[.string (bs d ++ bs p),.string ⟨#[]⟩,n]:=by simp [HV,az]
  have fL:=I aP;have cI:=I az;clear aP az
  go_in
  go_wp2_with fail
  refine (De d p n cr aS _ cI.o _).mono ?_
  rintro e bm ⟨rfl,bD⟩
  have ar:=be w bD;have U:Below w w bm:=ar;have J:ay bm ((w.heap.size + 1)) 31 #[.string ⟨#[]⟩,.string ⟨#[]⟩,(0:Int)]:=ay.eV bD;have z0:=J.cb;have br:ay bm w 31 #[.string (bs d),.string (bs p),n]:=ay.eV bD
  have dq:=br.cb;have Fu:=J.kH;have ag:=(((J.ey 0 (.string (bs d ++ bs p))).ey 1 (.string ⟨#[]⟩)).ey 2 (.int .i64 n));have hr:=ag.cb
  go_wp2
  refine XY (v:= .tuple #[.agg #[.string (bs d ++ bs p),.string ⟨#[]⟩,n],true]) (by simp [results,Tryz.results243,go_sem,hr]) rfl ?_
  exact anA
def zV (l:cN):cN:=if l.length<=30000 then l.take (ik l) else []
def HO (l:cN):Nat:=if l.length<=30000 then (hc l).length else 0
def Kj (l:cN):Nat:=if l.length<=30000 then ik l else 0
def pZ (d p:cN) (n:Int):List fi:=if jJ d p n then hc (d ++ p) else []
theorem avf (d p:cN) (n:Int) (cJ:d.length + p.length<=1048576) (w:World) (dN:jV w):Rd 23 #[.agg #[.string (bs d),.string (bs p),n]] w λe ah=>∃A c,e= .returned (.tuple #[.slice A (pZ d p n).length c,.bool (jJ d p n)])/\bn w 56 2 fi.cells ah (.slice A (pZ d p n).length c) (pZ d p n)/\Below w w ah:=by
 have gT:(bs d).size + (bs p).size<=1048576:=by rw [fY,fY];exact cJ
 have bX:=I (dN.ad (bP w (.cells #[.string (bs d),.string (bs p),n] 31)))
 cases az:jJ d p n
 .have aP:pZ d p n= []:=by simp [pZ,az]
  have fL:=I aP;have cI:=I az;clear aP az
  go_in
  go_wp2_with fail
  refine (ET d p n cJ _ cI.o _ bX.o).mono ?_
  rintro e bm ⟨rfl,bD⟩
  have ar:=be w bD;have U:Below w w bm:=ar
  go_wp2
  go_ret2
  rw [fL.o]
  exact⟨none,0,rfl,bn.nil,(ai U ao)⟩
 .have aP:pZ d p n= hc (d ++ p):=by simp [pZ,az]
  have jX:∀W,jV W->Rd 65 #[.string (bs d ++ bs p)] W λe ah=>∃A c mg dq,e= .returned (.tuple #[.slice A (hc (d ++ p)).length c,.slice mg (nd (d ++ p)).length dq])/\
   bn W 56 2 fi.cells ah (.slice A (hc (d ++ p)).length c) (hc (d ++ p))/\bn W 3 1 cE ah (.slice mg (nd (d ++ p)).length dq) (nd (d ++ p))/\Below W W ah:=λW cv=>by
   rw [qi];exact aGf (d ++ p) Xq W cv
  replace jX:=I jX;have fL:=I aP;have cI:=I az;clear aP az
  go_in
  go_wp2_with fail
  refine (ET d p n cJ _ cI.o _ bX.o).mono ?_
  rintro e bm ⟨rfl,bD⟩
  have ar:=be w bD;have U:Below w w bm:=ar;have br:ay bm w 31 #[.string (bs d),.string (bs p),n]:=ay.eV bD;have fJ:=br.cb
  go_wp2_with fail
  refine (jX.o _ (dN.ad U)).mono ?_
  rintro e aI ⟨au,aw,ak,c2,rfl,aV,ec,aQ⟩
  have aj:=be bm aQ;replace U:=ai U aj;clear fJ
  go_wp2
  go_ret2
  rw [fL.o]
  exact⟨au,aw,rfl,aV.base aGN,(ai U ao)⟩
def rS (d p:cN) (n:Int) (c r:cN):Bool:=jJ d p n && mc c r
def vo (d p:cN) (n:Int) (c r:cN):cN:=if rS d p n c r && !(n == 60) then p ++ (gq n c r ++ [10]) else p
def xG (d p:cN) (n:Int) (c r:cN):Int:=if rS d p n c r && !(n == 60) then n + 1 else n
def wz (d p:cN) (n:Int) (c r:cN):Int:=if rS d p n c r then (if n == 60 then 2 else 0) else 1
def qC (d p:cN) (n:Int) (c r:cN):Value:= .tuple #[.agg #[.string (bs d),.string (bs (vo d p n c r)),.int .i64 (xG d p n c r)],.int .i64 (wz d p n c r)]
theorem Oa {d p:cN} (h:jJ d p n= true):0<=n/\n<=60/\d.length + p.length<=30000:=by
 unfold jJ at h
 simp only [Xa,Xf,Xx] at h
 have h1:=HP (d ++ p);have h2:=OD (d ++ p)
 omega
theorem aqy {c r:cN} (h:∀W,jV W->Rd 105 #[n,.agg #[.string (bs c),.string (bs r)]] W λe ah=>e= .returned (.string (bs (gq n c r ++ [10])))/\Below W W ah) (dN:jV w0) (K:aD w0 w0):
 Rd 105 #[n,.agg #[.string (bs c),.string (bs r)]] K.world λe ah=>e= .returned (.string (bs (gq n c r ++ [10])))/\Below K.world K.world ah:=h _ (dN.ad K.ad)
theorem amE (h:v:=by
 have Fu:=J.kH;have ag:=(((J.ey 0 (.string (bs d))).ey 1 (.string (bs p))).ey 2 (.int .i64 n));have hr:=ag.cb
 go_wp2
 refine XY (v:= .tuple #[.agg #[.string (bs d),.string (bs p),n],(1:Int)]) aGI rfl ?_
 exact⟨by rw [cI.o],Ys⟩):v:=h
theorem Ts (h:v:=by
 exact⟨by rw [cI.o],Ys⟩):v:=h
theorem aHs {P:Program} {O:Array Oper} {Q:Exit->Act->World->Prop} {x0 x1:Oper} {a:Act} {w:World} (h:wpList P O Q [x0,x1] a w):wpList P O Q [x0,x1] a w:=h
theorem auw (d p:cN) (n:Int) (cJ:d.length + p.length<=1048576) (c r:cN) (aN:c) (bu:r) (w:World) (dN:jV w):Rd 57 #[.agg #[.string (bs d),.string (bs p),n],.agg #[.string (bs c),.string (bs r)]] w λe ah=>e= .returned (qC d p n c r)/\Below w w ah:=by
 have s1:(bs c).size<=1048576:=by rw [fY];exact aN
 have s2:(bs r).size<=1048576:=by rw [fY];exact bu
 have bX:=I (dN.ad (acq w (.cells #[.string (bs d),.string (bs p),n] 31) (.cells #[.string (bs c),.string (bs r)] 56) (.cells #[.string ⟨#[]⟩,.string ⟨#[]⟩,(0:Int)] 31)))
 cases aT:jJ d p n
 .have az:qC d p n c r= .tuple #[.agg #[.string (bs d),.string (bs p),n],(1:Int)]:=by simp [qC,vo,xG,wz,rS,aT]
  have cI:=I az;have hp:=I aT;clear az aT
  go_in
  go_wp2_with fail
  refine (ET d p n cJ _ hp.o _ bX.o).mono ?_
  rintro e bm ⟨rfl,bD⟩
  have ar:=be w bD;have U:Below w w bm:=ar;have bz:ay bm w 31 #[.string (bs d),.string (bs p),n]:=ay.eV bD;have fJ:=bz.cb;have J:ay bm ((w.heap.size + 1 + 1)) 31 #[.string ⟨#[]⟩,.string ⟨#[]⟩,(0:Int)]:=ay.eV bD
  obtain⟨z0,bF,z2⟩:=J.cb
  exact amE
 .obtain⟨n0,n1,Kr⟩:=Oa aT
  have azv:(bs d).size + (bs p).size<=30000:=by rw [fY,fY];exact Kr
  cases dn:mc c r
  .have az:qC d p n c r= .tuple #[.agg #[.string (bs d),.string (bs p),n],(1:Int)]:=by simp [qC,vo,xG,wz,rS,aT,dn]
   have cI:=I az;have hp:=I aT;have iJ:=I dn;clear az aT dn
   go_in
   go_wp2_with fail
   refine (ET d p n cJ _ hp.o _ bX.o).mono ?_
   rintro e bm ⟨rfl,bD⟩
   have ar:=be w bD;have U:Below w w bm:=ar;have bz:ay bm w 31 #[.string (bs d),.string (bs p),n]:=ay.eV bD;have fJ:=bz.cb;have bB:ay bm ((w.heap.size + 1)) 56 #[.string (bs c),.string (bs r)]:=ay.eV bD
   have pF:=bB.fD;have J:ay bm ((w.heap.size + 1 + 1)) 31 #[.string ⟨#[]⟩,.string ⟨#[]⟩,(0:Int)]:=ay.eV bD;obtain⟨z0,bF,z2⟩:=J.cb
   go_wp2_with fail
   refine (Db s1 s2 _ iJ.o _).mono ?_
   rintro e aI ⟨rfl,aQ⟩
   have aj:=be bm aQ;replace U:=ai U aj;replace bz:=bz.to aj;replace fJ:=bz.cb;clear pF;replace J:=J.to aj;clear z0 bF z2;obtain⟨z0,bF,z2⟩:=J.cb
   exact amE
  .cases h6:n == 60
   .have az:qC d p n c r= .tuple #[.agg #[.string (bs d),.string (bs p ++ bs (gq n c r ++ [10])),.int .i64 (n + 1)],(0:Int)]:=by simp [qC,vo,xG,wz,rS,aT,dn,h6,qi]
    have zo:∀W,jV W->Rd 105 #[n,.agg #[.string (bs c),.string (bs r)]] W λe ah=>e= .returned (.string (bs (gq n c r ++ [10])))/\Below W W ah:=λW cv=>adg n KK KK c r dn W cv
    have aix:(bs (gq n c r ++ [10])).size<=372:=by rw [fY];have:=Hw n0 KK dn;simp;omega
    replace zo:=I zo;have cI:=I az;have hp:=I aT;have iJ:=I dn;clear az aT dn
    go_in
    go_wp2_with fail
    refine (ET d p n cJ _ hp.o _ bX.o).mono ?_
    rintro e bm ⟨rfl,bD⟩
    have ar:=be w bD;have U:Below w w bm:=ar;have bz:ay bm w 31 #[.string (bs d),.string (bs p),n]:=ay.eV bD;have fJ:=bz.cb;have bB:ay bm ((w.heap.size + 1)) 56 #[.string (bs c),.string (bs r)]:=ay.eV bD
    have pF:=bB.fD;have J:ay bm ((w.heap.size + 1 + 1)) 31 #[.string ⟨#[]⟩,.string ⟨#[]⟩,(0:Int)]:=ay.eV bD;obtain⟨z0,bF,z2⟩:=J.cb
    go_wp2_with fail
    refine (Db s1 s2 _ iJ.o _).mono ?_
    rintro e aI ⟨rfl,aQ⟩
    have aj:=be bm aQ;replace U:=ai U aj;replace bz:=bz.to aj;replace fJ:=bz.cb;replace bB:=bB.to aj;replace pF:=bB.fD;replace J:=J.to aj;clear z0 bF z2;obtain⟨z0,bF,z2⟩:=J.cb
    go_wp2
    have PJ:=I (dN.ad U);replace fJ:=ay.kF (λK:aD aI aI=>(bz.ad K.ad bz.lt));replace pF:=ay.Qw (λK:aD aI aI=>(bB.ad K.ad bB.lt));clear bF z2
    replace z0:=λK:aD aI aI=>((J.ad K.ad J.lt).cell 0).trans (show _= some (.string ⟨#[]⟩) from rfl)
    have bF:=λK:aD aI aI=>((J.ad K.ad J.lt).cell 1).trans (show _= some (.string ⟨#[]⟩) from rfl)
    have z2:=λK:aD aI aI=>((J.ad K.ad J.lt).cell 2).trans (show _= some (.int .i64 0) from rfl)
    refine Pf 13 PV PV ?_
    change wpQuiet _ _ _ _ (_ ::_ ::_ ::_ ::_ ::_ ::_ ::_ ::_ ::_ ::_ ::_ ::_ ::[]) _
    repeat (go_big_quiet_step ((first | (go_at_call 105;exact aD.call _ Xm (aqy zo.o PJ.o _)))))
    refine VF ?_
    intro K
    refine aHs ?_
    clear fJ;clear pF;clear z0 bF z2;have aY:Below aI aI K.world:=ai ao K.ad;replace U:=ai U aY;replace J:=J.to aY;obtain⟨z0,bF,z2⟩:=J.cb;have Fu:=J.kH;have ag:=(((J.ey 0 (.string (bs d))).ey 1 (.string (bs p ++ bs (gq n c r ++ [10])))).ey 2 (.int .i64 (n + 1)))
    have hr:=ag.cb
    go_wp2
    refine XY (v:= .tuple #[.agg #[.string (bs d),.string (bs p ++ bs (gq n c r ++ [10])),.int .i64 (n + 1)],(0:Int)]) aGI rfl ?_
    exact Ts
   .have az:qC d p n c r= .tuple #[.agg #[.string (bs d),.string (bs p),n],(2:Int)]:=by simp [qC,vo,xG,wz,rS,aT,dn,h6]
    have cI:=I az;have hp:=I aT;have iJ:=I dn;clear az aT dn
    go_in
    go_wp2_with fail
    refine (ET d p n cJ _ hp.o _ bX.o).mono ?_
    rintro e bm ⟨rfl,bD⟩
    have ar:=be w bD;have U:Below w w bm:=ar;have bz:ay bm w 31 #[.string (bs d),.string (bs p),n]:=ay.eV bD;have fJ:=bz.cb;have bB:ay bm ((w.heap.size + 1)) 56 #[.string (bs c),.string (bs r)]:=ay.eV bD
    have pF:=bB.fD;have J:ay bm ((w.heap.size + 1 + 1)) 31 #[.string ⟨#[]⟩,.string ⟨#[]⟩,(0:Int)]:=ay.eV bD;obtain⟨z0,bF,z2⟩:=J.cb
    go_wp2_with fail
    refine (Db s1 s2 _ iJ.o _).mono ?_
    rintro e aI ⟨rfl,aQ⟩
    have aj:=be bm aQ;replace U:=ai U aj;replace bz:=bz.to aj;replace fJ:=bz.cb;clear pF;replace J:=J.to aj;clear z0 bF z2;obtain⟨z0,bF,z2⟩:=J.cb;have Fu:=J.kH;have ag:=(((J.ey 0 (.string (bs d))).ey 1 (.string (bs p))).ey 2 (.int .i64 n))
    have hr:=ag.cb
    go_wp2
    refine XY (v:= .tuple #[.agg #[.string (bs d),.string (bs p),n],(2:Int)]) aGI rfl ?_
    exact Ts
theorem axb {c r:cN} {xY:VU} (h:∀W,Rd 91 #[n,.agg #[.string (bs c),.string (bs r)]] W λe ah=>e= .returned xY/\Below W W ah) (K:aD w0 w0):
 Rd 91 #[n,.agg #[.string (bs c),.string (bs r)]] K.world λe ah=>e= .returned xY/\Below K.world K.world ah:=h _
theorem amF (h:v:=by
 have Fu:=J.kH;have ag:=(((J.ey 0 (.string (bs d))).ey 1 (.string (bs p))).ey 2 (.int .i64 n));have hr:=ag.cb
 go_wp2
 refine XY (v:= .tuple #[.agg #[.string (bs d),.string (bs p),n],(1:Int)]) aGJ rfl ?_
 exact⟨by rw [cI.o],Ys⟩):v:=h
theorem azB (d p:cN) (n:Int) (cJ:d.length + p.length<=1048576) (c r:cN) (aN:c) (bu:r) (w:World):Rd 51 #[.agg #[.string (bs d),.string (bs p),n],.agg #[.string (bs c),.string (bs r)]] w λe ah=>e= .returned (qC d p n c r)/\Below w w ah:=by
 have s1:(bs c).size<=1048576:=by rw [fY];exact aN
 have s2:(bs r).size<=1048576:=by rw [fY];exact bu
 have cr:d:=KK
 have aS:p:=KK
 cases aT:jJ d p n
 .have az:qC d p n c r= .tuple #[.agg #[.string (bs d),.string (bs p),n],(1:Int)]:=by simp [qC,vo,xG,wz,rS,aT]
  have cI:=I az;have hp:=I aT;clear az aT
  go_in
  go_wp2_with fail
  refine (De d p n cr aS _ hp.o _).mono ?_
  rintro e bm ⟨rfl,bD⟩
  have ar:=be w bD;have U:Below w w bm:=ar;have bz:ay bm w 31 #[.string (bs d),.string (bs p),n]:=ay.eV bD;have fJ:=bz.cb;have J:ay bm ((w.heap.size + 1 + 1)) 31 #[.string ⟨#[]⟩,.string ⟨#[]⟩,(0:Int)]:=ay.eV bD
  obtain⟨z0,bF,z2⟩:=J.cb
  exact amF
 .obtain⟨n0,n1,Kr⟩:=Oa aT
  have azv:(bs d).size + (bs p).size<=30000:=by rw [fY,fY];exact Kr
  cases dn:mc c r
  .have az:qC d p n c r= .tuple #[.agg #[.string (bs d),.string (bs p),n],(1:Int)]:=by simp [qC,vo,xG,wz,rS,aT,dn]
   have cI:=I az;have hp:=I aT;have iJ:=I dn;clear az aT dn
   go_in
   go_wp2_with fail
   refine (De d p n cr aS _ hp.o _).mono ?_
   rintro e bm ⟨rfl,bD⟩
   have ar:=be w bD;have U:Below w w bm:=ar;have bz:ay bm w 31 #[.string (bs d),.string (bs p),n]:=ay.eV bD;have fJ:=bz.cb;have bB:ay bm ((w.heap.size + 1)) 56 #[.string (bs c),.string (bs r)]:=ay.eV bD
   have pF:=bB.fD;have J:ay bm ((w.heap.size + 1 + 1)) 31 #[.string ⟨#[]⟩,.string ⟨#[]⟩,(0:Int)]:=ay.eV bD;obtain⟨z0,bF,z2⟩:=J.cb
   go_wp2_with fail
   refine (Hr (bs c) (bs r) s1 s2 _ iJ.o _).mono ?_
   rintro e aI ⟨rfl,aQ⟩
   have aj:=be bm aQ;replace U:=ai U aj;replace bz:=bz.to aj;replace fJ:=bz.cb;clear pF;replace J:=J.to aj;clear z0 bF z2;obtain⟨z0,bF,z2⟩:=J.cb
   exact amF
  .cases h6:n == 60
   .have az:qC d p n c r= .tuple #[.agg #[.string (bs d),.string (bs p ++ bs (gq n c r ++ [10])),.int .i64 (n + 1)],(0:Int)]:=by simp [qC,vo,xG,wz,rS,aT,dn,h6,qi]
    have zo:∀W,Rd 91 #[n,.agg #[.string (bs c),.string (bs r)]] W λe ah=>e= .returned (.string (bs (gq n c r ++ [10])))/\Below W W ah:=λW=>agp n KK KK c r dn W
    have aix:(bs (gq n c r ++ [10])).size<=372:=by rw [fY];have:=Hw n0 KK dn;simp;omega
    replace zo:=I zo;have cI:=I az;have hp:=I aT;have iJ:=I dn;clear az aT dn
    generalize bs (gq n c r ++ [10])= xY at *
    go_in
    go_wp2_with fail
    refine (De d p n cr aS _ hp.o _).mono ?_
    rintro e bm ⟨rfl,bD⟩
    have ar:=be w bD;have U:Below w w bm:=ar;have bz:ay bm w 31 #[.string (bs d),.string (bs p),n]:=ay.eV bD;have fJ:=bz.cb;have bB:ay bm ((w.heap.size + 1)) 56 #[.string (bs c),.string (bs r)]:=ay.eV bD
    have pF:=bB.fD;have J:ay bm ((w.heap.size + 1 + 1)) 31 #[.string ⟨#[]⟩,.string ⟨#[]⟩,(0:Int)]:=ay.eV bD;obtain⟨z0,bF,z2⟩:=J.cb
    go_wp2_with fail
    refine (Hr (bs c) (bs r) s1 s2 _ iJ.o _).mono ?_
    rintro e aI ⟨rfl,aQ⟩
    have aj:=be bm aQ;replace U:=ai U aj;replace bz:=bz.to aj;replace fJ:=bz.cb;replace bB:=bB.to aj;replace pF:=bB.fD;replace J:=J.to aj;clear z0 bF z2;obtain⟨z0,bF,z2⟩:=J.cb
    go_wp2
    replace fJ:=ay.kF (λK:aD aI aI=>(bz.ad K.ad bz.lt));replace pF:=ay.Qw (λK:aD aI aI=>(bB.ad K.ad bB.lt));clear bF z2
    replace z0:=λK:aD aI aI=>((J.ad K.ad J.lt).cell 0).trans (show _= some (.string ⟨#[]⟩) from rfl)
    have bF:=λK:aD aI aI=>((J.ad K.ad J.lt).cell 1).trans (show _= some (.string ⟨#[]⟩) from rfl)
    have z2:=λK:aD aI aI=>((J.ad K.ad J.lt).cell 2).trans (show _= some (.int .i64 0) from rfl)
    refine Pf 8 PV PV ?_
    refine ZR ?_
    repeat (go_big_quiet_step ((first | (go_at_call 91;exact aD.call _ Xm (axb zo.o _)))))
    refine VF ?_
    intro K
    refine XV ?_
    clear pF;clear z0 bF z2;have aY:Below aI aI K.world:=ai ao K.ad;replace U:=ai U aY;replace bz:=bz.to aY;replace fJ:=bz.cb;replace J:=J.to aY;obtain⟨z0,bF,z2⟩:=J.cb
    have aqR:=bz.frozen 1
    go_upto_region 6 with fail
    clear aqR;clear fJ z0 bF z2;replace U:Below w w (World.setCell K.world ⟨w,1,none⟩ (.string (bs p ++ xY))):=U.setCell Ze _;replace bz:ay (World.setCell K.world ⟨w,1,none⟩ (.string (bs p ++ xY))) w 31 #[.string (bs d),.string (bs p ++ xY),n]:=bz.ey 1 (.string (bs p ++ xY));replace J:=J.yR (p:=⟨w,1,none⟩) (by show _≠w.heap.size;omega) (.string (bs p ++ xY))
    generalize World.setCell K.world ⟨w,1,none⟩ (.string (bs p ++ xY))= na at *
    have fJ:=bz.cb;obtain⟨z0,bF,z2⟩:=J.cb;have Vn:=bz.frozen 2
    go_upto_region 7 with fail
    clear Vn;clear fJ z0 bF z2;replace U:Below w w (World.setCell na ⟨w,2,none⟩ (.int .i64 (n + 1))):=U.setCell Ze _;replace bz:ay (World.setCell na ⟨w,2,none⟩ (.int .i64 (n + 1))) w 31 #[.string (bs d),.string (bs p ++ xY),.int .i64 (n + 1)]:=bz.ey 2 (.int .i64 (n + 1));replace J:=J.yR (p:=⟨w,2,none⟩) (by show _≠w.heap.size;omega) (.int .i64 (n + 1))
    generalize World.setCell na ⟨w,2,none⟩ (.int .i64 (n + 1))= kE at *
    have fJ:=bz.cb;obtain⟨z0,bF,z2⟩:=J.cb;have Fu:=J.kH;have ag:=(((J.ey 0 (.string (bs d))).ey 1 (.string (bs p ++ xY))).ey 2 (.int .i64 (n + 1)));have hr:=ag.cb
    go_wp2
    refine XY (v:= .tuple #[.agg #[.string (bs d),.string (bs p ++ xY),.int .i64 (n + 1)],(0:Int)]) aGJ rfl ?_
    exact Ts
   .have az:qC d p n c r= .tuple #[.agg #[.string (bs d),.string (bs p),n],(2:Int)]:=by simp [qC,vo,xG,wz,rS,aT,dn,h6]
    have cI:=I az;have hp:=I aT;have iJ:=I dn;clear az aT dn
    go_in
    go_wp2_with fail
    refine (De d p n cr aS _ hp.o _).mono ?_
    rintro e bm ⟨rfl,bD⟩
    have ar:=be w bD;have U:Below w w bm:=ar;have bz:ay bm w 31 #[.string (bs d),.string (bs p),n]:=ay.eV bD;have fJ:=bz.cb;have bB:ay bm ((w.heap.size + 1)) 56 #[.string (bs c),.string (bs r)]:=ay.eV bD
    have pF:=bB.fD;have J:ay bm ((w.heap.size + 1 + 1)) 31 #[.string ⟨#[]⟩,.string ⟨#[]⟩,(0:Int)]:=ay.eV bD;obtain⟨z0,bF,z2⟩:=J.cb
    go_wp2_with fail
    refine (Hr (bs c) (bs r) s1 s2 _ iJ.o _).mono ?_
    rintro e aI ⟨rfl,aQ⟩
    have aj:=be bm aQ;replace U:=ai U aj;replace bz:=bz.to aj;replace fJ:=bz.cb;clear pF;replace J:=J.to aj;clear z0 bF z2;obtain⟨z0,bF,z2⟩:=J.cb;have Fu:=J.kH;have ag:=(((J.ey 0 (.string (bs d))).ey 1 (.string (bs p))).ey 2 (.int .i64 n))
    have hr:=ag.cb
    go_wp2
    refine XY (v:= .tuple #[.agg #[.string (bs d),.string (bs p),n],(2:Int)]) aGJ rfl ?_
    exact Ts
structure yx (w:World) (g:Nat) (l:cN):Prop where
 lt:g < w.heap.size
 cell:∀i (h:i < l.length),w.cell? ⟨g,i,none⟩ =some (.int .u8 (l[i].toNat:Int))
 free:∀i,i < l.length->w.frozen? ⟨g,i,none⟩ =false
theorem yx.new (w:World) (l:cN) (C:Array Value) (t:TypeId) (aP:(bs l).size<=C.size) (aA:∀i (h:i < (bs l).size),C[i]? =some (.int .u8 ((bs l)[i].toNat:Int))):yx (w.alloc (.cells C t (C.size,C.size + 1))) w l:=by
 have cF:=fY l;have aB:(w.alloc (.cells C t (C.size,C.size + 1))).heap[w.heap.size]? =some (.cells C t (C.size,C.size + 1)):=heap_alloc_new w _
 refine⟨by simp,λi h=>?_,λi h=>?_⟩
 .rw [cell_of_row _ _ i C t _ aB,aA i KK,Ml]
 .unfold World.frozen?
  simp only [aB]
  simp
  omega
theorem yx.drew {w:World} (h:yx w g l):yx w.drew g l:=⟨h.lt,h.cell,h.free⟩
theorem yx.bytes {w:World} (h:yx w g l):Lib.Bytes w g 0 (bs l):=λi bo=>by
 have cF:=fY l
 rw [YF,h.cell i KK,Ml]
theorem yx.ey {w:World} (h:yx w g l) (j:Nat) (cc:j < l.length) (x:UInt8):yx (w.setCell ⟨g,j,none⟩ (.int .u8 (x.toNat:Int))) g (l.set j x):=by
 refine⟨by have:=h.lt;simpa [World.setCell] using this,λi bo=>?_,λi bo=>?_⟩
 .rw [List.length_set] at bo
  by_cases e:j= i
  .subst e
   rw [World.cell?_setCell_same (v:= .int .u8 (x.toNat:Int)) (h:=h.cell j cc)]
   simp
  .rw [World.cell?_setCell_other (h:=by simp [e]),h.cell i bo,List.getElem_set_ne e]
 .rw [List.length_set] at bo
  rw [World.frozen?_setCell]
  exact h.free i bo
structure ft where
 bY:ByteArray
 bW:ByteArray
 bM:Int
def ft.cells (x:ft):List Value:=[.string x.bY,.string x.bW,.int .i64 x.bM]
def ft.d (x:ft):cN:=x.bY.data.toList
def ft.p (x:ft):cN:=x.bW.data.toList
theorem ft.len (x:ft) (h:x.bY.size + x.bW.size<=1048576):x.d.length + x.p.length<=1048576:=by
 unfold ft.d ft.p;rw [YV,YV];exact h
theorem AJ (x:ft):bs x.d= x.bY:=IW _
theorem xH (x:ft):bs x.p= x.bW:=IW _
def fi.c (x:fi):cN:=x.cmd.data.toList
def fi.r (x:fi):cN:=x.rep.data.toList
theorem Ql (x:fi):bs x.c= x.cmd:=IW _
theorem Qm (x:fi):bs x.r= x.rep:=IW _
theorem fi.acz (x:fi) (h:x.cmd.size<=1048576):x.c.length<=1048576:=by unfold fi.c;rw [YV];exact h
theorem fi.ail (x:fi) (h:x.rep.size<=1048576):x.r.length<=1048576:=by unfold fi.r;rw [YV];exact h
theorem avc (x:ft) (h:x.bY.size + x.bW.size<=1048576) (v:Bool) (az:jJ x.d x.p x.bM= v) (w:World) (dN:jV w):Rd 64 #[.agg #[x.bY,x.bW,x.bM]] w λe ah=>e= .returned v/\Below w w ah:=by
 have:=ET x.d x.p x.bM (x.len h) v az w dN
 rwa [AJ,xH] at this
def ahs:ft:=⟨⟨#[]⟩,⟨#[]⟩,0⟩
def ft.ok (x:ft):Bool:=jJ x.d x.p x.bM
def kM (x:ft):ft:=if x.ok then ⟨x.bY ++ x.bW,⟨#[]⟩,x.bM⟩ else ahs
def eK (x:ft) (y:fi):ft:=⟨x.bY,bs (vo x.d x.p x.bM y.c y.r),xG x.d x.p x.bM y.c y.r⟩
def Cl (x:ft) (y:fi):Int:=wz x.d x.p x.bM y.c y.r
def qa (s:ByteArray):ft:=⟨bs (zV s.data.toList),⟨#[]⟩,(HO s.data.toList:Nat)⟩
def Ds (s:ByteArray):Int:=(Kj s.data.toList:Nat)
def Kk (s:ByteArray):Bool:=decide (s.data.toList.length<=30000)
def iz (x:ft):List fi:=pZ x.d x.p x.bM
theorem aBt (x:ft):HV x.d x.p x.bM= .agg #[.string (kM x).bY,.string (kM x).bW,.int .i64 (kM x).bM]:=by
 unfold HV kM ft.ok
 rw [AJ,xH]
 cases jJ x.d x.p x.bM <;> rfl
theorem aAs (x:ft) (h:x.bY.size + x.bW.size<=1048576) (w:World):Rd 243 #[.agg #[x.bY,x.bW,x.bM]] w λe ah=>e= .returned (.tuple #[.agg #[.string (kM x).bY,.string (kM x).bW,.int .i64 (kM x).bM],x.ok])/\Below w w ah:=by
 have:=aAt x.d x.p x.bM (x.len h) w
 rwa [AJ,xH,aBt] at this
theorem avd (x:ft) (h:x.bY.size + x.bW.size<=1048576) (w:World) (dN:jV w):Rd 64 #[.agg #[x.bY,x.bW,x.bM]] w λe ah=>e= .returned x.ok/\Below w w ah:=avc x h _ rfl w dN
theorem agq (x:ft) (h:x.bY.size + x.bW.size<=1048576) (w:World):Rd 44 #[.agg #[x.bY,x.bW,x.bM]] w λe ah=>e= .returned x.ok/\Below w w ah:=by
 have aT:=x.len h;have:=De x.d x.p x.bM KK KK _ rfl w
 rwa [AJ,xH] at this
theorem auv (x:ft) (h:x.bY.size + x.bW.size<=1048576) (y:fi) (aN:y.cmd.size<=1048576) (bu:y.rep.size<=1048576) (w:World) (dN:jV w):Rd 57 #[.agg #[x.bY,x.bW,x.bM],.agg #[y.cmd,y.rep]] w λe ah=>e= .returned (.tuple #[.agg #[.string (eK x y).bY,.string (eK x y).bW,.int .i64 (eK x y).bM],.int .i64 (Cl x y)])/\Below w w ah:=by
 have:=auw x.d x.p x.bM (x.len h) y.c y.r (y.acz aN) (y.ail bu) w dN
 unfold qC at this
 rwa [AJ,xH,Ql,Qm] at this
theorem SJ (x:ft) (h:x.bY.size + x.bW.size<=1048576) (y:fi) (aN:y.cmd.size<=1048576) (bu:y.rep.size<=1048576) (w:World):Rd 51 #[.agg #[x.bY,x.bW,x.bM],.agg #[y.cmd,y.rep]] w λe ah=>e= .returned (.tuple #[.agg #[.string (eK x y).bY,.string (eK x y).bW,.int .i64 (eK x y).bM],.int .i64 (Cl x y)])/\Below w w ah:=by
 have:=azB x.d x.p x.bM (x.len h) y.c y.r (y.acz aN) (y.ail bu) w
 unfold qC at this
 rwa [AJ,xH,Ql,Qm] at this
theorem afL (x:ft) (h:x.bY.size + x.bW.size<=1048576) (w:World) (dN:jV w):Rd 23 #[.agg #[x.bY,x.bW,x.bM]] w λe ah=>∃A c,e= .returned (.tuple #[.slice A (iz x).length c,x.ok])/\bn w 56 2 fi.cells ah (.slice A (iz x).length c) (iz x)/\Below w w ah:=by
 have:=avf x.d x.p x.bM (x.len h) w dN
 rwa [AJ,xH] at this
def dE.log (x:dE):ft:=⟨x.bY,x.bW,x.bM⟩
def gJ (x:dE):Bool:=qW x.nA && x.log.ok
theorem acB (h:qW x.nA= false):gJ x= false:=by rw [gJ,h];rfl
theorem acC (h:qW x.nA= true):gJ x= x.log.ok:=by rw [gJ,h];rfl
theorem alY (h:v:=by
 replace aR:=aR.to aj;replace af:=aR.ca
 go_wp2
 go_ret
 exact⟨rfl,(ai U ao)⟩):v:=h
theorem alZ (h:v:=by
 replace aR:=aR.to aY;replace af:=aR.ca
 go_wp2
 go_ret
 exact⟨rfl,(ai U ao)⟩):v:=h
theorem zN (x:dE) (h0:x.bT) (h1:x.ch) (h2:x.cz) (h3:x.cC) (h4:x.bQ) (cF:x.bY.size + x.bW.size<=1048576) (v:Bool) (az:gJ x= v) {w:World} (bk:aX 7 aM.cells w aq x.bT) (bg:aX 3 aZ.cells w au x.ch) (bp:aX 1 cE w ak x.cz) (bj:aX 3 aW.cells w al x.cC) (cD:aX 3 Out.cells w aF x.bQ) (ev:x.bT.length<=c0) (eU:x.ch.length<=aw) (cL:x.cz.length<=c2) (dS:x.cC.length<=c3) (hl:x.bQ.length<=c4) (bX:jV w):
 Rd 21 #[.agg #[aq x.bT c0,au x.ch aw,x.dw,x.dp,x.dF,ak x.cz c2,al x.cC c3,aF x.bQ c4,x.bY,x.bW,x.bM]] w λe ah=>e= .returned v/\Below w w ah:=by
 cases hm:qW x.nA
 .have cI:=I hm
  rw [acB hm] at az
  subst az
  clear hm
  go_in
  go_upto_region 1 with fail
  refine dh λaO ar aR=>?_
  obtain⟨bk,bg,bp,bj,cD⟩:=Xv bk bg bp bj cD ar;have U:=ar;have af:=aR.ca
  go_wp2_with fail
  refine (Hk x.nA h0 h1 h2 h3 h4 _ cI.o (bk.ad ao) (bg.ad ao) (bp.ad ao) (bj.ad ao) (cD.ad ao) ev eU cL dS hl).mono ?_
  rintro e aI ⟨rfl,aQ⟩
  have aj:=be aO aQ;replace U:=ai U aj
  exact alY
 .have cI:=I hm
  rw [acC hm] at az
  subst az
  clear hm
  go_in
  go_upto_region 1 with fail
  refine dh λaO ar aR=>?_
  obtain⟨bk,bg,bp,bj,cD⟩:=Xv bk bg bp bj cD ar;replace bX:=bX.ad ar;have U:=ar;have af:=aR.ca
  go_wp2_with fail
  refine (Hk x.nA h0 h1 h2 h3 h4 _ cI.o (bk.ad ao) (bg.ad ao) (bp.ad ao) (bj.ad ao) (cD.ad ao) ev eU cL dS hl).mono ?_
  rintro e aI ⟨rfl,aQ⟩
  have aj:=be aO aQ;replace U:=ai U aj;replace bX:=bX.ad aj;replace aR:=aR.to aj;replace af:=aR.ca
  go_wp2_with fail
  refine (avd x.log cF _ (bX.ad ao)).mono ?_
  rintro e bw ⟨rfl,bG⟩
  have aY:=be aI bG;replace U:=ai U aY
  exact alZ
theorem Bm (x:dE) (h0:x.bT) (h1:x.ch) (h2:x.cz) (h3:x.cC) (h4:x.bQ) (cF:x.bY.size + x.bW.size<=1048576) (v:Bool) (az:gJ x= v) {w:World} (bk:aX 7 aM.cells w aq x.bT) (bg:aX 3 aZ.cells w au x.ch) (bp:aX 1 cE w ak x.cz) (bj:aX 3 aW.cells w al x.cC) (cD:aX 3 Out.cells w aF x.bQ) (ev:x.bT.length<=c0) (eU:x.ch.length<=aw) (cL:x.cz.length<=c2) (dS:x.cC.length<=c3) (hl:x.bQ.length<=c4):
 Rd 59 #[.agg #[aq x.bT c0,au x.ch aw,x.dw,x.dp,x.dF,ak x.cz c2,al x.cC c3,aF x.bQ c4,x.bY,x.bW,x.bM]] w λe ah=>e= .returned v/\Below w w ah:=by
 cases hm:qW x.nA
 .have cI:=I hm
  rw [acB hm] at az
  subst az
  clear hm
  go_in
  go_upto_region 1 with fail
  refine dh λaO ar aR=>?_
  obtain⟨bk,bg,bp,bj,cD⟩:=Xv bk bg bp bj cD ar;have U:=ar;have af:=aR.ca
  go_wp2_with fail
  refine (Hq x.nA h0 h1 h2 h3 h4 _ cI.o (bk.ad ao) (bg.ad ao) (bp.ad ao) (bj.ad ao) (cD.ad ao) ev eU cL dS hl).mono ?_
  rintro e aI ⟨rfl,aQ⟩
  have aj:=be aO aQ;replace U:=ai U aj
  exact alY
 .have cI:=I hm
  rw [acC hm] at az
  subst az
  clear hm
  go_in
  go_upto_region 1 with fail
  refine dh λaO ar aR=>?_
  obtain⟨bk,bg,bp,bj,cD⟩:=Xv bk bg bp bj cD ar;have U:=ar;have af:=aR.ca
  go_wp2_with fail
  refine (Hq x.nA h0 h1 h2 h3 h4 _ cI.o (bk.ad ao) (bg.ad ao) (bp.ad ao) (bj.ad ao) (cD.ad ao) ev eU cL dS hl).mono ?_
  rintro e aI ⟨rfl,aQ⟩
  have aj:=be aO aQ;replace U:=ai U aj;replace aR:=aR.to aj;replace af:=aR.ca
  go_wp2_with fail
  refine (agq x.log cF _).mono ?_
  rintro e bw ⟨rfl,bG⟩
  have aY:=be aI bG;replace U:=ai U aY
  exact alZ
theorem RV (h:jR rs= true) {id:Int} {r:aM} (bu:jb rs id= some r):r.name.size<=10:=by
 obtain⟨k,ax⟩:=YY.1 (List.mem_of_find?_eq_some bu)
 have:=(yd (ye h ax)).2.2.2.2.2.2
 simp [vZ,fB] at this;omega
theorem aij:∀(eZ:List Nat) (a:Nat),(a ::eZ).Pairwise (· < ·)->∀x ∈ a ::eZ,x<=(a ::eZ).getLastD 0
 | [],a,_,x,av=>by simp at av;subst av;simp
 | z ::eZ,a,h,x,av=>by
  have h2:=(YM.1 h).2
  have e:(a ::z ::eZ).getLastD 0= (z ::eZ).getLastD 0:=by simp [List.getLastD_eq_getLast?,List.getLast?_cons]
  rw [e]
  have eR:=aij eZ z h2
  rcases Xl.1 av with rfl | av
  .have h3:=(YM.1 h).1 z Wn
   have h4:=eR z Wn
   omega
  .exact eR x av
theorem adj (l:cN):∀m ∈ 0 ::(ir l).map (·.2.2),m<=ik l:=λm hm=>aij _ _ (SA 61 0 l 0) m hm
theorem aIg {α:Type} {p:α->Bool}:∀{l:List α},(∀x ∈ l,p x= true)->l.takeWhile p= l
 | [],_=>rfl
 | x ::l,h=>by
  rw [List.takeWhile_cons,h x Wn,XX rfl,aIg λy hy=>h y (by simp [hy])]
theorem aFw (l:cN):ir (l.take (ik l))= ir l:=by
 have h:=SB 61 0 (l.take (ik l)) (l.drop (ik l)) 0
 rw [List.take_append_drop,YF] at h
 refine Eq.trans (show ir _= _ from h) (aIg λx av=>?_)
 have h1:=adj l x.2.2 (List.mem_cons_of_mem _ (YP.2 ⟨x,av,rfl⟩));have h2:=(Gq l).2
 rw [Xf,YA];omega
theorem take_set {α:Type} (p:List α) (j:Nat) (y:α) (h:j < p.length):(p.take (j + 1)).set j y= p.take j ++ [y]:=by
 rw [Yu h,List.set_append_right _ _ ZH]
 rw [YA,show j - min j p.length= 0 from by omega]
 rfl
theorem XT {d p:cN} (h:jJ d p n= true):d.length + p.length<=30000/\ik (d ++ p)= d.length + p.length/\ik d= d.length/\((hc (d ++ p)).length:Int)= n:=by
 unfold jJ at h
 simp only [Xa,Xf,Xx] at h
 omega
theorem agH (l:cN) (aT:l.length<=30000):jJ (l.take (ik l)) [] ((hc l).length:Nat)= true:=by
 have h1:=(Gq l).2
 have h2:ik (l.take (ik l))= ik l:=by
  show AO (ir _)= AO (ir l)
  rw [aFw]
 have h3:hc (l.take (ik l))= hc l:=by unfold hc;rw [aFw]
 have h4:(l.take (ik l)).length= ik l:=by rw [YA];omega
 unfold jJ
 rw [Yq,h2,h3,h4]
 simp
 omega
theorem ahT (f k a:Nat):iU f k [] a= []:=aFy (ahP k)
theorem ahR (n:Nat) (bq:n < 60) {c r:cN} (fo:mc c r= true):∀(f k:Nat) (l:cN) (a:Nat),(a ::(iU f k l a).map (·.2.2)).getLastD 0= a + l.length->(iU f k l a).length < f->k + (iU f k l a).length= n->
  iU f k (l ++ (gq n c r ++ [10])) a= iU f k l a ++ [(c,r,a + l.length + ((gq n c r).length + 1))]
 | 0,_,_,_,_,h,_=>by omega
 | f + 1,k,l,a,aT,hf,ax=>by
  cases av:jZ l k with
  | none=>
   rw [aFy av] at aT ax ⊢
   simp only [List.map_nil,ZS,XW] at aT ax
   have h0:l= []:=by
    simp at aT
    exact aT
   subst h0;subst ax
   rw [List.nil_append,iU,ahQ bq fo]
   simp only
   have e:(gq k c r ++ [10]).drop ((gq k c r).length + 1)= []:=Wn
   rw [e,ahT]
   simp
  | some x=>
   obtain⟨dq,hr,m⟩:=x
   obtain⟨h0,h1,e,h2⟩:=Fc av
   have hm:=Fb av
   have aqu:iU (f + 1) k l a= (dq,hr,a + m) ::iU f (k + 1) (l.drop m) (a + m):=by rw [iU,av]
   rw [aqu] at aT hf ax ⊢
   simp only [List.map_cons,YK] at aT hf ax
   have gx:∀L:List Nat,(a ::(a + m) ::L).getLastD 0= ((a + m) ::L).getLastD 0:=λL=>by simp [List.getLastD_eq_getLast?,List.getLast?_cons]
   rw [gx] at aT
   have eR:=ahR n bq fo f (k + 1) (l.drop m) (a + m) (by rw [aT,YQ];omega) KK KK
   have bu:jZ (l ++ (gq n c r ++ [10])) k= some (dq,hr,m):=by
    rw [h2,YX,YL,ahQ h0 h1,e]
   rw [iU,bu]
   simp only
   rw [List.drop_append_of_le_length hm.1,eR,YQ]
   simp
   omega
theorem ayn {c r:cN} (aT:ik l= l.length) (bq:(ir l).length < 60) (fo:mc c r= true):
  ir (l ++ (gq ((ir l).length:Nat) c r ++ [10]))= ir l ++ [(c,r,l.length + ((gq ((ir l).length:Nat) c r).length + 1))]:=by
 have h:=ahR (ir l).length bq fo 61 0 l 0 (by rw [YF];exact aT) (by show (ir l).length < 61;omega) (by rw [YF];rfl)
 rw [YF] at h
 exact h
theorem ft.ext {x y:ft} (h1:x.bY= y.bY) (h2:x.bW= y.bW) (h3:x.bM= y.bM):x= y:=by
 cases x;cases y;simp at h1 h2 h3;subst h1;subst h2;subst h3;rfl
theorem Qh {x:ft} {y:fi} (h:Cl x y= 0):
  x.ok= true/\(eK x y).ok= true/\iz (eK x y)= iz x ++ [y]/\(eK x y).bM= ((iz (eK x y)).length:Int)/\Kk ((eK x y).bY ++ (eK x y).bW)= true/\Ds ((eK x y).bY ++ (eK x y).bW)= (((eK x y).bY ++ (eK x y).bW).size:Int)/\kM (eK x y)= qa ((eK x y).bY ++ (eK x y).bW):=by
 have h0:rS x.d x.p x.bM y.c y.r= true/\(x.bM == 60)= false:=by
  unfold Cl wz at h
  cases de:rS x.d x.p x.bM y.c y.r
  .rw [de] at h;simp at h
  .rw [de,XX rfl] at h
   cases aB:x.bM == 60
   .exact⟨rfl,rfl⟩
   .rw [aB] at h;simp at h
 obtain⟨de,aB⟩:=h0
 have Gy:=de
 unfold rS at Gy
 rw [Xa] at Gy
 obtain⟨aT,fo⟩:=Gy
 obtain⟨dJ,dt,mR,lP⟩:=XT aT
 obtain⟨n0,n1,_⟩:=Oa aT
 have ew:x.bM≠60:=λe=>by rw [e] at aB;simp at aB
 have hlen:(ir (x.d ++ x.p)).length < 60:=by rw [HP] at lP;omega
 have asP:x.bM= ((ir (x.d ++ x.p)).length:Nat):=by rw [HP] at lP;omega
 have bl:=ayn (c:=y.c) (r:=y.r) (by rw [dt,Xu]) hlen fo
 rw [<- asP] at bl
 have ru:(eK x y).p= x.p ++ (gq x.bM y.c y.r ++ [10]):=by
  show (bs (vo x.d x.p x.bM y.c y.r)).data.toList= _
  rw [wB]
  unfold vo
  rw [de,aB]
  rfl
 have xL:(eK x y).d= x.d:=rfl
 have bU:(eK x y).bM= x.bM + 1:=by
  unfold eK xG
  simp only
  rw [de,aB]
  rfl
 have ec:ik (x.d ++ (x.p ++ (gq x.bM y.c y.r ++ [10])))= (x.d ++ (x.p ++ (gq x.bM y.c y.r ++ [10]))).length:=by
  show AO (ir _)= _
  rw [<- YX,bl,adi]
  simp
  omega
 have hle:=(Gq (x.d ++ (x.p ++ (gq x.bM y.c y.r ++ [10])))).1
 have bB:hc (x.d ++ (x.p ++ (gq x.bM y.c y.r ++ [10])))= hc (x.d ++ x.p) ++ [y]:=by
  unfold hc
  have e:∀m,uh (y.c,y.r,m)= y:=λm=>by
   unfold uh
   simp only
   rw [Ql,Qm]
  rw [<- YX,bl,List.map_append]
  simp only [List.map_cons,List.map_nil,e]
 have bJ:jJ x.d (x.p ++ (gq x.bM y.c y.r ++ [10])) (x.bM + 1)= true:=by
  unfold jJ
  rw [ec,bB,mR]
  rw [ec] at hle
  simp only [Xu] at hle lP ⊢
  simp
  omega
 have Bc:(eK x y).ok= true:=by unfold ft.ok;rw [xL,ru,bU];exact bJ
 have br:iz (eK x y)= iz x ++ [y]:=by
  unfold iz pZ
  rw [xL,ru,bU,XX bJ,XX aT,bB]
 have AS:iz x= hc (x.d ++ x.p):=by unfold iz pZ;rw [XX aT]
 have q1:((eK x y).bY ++ (eK x y).bW).data.toList= x.d ++ (x.p ++ (gq x.bM y.c y.r ++ [10])):=by
  rw [<- AJ,<- xH,xL,ru,qi,wB]
 have gM:(((eK x y).bY ++ (eK x y).bW).size:Nat)= (x.d ++ (x.p ++ (gq x.bM y.c y.r ++ [10]))).length:=by
  rw [<- q1,YV];rfl
 rw [ec] at hle
 refine⟨aT,Bc,br,?_,?_,?_,?_⟩
 .rw [bU,br,AS,Xu,Yi];omega
 .unfold Kk;rw [q1,Xf];omega
 .unfold Ds Kj;rw [q1,gM,XX KK,ec]
 .unfold kM
  rw [Bc,XX rfl]
  refine ft.ext ?_ rfl ?_
  .show _= bs (zV _)
   rw [q1]
   unfold zV
   rw [XX KK,ec,Yh]
   rw [<- q1,IW]
  .show (eK x y).bM= ((HO _:Nat):Int)
   rw [q1]
   unfold HO
   rw [XX KK,bU,bB,Xu,Yi]
   omega
theorem akk (n:Int):0<=IntKind.u64.wrap n/\IntKind.u64.wrap n < 18446744073709551616:=by
  rw [IntKind.wrap_u64];omega
theorem ace {s:Int} (h0:0<=s) (h1:s < 18446744073709551616):0<=wrap64 (bits .and .u64 (s / 1099511627776) 255)/\wrap64 (bits .and .u64 (s / 1099511627776) 255)<=255:=by
  obtain⟨n,bq⟩ :∃n:Nat,(n:Int)= s / 1099511627776:=⟨(s / 1099511627776).toNat,by omega⟩
  have h2:=bits_and_u64_nat n 255 KK KK
  rw [<- bq,show (255:Int)= ((255:Nat):Int) from rfl,h2]
  have h3:n &&& 255<=255:=Nat.and_le_right
  unfold wrap64
  omega
theorem _root_.Go.Proofs.YtlaaemmmbodaaaaGreatDoor.ay.nf {w:World} {p:Nat} {cs:Array Value} (h:ay w g t cs) (cy:w.grownBy ah (some p)) (ew:g≠p):ay ah g t cs:=
  (cy.block g h.lt (λe=>ew (Wx e))).trans h
theorem il {w W:World} {p:Nat} (h:w.grownBy W (some p)) (cy:w.heap.size<=g) (j:Nat) (u:Value):w.grownBy (W.setCell ⟨g,j,none⟩ u) (some p):=
  ⟨h.os,h.tape,h.output,by simpa [World.setCell] using h.size,λi bo ew=>(Below.heap_setCell W _ u i (by show i≠g;omega)).trans (h.block i bo ew)⟩
theorem mE {T:Type} {sz:Nat} {f:T->List Value} {w:World} {xs:List T} {p:Nat} (h:aX sz f w A xs) (cy:w.grownBy ah (some p)) (ew:∀eH,A= some eH->0 < xs.length->eH.block≠p):aX sz f ah A xs:=by
  by_cases bq:0 < xs.length
  . exact h.grown cy (λeH de e=>ew eH de bq (Wx e))
  . have:xs= []:=YD.1 KK
    subst this;exact aX.nil
def Ac (x:UInt8):List Value:=[.int .u8 (x.toNat:Int)]
structure gX (w:World) (p:Nat) (A:Option Addr) (c:Nat) (cs:List UInt8) (N:Nat):Prop where
  box:∃(i s:Int),ay w p 95 #[.slice A cs.length c,.int .i64 i,.int .u64 s]/\0<=i/\i<=N
  ej:aX 1 Ac w A cs
  lo:∀eH,A= some eH->0 < cs.length->eH.block < p
theorem aHD (p:Nat) (A:QR) (c:Nat) (cs:List UInt8) (cK:cs) (N:Nat) (bU:N<=1000000) (w:World) (h:gX w p A c cs N):
  Rd 90 #[.pointer (some ⟨p,0,none⟩)] w λe ah=>∃r:Int,e= .returned r/\0<=r/\r<=255/\gX ah p A c cs (N + 1)/\w.grownBy ah (some p):=by
  obtain⟨⟨i,s,bz,atk,Nt⟩,bB,pv⟩:=h
  have ew:∀eH,A= some eH->0 < cs.length->eH.block≠p:=λeH h1 h2=>Nat.ne_of_lt (pv eH h1 h2)
  obtain⟨k,rfl⟩ :∃k:Nat,i= k:=⟨i.toNat,by omega⟩
  have aT:=bz.lt
  have cA:=λK:aD w w=>((bz.ad K.ad bz.lt).cell 0).trans (show _= some (A cs c) from rfl)
  have x1:=λK:aD w w=>((bz.ad K.ad bz.lt).cell 1).trans (show _= some (.int .i64 (k:Int)) from rfl)
  have cB:=λK:aD w w=>((bz.ad K.ad bz.lt).cell 2).trans (show _= some (.int .u64 s) from rfl)
  by_cases bC:k < cs.length
  . obtain⟨dD,aEK,bE,hA0,asF,lN,aeE⟩:=bB.at_ (Wt _ _) bC
    have f0:=aeE 0 _ rfl;clear lN aeE hA0 asF
    go_enter Tryz.func90,Tryz.ntmps90
    go_wp2
    refine eQ PV PV ?_
    repeat (go_big_quiet_step ((fail)))
    refine VF ?_
    intro IJ
    have Ji:=bz.ad IJ.ad aT;have wU:w.grownBy IJ.world (some p):=bL IJ.ad _;have pj:=bB.ad IJ.ad;clear cA x1 cB f0
    generalize IJ.world= Qb at *
    obtain⟨b,off,x,bl,eN,av,bO⟩:=pj.at_ (Wt _ _) bC
    have f0:=bO 0 _ rfl
    simp only [Xw,XW] at f0
    have zK:=x.toNat_lt
    have xV:(x.toNat:Int)<=255:=KK
    have JH:(0:Int)<=(x.toNat:Int):=KK
    subst bl
    clear av bO zK;have aCk:=Ji.lt
    have cA:=λK:aD Qb Qb=>((Ji.ad K.ad Ji.lt).cell 0).trans (show _= some (.slice (some ⟨b,off,none⟩) cs c) from rfl)
    have x1:=λK:aD Qb Qb=>((Ji.ad K.ad Ji.lt).cell 1).trans (show _= some (.int .i64 (k:Int)) from rfl)
    go_wp2
    refine eQ PV PV ?_
    repeat (go_big_quiet_step ((fail)))
    refine VF ?_
    intro K
    go_upto_region 4 with fail
    clear cA x1 f0;have fm:=Ji.ad K.ad aCk;have ed:=bx wU (bL K.ad (some p))
    generalize K.world= W at *
    have y:=fm.lt;have x1:=(fm.cell 1).trans (show _= some (.int .i64 (k:Int)) from rfl);have f1:=fm.frozen 1
    go_upto_region 5 with fail
    clear x1 f1;replace fm:ay (World.setCell W ⟨p,1,none⟩ (.int .i64 ((k:Int) + 1))) p 95 #[.slice (some ⟨b,off,none⟩) cs c,.int .i64 ((k:Int) + 1),.int .u64 s]:=fm.ey 1 _;replace ed:=fZ (j:=1) ed (.int .i64 ((k:Int) + 1))
    generalize World.setCell W ⟨p,1,none⟩ (.int .i64 ((k:Int) + 1))= na at *
    replace y:=fm.lt;have cB:=(fm.cell 2).trans (show _= some (.int .u64 s) from rfl);have f2:=fm.frozen 2
    go_upto_region 6 with fail
    clear cB f2
    obtain⟨s2,pY⟩ :∃s2,s2= IntKind.u64.wrap (IntKind.u64.wrap (IntKind.u64.wrap (s * 6364136223846793005) + (x.toNat:Int)) + 909909):=⟨_,rfl⟩
    have hw:=akk (IntKind.u64.wrap (IntKind.u64.wrap (s * 6364136223846793005) + (x.toNat:Int)) + 909909)
    rw [<- pY] at hw ⊢
    clear pY;replace fm:ay (World.setCell na ⟨p,2,none⟩ (.int .u64 s2)) p 95 #[.slice (some ⟨b,off,none⟩) cs c,.int .i64 ((k:Int) + 1),.int .u64 s2]:=fm.ey 2 _;replace ed:=fZ (j:=2) ed (.int .u64 s2)
    generalize World.setCell na ⟨p,2,none⟩ (.int .u64 s2)= kE at *
    replace y:=fm.lt
    have cA:=λK:aD kE kE=>((fm.ad K.ad fm.lt).cell 0).trans (show _= some (.slice (some ⟨b,off,none⟩) cs c) from rfl)
    have x1:=λK:aD kE kE=>((fm.ad K.ad fm.lt).cell 1).trans (show _= some (.int .i64 ((k:Int) + 1)) from rfl)
    have hle:(k:Int) + 1<=(cs.length:Int):=KK
    go_wp2
    refine eQ PV PV ?_
    repeat (go_big_quiet_step ((fail)))
    refine VF ?_
    intro ff
    clear cA x1;have vr:=fm.ad ff.ad y;have fx:=bx ed (bL ff.ad (some p))
    generalize ff.world= Ed at *
    go_wp2
    go_ret
    refine⟨_,rfl,?_,?_,⟨⟨_,_,vr,by omega,by omega⟩,mE bB fx ew,pv⟩,fx⟩
    . exact JH
    . exact xV
  . go_enter Tryz.func90,Tryz.ntmps90
    go_wp2
    refine eQ PV PV ?_
    repeat (go_big_quiet_step ((fail)))
    refine VF ?_
    intro K
    go_upto_region 4 with fail
    clear cA x1 cB;have fm:=bz.ad K.ad aT;have ed:w.grownBy K.world (some p):=bL K.ad _
    generalize K.world= W at *
    have y:=fm.lt;have x1:=(fm.cell 1).trans (show _= some (.int .i64 (k:Int)) from rfl);have f1:=fm.frozen 1
    go_upto_region 5 with fail
    clear x1 f1;replace fm:ay (World.setCell W ⟨p,1,none⟩ (.int .i64 ((k:Int) + 1))) p 95 #[A cs c,.int .i64 ((k:Int) + 1),.int .u64 s]:=fm.ey 1 _;replace ed:=fZ (j:=1) ed (.int .i64 ((k:Int) + 1))
    generalize World.setCell W ⟨p,1,none⟩ (.int .i64 ((k:Int) + 1))= na at *
    replace y:=fm.lt;have cB:=(fm.cell 2).trans (show _= some (.int .u64 s) from rfl);have f2:=fm.frozen 2
    go_upto_region 6 with fail
    clear cB f2
    obtain⟨s2,pY⟩ :∃s2,s2= IntKind.u64.wrap (IntKind.u64.wrap (IntKind.u64.wrap (s * 6364136223846793005)) + 909909):=⟨_,rfl⟩
    have hw:=akk (IntKind.u64.wrap (IntKind.u64.wrap (s * 6364136223846793005)) + 909909)
    rw [<- pY] at hw ⊢
    clear pY;replace fm:ay (World.setCell na ⟨p,2,none⟩ (.int .u64 s2)) p 95 #[A cs c,.int .i64 ((k:Int) + 1),.int .u64 s2]:=fm.ey 2 _;replace ed:=fZ (j:=2) ed (.int .u64 s2)
    generalize World.setCell na ⟨p,2,none⟩ (.int .u64 s2)= kE at *
    replace y:=fm.lt
    have cA:=λK:aD kE kE=>((fm.ad K.ad fm.lt).cell 0).trans (show _= some (A cs c) from rfl)
    have x1:=λK:aD kE kE=>((fm.ad K.ad fm.lt).cell 1).trans (show _= some (.int .i64 ((k:Int) + 1)) from rfl)
    go_wp2
    refine eQ PV PV ?_
    repeat (go_big_quiet_step ((fail)))
    refine VF ?_
    intro ff
    clear cA x1;have vr:=fm.ad ff.ad y;have fx:=bx ed (bL ff.ad (some p))
    generalize ff.world= Ed at *
    have cB:=(vr.cell 2).trans (show _= some (.int .u64 s2) from rfl)
    go_wp2
    go_ret
    refine⟨_,rfl,?_,?_,⟨⟨_,_,vr,by omega,by omega⟩,mE bB fx ew,pv⟩,fx⟩
    . exact (ace hw.1 hw.2).1
    . exact (ace hw.1 hw.2).2
theorem gX.mono {w:World} {p:Nat} {c:Nat} {M:Nat} (h:gX w p A c cs N) (aC:N<=M):gX w p A c cs M:=by
  obtain⟨⟨i,s,bz,h0,h1⟩,bB,ew⟩:=h
  exact⟨⟨i,s,bz,h0,by omega⟩,bB,ew⟩
theorem gX.lt {w:World} {p:Nat} {c:Nat} (h:gX w p A c cs N):p < w.heap.size:=by
  obtain⟨⟨i,s,bz,h0,h1⟩,bB,ew⟩:=h
  exact bz.lt
theorem gX.aK {w:World} {p:Nat} {c:Nat} (h:gX w p A c cs N) (aB:Below w w ah):gX ah p A c cs N:=by
  obtain⟨⟨i,s,bz,h0,h1⟩,bB,ew⟩:=h
  exact⟨⟨i,s,bz.ad aB bz.lt,h0,h1⟩,bB.ad aB,ew⟩
theorem gX.store {w:World} {p:Nat} {c:Nat} (h:gX w p A c cs N) (cy:p < g) (j:Nat) (u:Value):gX (w.setCell ⟨g,j,none⟩ u) p A c cs N:=by
  obtain⟨⟨i,s,bz,h0,h1⟩,bB,ew⟩:=h
  have EE:=fZ (j:=j) (g:=g) (ht w (some g)) u
  exact⟨⟨i,s,bz.bV EE,h0,h1⟩,mE bB EE (λeH h2 h3=>by have:=ew eH h2 h3;omega),ew⟩
def Stepped (w ah:World) (p:Nat) (A:Option Addr) (c:Nat) (cs:List UInt8) (N:Nat):Prop:=gX ah p A c cs N/\w.grownBy ah (some p)
theorem Stepped.size {w:World} {p:Nat} {c:Nat} (h:Stepped w ah p A c cs N):w.heap.size<=ah.heap.size:=h.2.size
theorem iI (n:Int) (p:Nat) (A:QR) (c:Nat) (cK:cs) (N:Nat) (bU:N<=900000) (bq:n<=1000000000) (w:World) (h:gX w p A c cs N):
  Rd 50 #[.pointer (some ⟨p,0,none⟩),n] w λe ah=>∃r:Int,e= .returned r/\(0<=r/\(n<=1->r= 0)/\(1 < n->r < n))/\Stepped w ah p A c cs (N + 2):=by
  by_cases h1:n<=1
  . go_enter Tryz.func50,Tryz.ntmps50
    go_wp2
    go_ret
    exact⟨0,rfl,⟨by omega,λ_=>rfl,λ_=>by omega⟩,h.mono KK,ht _ _⟩
  . by_cases h2:n<=200
    . go_enter Tryz.func50,Tryz.ntmps50
      go_wp2_with fail
      refine (aHD p A c cs cK N KK _ h).mono ?_
      rintro e bm ⟨r,rfl,pX,gR,aA,cy⟩
      go_wp2
      go_ret
      exact⟨_,rfl,⟨Int.emod_nonneg _ KK,λh=>by omega,λ_=>Int.emod_lt_of_pos _ KK⟩,aA.mono KK,cy⟩
    . have rU:200 < n:=KK
      go_enter Tryz.func50,Tryz.ntmps50
      go_wp2_with fail
      refine (aHD p A c cs cK N KK _ h).mono ?_
      rintro e bm ⟨r,rfl,pX,gR,aA,cy⟩
      go_wp2_with fail
      refine (aHD p A c cs cK (N + 1) KK _ aA).mono ?_
      rintro e aI ⟨r2,rfl,aEs,aEt,uv,eI⟩
      go_wp2
      go_ret
      exact⟨_,rfl,⟨Int.emod_nonneg _ KK,λh=>by omega,λ_=>Int.emod_lt_of_pos _ KK⟩,uv,bx cy eI⟩
theorem uR (n:Int) (p:Nat) (A:QR) (c:Nat) (cs:List UInt8) (cK:cs) (N:Nat) (bU:N<=900000) (bq:n<=1000000000) (w:World) (h:gX w p A c cs N):
  Rd 49 #[.pointer (some ⟨p,0,none⟩),n] w λe ah=>∃b:Bool,e= .returned b/\Stepped w ah p A c cs (N + 2):=by
  go_enter Tryz.func49,Tryz.ntmps49
  go_wp2_with fail
  refine (iI n p A c cK N bU bq _ h).mono ?_
  rintro e bm ⟨r,rfl,_,bJ⟩
  go_wp2
  go_ret
  exact⟨_,rfl,bJ⟩
def hh (x:ByteArray):List Value:=[.string x]
theorem jP (y:VU):(hh y).length= 1:=rfl
theorem amy (h:v:=by
 go_wp2_with fail
 refine (iI xs.length p A c cK N bU KK _ h).mono ?_
 rintro e bm ⟨r,rfl,⟨pX,gR,nk⟩,bJ⟩
 have bu:r < xs.length:=by
   by_cases h1:(1:Int) < xs.length
   . exact nk h1
   . rw [gR KK];omega
 obtain⟨k,rfl⟩ :∃k:Nat,r= k:=⟨r.toNat,by omega⟩
 have ax:k < xs.length:=KK
 have AS:=mE br bJ.2 ew
 obtain⟨b,off,x,rfl,eN,av,bO⟩:=AS.at_ (Wt _ _) ax
 have f0:=bO 0 _ rfl (aD.self _)
 simp only [Xw,XW,aD.self] at f0
 have fV:=Lib.hid av;clear av bO gR nk br AS
 go_wp2
 go_ret
 exact⟨x,rfl,YE fV.o,bJ⟩):v:=h
theorem Kc {L:QR} {lc:Nat} {xs:List ByteArray} (lN:1<=xs.length) (vI:xs.length<=1000) {p:Nat} {c:Nat} (cK:cs) (bU:N<=900000) {w:World} (h:gX w p A c cs N)
 (br:aX 1 hh w L xs) (ew:∀eH,L= some eH->0 < xs.length->eH.block≠p):
  Rd 95 #[.pointer (some ⟨p,0,none⟩),L xs lc] w λe ah=>∃s,e= .returned (.string s)/\s ∈ xs/\Stepped w ah p A c cs (N + 2):=by
  go_enter Tryz.func95,Tryz.ntmps95
  exact amy
theorem api (L:QR) (lc:Nat) (xs:List Int) (lN:1<=xs.length) (vI:xs.length<=1000) (p:Nat) (A:QR) (c:Nat) (cs:List UInt8) (cK:cs) (N:Nat) (bU:N<=900000) (w:World) (h:gX w p A c cs N)
 (br:aX 1 cE w L xs) (ew:∀eH,L= some eH->0 < xs.length->eH.block≠p):
  Rd 75 #[.pointer (some ⟨p,0,none⟩),L xs lc] w λe ah=>∃s,e= .returned (.int .i64 s)/\s ∈ xs/\Stepped w ah p A c cs (N + 2):=by
  go_enter Tryz.func75,Tryz.ntmps75
  exact amy
theorem KF {c n:Nat} (v:Bool) (az:decide (65536 < n)= v) (w:World):Rd 16 #[A n c] w λe ah=>e= .returned v/\ah= w:=by
 subst az
 go_in
 go_wp2
 go_ret
 exact⟨by first | rfl | (congr 2;simp;omega) | (refine fe ?_;simp;omega),rfl⟩
theorem aab (h:v:=by
 go_wp2
 go_roundw
 case rel=>exact⟨k + 1,by omega,by go_num,ai aB K.ad⟩
 case measure=>simp [intOf];omega):v:=h
theorem aBK (A mg:QR) (c dq:Nat) (xs:List Int) (bq:xs) (w:World) (bB:aX 1 cE w A xs) (MS:aX 1 cE w mg xs):
 Rd 197 #[A xs c,mg xs dq] w λe ah=>e= .returned true/\Below w w ah:=by
 go_in
 go_wp2
 go_loopw [5] (λi wr=>∃(k:Nat),k<=xs.length/\i= .int .i64 k/\Below w w wr) (λi _=>xs.length - (intOf i).toNat)
 case atStart=>exact⟨0,Xd _,rfl,Wt _ _⟩
 case round=>
  obtain⟨k,ax,rfl,aB⟩:=hrel
  by_cases bC:k < xs.length
  .obtain⟨b,off,x,rfl,eN,av,bO⟩:=bB.at_ aB bC
   obtain⟨df,vN,bE,rfl,_,nx,mj⟩:=MS.at_ aB bC
   obtain rfl:x= bE:=Wx (av.symm.trans nx)
   have f0:=bO 0 _ rfl;have e0:=mj 0 _ rfl
   simp only [Xw,XW] at f0 e0
   clear av bO nx mj
   go_wp2
   refine eQ PV PV ?_
   repeat (go_big_quiet_step ((fail)))
   refine VF ?_
   intro K
   exact aab
  .go_wp2
   go_ret
   exact⟨rfl,aB⟩
theorem anw (h:v:=by
 simp only [XW] at f0 e0
 clear av bO nx mj
 go_wp2
 refine eQ PV PV ?_
 repeat (go_big_quiet_step ((fail)))
 refine VF ?_
 intro K
 go_wp2
 go_roundw
 case rel=>exact⟨k + 1,by omega,by go_num,ai aB K.ad⟩
 case measure=>simp [intOf];omega):v:=h
theorem aBN (A mg:QR) (c dq:Nat) (xs:List aM) (bq:xs) (w:World) (bB:aX 7 aM.cells w A xs) (MS:aX 7 aM.cells w mg xs):
 Rd 115 #[A xs c,mg xs dq] w λe ah=>e= .returned true/\Below w w ah:=by
 go_in
 go_wp2
 go_loopw [5] (λi wr=>∃(k:Nat),k<=xs.length/\i= .int .i64 k/\Below w w wr) (λi _=>xs.length - (intOf i).toNat)
 case atStart=>exact⟨0,Xd _,rfl,Wt _ _⟩
 case round=>
  obtain⟨k,ax,rfl,aB⟩:=hrel
  by_cases bC:k < xs.length
  .skip
   obtain⟨b,off,x,rfl,eN,av,bO⟩:=bB.at_ aB bC
   obtain⟨df,vN,bE,rfl,_,nx,mj⟩:=MS.at_ aB bC
   obtain rfl:x= bE:=Wx (av.symm.trans nx)
   obtain⟨id,nm,rk,dT,hq,am,dz,fo⟩:=x
   have f0:=bO 0 _ rfl;have f1:=bO 1 _ rfl;have f2:=bO 2 _ rfl;have f3:=bO 3 _ rfl;have f4:=bO 4 _ rfl;have f5:=bO 5 _ rfl;have f6:=bO 6 _ rfl;have e0:=mj 0 _ rfl;have e1:=mj 1 _ rfl;have e2:=mj 2 _ rfl;have e3:=mj 3 _ rfl;have e4:=mj 4 _ rfl;have e5:=mj 5 _ rfl;have e6:=mj 6 _ rfl
   exact anw
  .go_wp2
   go_ret
   exact⟨rfl,aB⟩
theorem aBM (A mg:QR) (c dq:Nat) (xs:List aZ) (bq:xs) (w:World) (bB:aX 3 aZ.cells w A xs) (MS:aX 3 aZ.cells w mg xs):
 Rd 116 #[A xs c,mg xs dq] w λe ah=>e= .returned true/\Below w w ah:=by
 go_in
 go_wp2
 go_loopw [5] (λi wr=>∃(k:Nat),k<=xs.length/\i= .int .i64 k/\Below w w wr) (λi _=>xs.length - (intOf i).toNat)
 case atStart=>exact⟨0,Xd _,rfl,Wt _ _⟩
 case round=>
  obtain⟨k,ax,rfl,aB⟩:=hrel
  by_cases bC:k < xs.length
  .skip
   obtain⟨b,off,x,rfl,eN,av,bO⟩:=bB.at_ aB bC
   obtain⟨df,vN,bE,rfl,_,nx,mj⟩:=MS.at_ aB bC
   obtain rfl:x= bE:=Wx (av.symm.trans nx)
   obtain⟨id,m,s⟩:=x
   have f0:=bO 0 _ rfl;have f1:=bO 1 _ rfl;have f2:=bO 2 _ rfl;have e0:=mj 0 _ rfl;have e1:=mj 1 _ rfl;have e2:=mj 2 _ rfl
   exact anw
  .go_wp2
   go_ret
   exact⟨rfl,aB⟩
theorem aBJ (tu se sp:Int) (ak aU:QR) (ws:List Int) (c2 d2:Nat) (al bd:QR) (c3 d3:Nat) (ae:List aW) (h2:ws) (h3:ae) (w:World) (bp:aX 1 cE w ak ws) (bj:aX 3 aW.cells w al ae) (fq:aX 1 cE w aU ws) (fv:aX 3 aW.cells w bd ae):
 Rd 117 #[.agg #[tu,se,sp,ak ws c2,al ae c3],.agg #[tu,se,sp,aU ws d2,bd ae d3]] w λe ah=>e= .returned true/\Below w w ah:=by
 go_in
 go_upto_region 1 with fail
 refine fU λaO ar bl bz=>?_
 replace bp:=bp.ad ar;replace bj:=bj.ad ar;replace fq:=fq.ad ar;replace fv:=fv.ad ar;have U:=ar;have a':=bl.aL
 have dD:=bz.aL
 go_wp2_with fail
 refine (aBK ak aU c2 d2 ws h2 _ (bp.ad ao) (fq.ad ao)).mono ?_
 rintro e aI ⟨rfl,aQ⟩
 have aj:=be aO aQ;replace U:=ai U aj;replace bj:=bj.ad aj;replace fv:=fv.ad aj;replace bl:=bl.to aj;replace a':=bl.aL;replace bz:=bz.to aj
 replace dD:=bz.aL
 go_wp2
 have pK:=I U;have rJ:=I bl;have tm:=I bz;have yG:=I bj;have wm:=I fv
 obtain⟨wl,oP⟩ :∃W,W= aI:=⟨_,rfl⟩
 rw [<- oP] at pK rJ tm yG wm
 rw [<- oP]
 clear U bl bz bj fv a' dD
 go_loopw [5] (λi wr=>∃(k:Nat),k<=ae.length/\i= .int .i64 k/\Below wl wl wr) (λi _=>ae.length - (intOf i).toNat)
 case atStart=>exact⟨0,Xd _,rfl,Wt _ _⟩
 case round=>
  obtain⟨k,ax,rfl,aB⟩:=hrel
  have bl:=rJ.o.ad aB rJ.o.lt;have bz:=tm.o.ad aB tm.o.lt;have U:=ai pK.o aB;have a':=bl.aL
  have dD:=bz.aL
  by_cases bC:k < ae.length
  .skip
   obtain⟨b,off,x,rfl,eN,av,bO⟩:=yG.o.at_ aB bC
   obtain⟨df,vN,bE,rfl,_,nx,mj⟩:=wm.o.at_ aB bC
   obtain rfl:x= bE:=Wx (av.symm.trans nx)
   obtain⟨m,t,s⟩:=x
   have f0:=bO 0 _ rfl;have f1:=bO 1 _ rfl;have f2:=bO 2 _ rfl;have e0:=mj 0 _ rfl;have e1:=mj 1 _ rfl;have e2:=mj 2 _ rfl
   simp only [XW] at f0 e0
   clear av bO nx mj
   go_upto_region 6 with fail
   replace a':=ay.kG (λK:aD wr wr=>(bl.ad K.ad bl.lt))
   replace dD:=ay.kG (λK:aD wr wr=>(bz.ad K.ad bz.lt))
   refine eQ PV PV ?_
   repeat (go_big_quiet_step ((fail)))
   refine VF ?_
   intro K
   clear a';clear dD;have aY:Below wr wr K.world:=ai ao K.ad;replace bz:=bz.to aY
   exact aab
  .go_wp2
   go_ret
   exact⟨rfl,U⟩
theorem aBL {qs:List aZ} {tu se sp:Int} {ws:List Int} {ae:List aW} {os:List Out} {bN bZ aU bd bI:QR} {d0 d1 d2 d3 d4:Nat} (h0:rs) (h1:qs) (h2:ws) (h3:ae) (h4:os) {w:World} (R:eF w aq au ak al aF rs qs ws ae os) (Q:eF w bN bZ aU bd bI rs qs ws ae os):
 Rd 62 #[.agg #[aq rs c0,au qs aw,tu,se,sp,ak ws c2,al ae c3,aF os c4],.agg #[bN rs d0,bZ qs d1,tu,se,sp,aU ws d2,bd ae d3,bI os d4]] w λe ah=>e= .returned true/\Below w w ah:=by
 obtain⟨bk,bg,bp,bj,cD⟩:=R
 obtain⟨kQ,kD,fq,fv,kZ⟩:=Q
 go_in
 go_upto_region 1 with fail
 refine fU λaO ar bl bz=>?_
 obtain⟨bk,bg,bp,bj,cD⟩:=Xv bk bg bp bj cD ar;obtain⟨kQ,kD,fq,fv,kZ⟩:=Xv kQ kD fq fv kZ ar;have U:=ar;have a':=bl.aH
 have dD:=bz.aH
 go_wp2_with fail
 refine (aBN aq bN c0 d0 rs h0 _ (bk.ad ao) (kQ.ad ao)).mono ?_
 rintro e aI ⟨rfl,aQ⟩
 have aj:=be aO aQ;replace U:=ai U aj;obtain⟨bg,bp,bj,cD,kD⟩:=Xv bg bp bj cD kD aj;replace fq:=fq.ad aj;replace fv:=fv.ad aj;replace kZ:=kZ.ad aj;replace bl:=bl.to aj;replace a':=bl.aH;replace bz:=bz.to aj
 replace dD:=bz.aH
 go_wp2_with fail
 refine (aBM au bZ aw d1 qs h1 _ (bg.ad ao) (kD.ad ao)).mono ?_
 rintro e bw ⟨rfl,bG⟩
 have aY:=be aI bG;replace U:=ai U aY;obtain⟨bp,bj,cD,fq,fv⟩:=Xv bp bj cD fq fv aY;replace kZ:=kZ.ad aY;replace bl:=bl.to aY;replace a':=bl.aH;replace bz:=bz.to aY
 replace dD:=bz.aH
 go_wp2_with fail
 refine (aBJ tu se sp ak aU ws c2 d2 al bd c3 d3 ae h2 h3 _ (bp.ad ao) (bj.ad ao) (fq.ad ao) (fv.ad ao)).mono ?_
 rintro e bH ⟨rfl,db⟩
 have cj:=be bw db;replace U:=ai U cj;replace cD:=cD.ad cj;replace kZ:=kZ.ad cj;replace bl:=bl.to cj;replace a':=bl.aH;replace bz:=bz.to cj
 replace dD:=bz.aH
 clear bk bg bp bj kQ kD fq fv
 go_wp2
 have pK:=I U;have rJ:=I bl;have tm:=I bz;have yG:=I cD;have wm:=I kZ
 obtain⟨wl,oP⟩ :∃W,W= bH:=⟨_,rfl⟩
 rw [<- oP] at pK rJ tm yG wm
 rw [<- oP]
 clear U bl bz cD kZ a' dD
 go_loopw [5] (λi wr=>∃(k:Nat),k<=os.length/\i= .int .i64 k/\Below wl wl wr) (λi _=>os.length - (intOf i).toNat)
 case atStart=>exact⟨0,Xd _,rfl,Wt _ _⟩
 case round=>
  obtain⟨k,ax,rfl,aB⟩:=hrel
  have bl:=rJ.o.ad aB rJ.o.lt;have bz:=tm.o.ad aB tm.o.lt;have U:=ai pK.o aB;have a':=bl.aH
  have dD:=bz.aH
  by_cases bC:k < os.length
  .skip
   obtain⟨b,off,x,rfl,eN,av,bO⟩:=yG.o.at_ aB bC
   obtain⟨df,vN,bE,rfl,_,nx,mj⟩:=wm.o.at_ aB bC
   obtain rfl:x= bE:=Wx (av.symm.trans nx)
   obtain⟨r,m,a⟩:=x
   have f0:=bO 0 _ rfl;have f1:=bO 1 _ rfl;have f2:=bO 2 _ rfl;have e0:=mj 0 _ rfl;have e1:=mj 1 _ rfl;have e2:=mj 2 _ rfl
   simp only [XW] at f0 e0
   clear av bO nx mj
   go_upto_region 6 with fail
   replace a':=ay.qF (λK:aD wr wr=>(bl.ad K.ad bl.lt))
   replace dD:=ay.qF (λK:aD wr wr=>(bz.ad K.ad bz.lt))
   refine eQ PV PV ?_
   repeat (go_big_quiet_step ((fail)))
   refine VF ?_
   intro K
   clear a';clear dD;have dK:Below wr wr K.world:=ai ao K.ad;replace bz:=bz.to dK
   exact aab
  .go_wp2
   go_ret
   exact⟨rfl,U⟩
def Ef (l:List UInt8):ByteArray:=⟨l.toArray⟩
theorem Qo (s:VU):Ef s.data.toList= s:=by obtain⟨⟨l⟩⟩:=s;rfl
def mf (c:UInt8):List UInt8->List (List UInt8)
 | []=>[[]]
 | x ::l=>if x == c then [] ::mf c l else match mf c l with | []=>[[x]] | w ::ws=>(x ::w) ::ws
theorem SW {c:UInt8}:∀{u:List UInt8},(∀x ∈ u,(x == c)= false)->mf c u= [u]
 | [],_=>rfl
 | x ::u,h=>by
  have av:=h x Wn;have eR:=SW (u:=u) (λy hy=>h y (by simp [hy]))
  simp only [mf,av,eR];rfl
theorem aIK {c:UInt8}:∀{u v:List UInt8},(∀x ∈ u,(x == c)= false)->mf c (u ++ c ::v)= u ::mf c v
 | [],v,_=>by simp [mf]
 | x ::u,v,h=>by
  have av:=h x Wn;have eR:=aIK (u:=u) (v:=v) (λy hy=>h y (by simp [hy]))
  simp only [YL,mf,av,eR];rfl
theorem aIJ (c:UInt8) (l:List UInt8):mf c l≠[]:=by
  cases l with
  | nil=>simp [mf]
  | cons x l=>unfold mf;split;· simp
              split <;> simp
theorem aII (c:UInt8):∀l:List UInt8,(mf c l).length<=l.length + 1
 | []=>by simp [mf]
 | x ::l=>by
  have eR:=aII c l
  unfold mf
  split
  .simp;omega
  .split
   .simp
   .rename_i h;rw [h] at eR;simp at eR ⊢;omega
theorem adr (s:VU) (a b:Nat):(s.extract a b).data.toList= (s.data.toList.drop a).take (b - a):=by
 rw [ByteArray.data_extract,Array.toList_extract]
theorem acm (s:VU) (ax:k < s.size):s.data.toList[k]? =some s[k]:=by
 have h:k < s.data.toList.length:=by simpa using ax
 rw [Xj h];rfl
theorem Da:(Tryz.prog.info? 9).map (λi=>(i.zero,i.size,i.bytes))= some (some (.string ⟨#[]⟩),1,16):=PV
theorem Gi (y:VU) (u:Value) (h:u ∈ hh y):u.oneCell'= true:=by simp [hh] at h;subst h;rfl
def hj (c:UInt8) (s:ByteArray):List ByteArray:=(mf c s.data.toList).map Ef
theorem XO (s:VU) (c:UInt8) (aP:s.size<=1048576) (w:World):Rd 67 #[s,.int .u8 (c.toNat:Int)] w λe ah=>∃A n,e= .returned (.slice A (hj c s).length n)/\bn w 9 1 hh ah (.slice A (hj c s).length n) (hj c s)/\Below w w ah:=by
 obtain⟨i0,bo,dP,dZ,dV⟩:=Xo Da
 have pj:=bn.built (B:=w) (f:=hh) w ([]:List ByteArray) 9 (XZ _) Wn jP
 simp only [ZL] at pj
 replace pj:=I pj
 go_in
 go_wp2
 go_loopw [5,6,7] (λv5 v6 hJ wr=>∃(xs:List ByteArray) (a k:Nat),k<=s.size/\a<=k/\v6= .int .i64 a/\hJ= .int .i64 k/\xs.length<=k/\hj c s= xs ++ (mf c (s.data.toList.drop a)).map Ef/\(∀x ∈ (s.data.toList.drop a).take (k - a),(x == c)= false)/\
   bn w 9 1 hh wr v5 xs/\Below w w wr) (λ_ _ hJ _=>1048577 - (intOf hJ).toNat)
 case atStart=>
  exact⟨[],0,0,Xd _,XZ _,rfl,rfl,XZ _,by simp [hj],by simp,pj.o,bP _ _⟩
 case round=>
  obtain⟨xs,a,k,ax,de,rfl,rfl,sS,lN,vI,aV,aB⟩:=hrel
  obtain⟨sq,c5,rfl,wQ,_,_⟩:=aV.form jP
  have z0:=aB.size;have Bn:=I aV.lt;replace lN:=I lN;replace vI:=I vI;replace aV:=I aV
  by_cases bC:k < s.size
  .have WH:=acm s bC
   have JB:(s.data.toList.drop a)[k - a]? =some s[k]:=by rw [List.getElem?_drop,show a + (k - a)= k by omega];exact WH
   by_cases aN:s[k]= c
   .have kI:((s[k].toNat:Int) == (c.toNat:Int))= true:=by rw [aN];exact Xx.2 rfl
    have sO:hj c s= (xs ++ [s.extract a k]) ++ (mf c (s.data.toList.drop (k + 1))).map Ef:=by
     have e:s.data.toList.drop a= (s.data.toList.drop a).take (k - a) ++ c ::s.data.toList.drop (k + 1):=by
      have h1:k - a < (s.data.toList.drop a).length:=(Xg.1 JB).1
      conv=>lhs;rw [<- List.take_append_drop (k - a) (s.data.toList.drop a)]
      rw [List.drop_eq_getElem_cons h1]
      have h2:(s.data.toList.drop a)[k - a]= c:=by
       have:=(Xg.1 JB).2
       rw [this,aN]
      rw [h2,Zg,show a + (k - a + 1)= k + 1 by omega]
     rw [lN.o,e,aIK vI.o]
     simp only [List.map_cons,YX,Zh]
     congr 2
     rw [<- Qo (s.extract a k),adr]
    have gj:=I sO;clear sO aN WH JB;have lL:aX 1 hh (wr.alloc (.cells #[.string (s.extract a k)] 9)) (some ⟨wr,0,none⟩) [s.extract a k]:=aX.one (sz:=1) (f:=hh) _ _;have FW:=I lL;clear lL;have nI:=I (aV.o.alloc (.cells #[.string (s.extract a k)] 9))
    go_wp2_with (at_builtin;refine ke rfl _ _ 57 rfl w 9 i0 _ 1 16 Tryz.underlying57 bo dP dZ dV rfl WG hh jP Gi (sq xs c5) xs rfl nI.o ⟨wr,0,none⟩ 1 (s.extract a k) rfl FW.o Xz KK Xq ?_;intro v4 bH fb ed mx)
    have fm:Below w w bH:=(aB.alloc KK _).grown ed Xq (λq bt=>(Bn.o q bt).1)
    go_roundw
    case rel=>exact⟨xs ++ [s.extract a k],k + 1,k + 1,by omega,XZ _,by go_num,by go_num,by simp;omega,gj.o,by simp,fb,fm⟩
    case measure=>simp [intOf];omega
   .have kI:((s[k].toNat:Int) == (c.toNat:Int))= false:=by
     rw [Xb]
     intro e
     exact aN (UInt8.toNat_inj.1 KK)
    have sO:∀x ∈ (s.data.toList.drop a).take (k + 1 - a),(x == c)= false:=λx av=>by
     have h1:k - a < (s.data.toList.drop a).length:=(Xg.1 JB).1
     rw [show k + 1 - a= k - a + 1 by omega,Yu h1] at av
     simp only [YC,List.mem_singleton] at av
     rcases av with av | av
     .exact vI.o x av
     .rw [(Xg.1 JB).2] at av
      subst av;exact Xb.2 aN
    have gj:=I sO;clear sO aN WH JB
    go_wp2
    go_roundw
    case rel=>exact⟨xs,a,k + 1,by omega,by omega,rfl,by go_num,by omega,lN.o,gj.o,aV.o,aB⟩
    case measure=>simp [intOf];omega
  .obtain rfl:k= s.size:=KK
   have ov:xs ++ [s.extract a s.size]= hj c s:=by
    have gd:s.data.toList.length= s.size:=Wn
    have h1:=vI.o
    rw [YO (by rw [YQ,gd];omega)] at h1
    rw [lN.o,SW h1]
    simp only [List.map_cons,List.map_nil]
    congr 1
    rw [<- Qo (s.extract a s.size),adr,YO (by rw [YQ,gd];omega)]
   replace ov:=I ov;have lL:aX 1 hh (wr.alloc (.cells #[.string (s.extract a s.size)] 9)) (some ⟨wr,0,none⟩) [s.extract a s.size]:=aX.one (sz:=1) (f:=hh) _ _;have FW:=I lL;clear lL;have nI:=I (aV.o.alloc (.cells #[.string (s.extract a s.size)] 9))
   go_wp2_with (at_builtin;refine ke rfl _ _ 57 rfl w 9 i0 _ 1 16 Tryz.underlying57 bo dP dZ dV rfl WG hh jP Gi (sq xs c5) xs rfl nI.o ⟨wr,0,none⟩ 1 (s.extract a s.size) rfl FW.o Xz KK Xq ?_;intro v4 bH fb ed mx)
   have fm:Below w w bH:=(aB.alloc KK _).grown ed Xq (λq bt=>(Bn.o q bt).1)
   rw [ov.o] at fb
   obtain⟨Tu,AK,rfl,_,_,_⟩:=fb.form jP
   go_ret
   exact⟨Tu,AK,rfl,fb,fm⟩
theorem acI (c:UInt8):∀l:List UInt8,(∀x ∈ l,(x == c)= false)\/∃u v,l= u ++ c ::v/\∀x ∈ u,(x == c)= false
 | []=> .inl Wn
 | y ::l=>by
  cases hy:y == c
  .rcases acI c l with h | ⟨u,v,e,h⟩
   .left;intro x av
    rcases Xl.1 av with rfl | av
    .exact hy
    .exact h x av
   .right
    exact⟨y ::u,v,by rw [e];rfl,λx av=>by
     rcases Xl.1 av with rfl | av
     .exact hy
     .exact h x av⟩
  .right
   have:y= c:=by simpa using hy
   exact⟨[],l,by rw [this];rfl,by simp⟩
theorem agf {c:UInt8}:∀{l:List UInt8},(∀x ∈ l,(x == c)= false)->Lib.indexByte l c= -1
 | [],_=>rfl
 | y ::l,h=>by
  have eR:=agf (l:=l) (λx av=>h x Ye)
  simp [Lib.indexByte,h y Wn,eR]
theorem age {c:UInt8}:∀{u v:List UInt8},(∀x ∈ u,(x == c)= false)->Lib.indexByte (u ++ c ::v) c= (u.length:Int)
 | [],v,_=>by simp [Lib.indexByte]
 | y ::u,v,h=>by
  have eR:=age (u:=u) (v:=v) (λx av=>h x Ye)
  have ew:((u.length:Int) == -1)= false:=by rw [Xb];omega
  simp only [YL,Lib.indexByte,h y Wn,eR,ew,YK]
  simp
theorem ajy (c:UInt8) (l:List UInt8):Lib.splitK [c] 0 (Lib.count l [c]) l= mf c l:=by
 rcases acI c l with h | ⟨u,v,e,h⟩
 .have bo:Lib.index l [c]= -1:=by rw [Lib.index_one,agf h]
  rw [Lib.count_miss bo,SW h];rfl
 .have bo:Lib.index l [c]= (u.length:Nat):=by rw [Lib.index_one,e,age h]
  have hm:¬(Lib.index l [c] == -1)= true:=λq=>by have:=Xx.1 q;omega
  have cr:l.drop (u.length + [c].length)= v:=by
   rw [e];simp [List.drop_append]
  have cJ:l.take (u.length + 0)= u:=by rw [e];simp
  rw [Lib.count_hit Wn bo,cr,Nat.add_comm 1,Lib.splitK,XU hm]
  have bq:(Lib.index l [c]).toNat= u.length:=KK
  rw [bq,cr,cJ,ajy c v,e,aIK h]
termination_by l.length
decreasing_by rw [e];simp;omega
theorem aBj (c:UInt8) (s:VU):Lib.splitB ⟨#[c]⟩ 0 (Lib.countB s ⟨#[c]⟩) s= (mf c s.data.toList).map Ef:=by
 have h:=Lib.splitB_data ⟨#[c]⟩ 0 (Lib.countB s ⟨#[c]⟩) s;have h2:Lib.splitK (⟨#[c]⟩ :VU).data.toList 0 (Lib.countB s ⟨#[c]⟩) s.data.toList= mf c s.data.toList:=ajy c s.data.toList
 rw [h2] at h
 rw [<- h,List.map_map]
 conv=>lhs;rw [<- List.map_id (Lib.splitB ⟨#[c]⟩ 0 (Lib.countB s ⟨#[c]⟩) s)]
 exact List.map_congr_left λx _=>(Qo x).symm
def Cf (w:World):Prop:=1 < w.heap.size/\∃m:Int,w.cell? ⟨1,0,none⟩ =some (.int .i64 m)
theorem Cf.ad {w:World} (h:Cf w) (aB:Below w w ah):Cf ah:=by
 obtain⟨h1,m,h2⟩:=h
 exact⟨YW h1 aB.size,m,(aB.cell (p:=⟨1,0,none⟩) h1).trans h2⟩
theorem XE (s:VU) (c:UInt8) (aP:s.size<=1048576) (w:World) (aC:Cf w):Rd 66 #[s,.string ⟨#[c]⟩] w λe ah=>∃A n,e= .returned (.slice A (hj c s).length n)/\bn w 9 1 hh ah (.slice A (hj c s).length n) (hj c s)/\Below w w ah:=by
 obtain⟨h1,m,h2⟩:=aC
 refine (Tryz.strings_Split s ⟨#[c]⟩ m w KK h2 (XZ _)).mono ?_
 rintro e ah ⟨rfl,rfl⟩
 have kJ:=aBj c s
 have hlen:Lib.countB s ⟨#[c]⟩ + 1= (hj c s).length:=by
  have:=Lib.splitB_all ⟨#[c]⟩ (XZ _) 0 (Lib.countB s ⟨#[c]⟩) s rfl
  rw [kJ] at this;exact this.symm
 have lf:(hj c s).length<=maxLen:=by
  have:=aII c s.data.toList
  have h3:s.data.toList.length= s.size:=Wn
  unfold hj maxLen;rw [YZ];omega
 have aV:=bn.built (B:=w) (f:=hh) w (hj c s) 9 (XZ _) lf jP
 have asN:(hj c s).flatMap hh= (hj c s).map Value.string:=by
  generalize hj c s= L
  induction L with
  | nil=>rfl
  | cons x L eR=>simp [hh,eR]
 rw [asN] at aV
 rw [hlen]
 refine⟨some ⟨w,0,none⟩,(hj c s).length,rfl,?_,bP _ _⟩
 rw [kJ]
 exact aV
end Go.Proofs.YtlaaemmmbodaaaaGreatDoor
