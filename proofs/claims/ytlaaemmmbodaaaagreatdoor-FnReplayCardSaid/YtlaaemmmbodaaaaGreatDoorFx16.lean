/- The law of replays: replaying the log of a console that commands have made counts all its records, and the log recovered from a crash replays as well; for every input; no conditions. -/
import Derived.Deep.RegionHeld3
import Derived.Test.YtlaaemmmbodaaaaGreatDoorFx13
set_option maxHeartbeats 16000000
set_option maxRecDepth 100000
set_option linter.all false
open Go Go.RowKit Go.ChangeShapes Go.WideShapes Go.ChangeAt Go.Deep Go.ChangeMaps Go.Proofs.YtlaaemmmbodaaaaGreatDoor
variable {l:cN} {x:dE} {es hT:List fi} {k:Nat} {y:fi} {rs:List aM} {tu se:Int} {ah:World} {v:Value} {u:Prop}
namespace Go.Proofs.YtlaaemmmbodaaaaGreatDoor
theorem aGU (h:u:=by simp [results,Tryz.results31,Tryz.results32,go_sem,z0,bF,z2,z3,z4,z5,ek,ig,iE,z9,iD]):u:=h
theorem aGK (h:u:=by simp [results,Tryz.results30,go_sem,z0]):u:=h
theorem afP (tu se:Int) (b:Bool) (aB:xf tu se= b) (w:World):
 Rd 132 #[tu,se] w λe ah=>e= .returned (ahn tu se b)/\Below w w ah:=by
 replace aB:=I aB
 cases b
 .go_in
  go_upto_region 2 with fail
  refine fU λaO ar J ag=>?_
  have U:=ar;have af:=J.aL;have aJ:=ag.aL;have dP:=J.lt;have Jw:=ag.lt
  go_wp2_with fail
  refine (oy 0 Wn Wn Wn _ aB.o Fe Fe).mono ?_
  rintro e aI ⟨rfl,aQ⟩
  have aj:=be aO aQ;replace U:=ai U aj;replace J:=J.to aj;replace af:=J.aL;replace ag:=ag.to aj;replace aJ:=ag.aL;have eg:=J.iW;have eE:=J.lt;have mY:=ag.lt
  go_wp2
  clear af aJ
  refine hs 0 λcP aE=>?_
  replace U:=aE.aN U;replace J:=aE.iK J;replace ag:=aE.dj ag;have Fm:=aE.sz;have af:=J.aL;have aJ:=ag.aL
  refine XY (v:= .tuple #[.agg #[(0:Int),(0:Int),(0:Int),(),()],false]) (by simp [results,Tryz.results132,go_sem,af]) rfl ?_
  exact⟨rfl,U⟩
 .go_in
  go_upto_region 2 with fail
  refine fU λaO ar J ag=>?_
  have U:=ar;have af:=J.aL;have aJ:=ag.aL;have dP:=J.lt;have Jw:=ag.lt
  go_wp2_with fail
  refine (oy 0 Wn Wn Wn _ aB.o Fe Fe).mono ?_
  rintro e aI ⟨rfl,aQ⟩
  have aj:=be aO aQ;replace U:=ai U aj;replace J:=J.to aj;replace af:=J.aL;replace ag:=ag.to aj;replace aJ:=ag.aL;have eg:=J.iW;have eE:=J.lt;have mY:=ag.lt
  go_wp2
  clear af aJ
  refine hs 0 λcP aE=>?_
  replace U:=aE.aN U;replace J:=aE.iK J;replace ag:=aE.dj ag;have Fm:=aE.sz;have af:=J.aL;have aJ:=ag.aL
  refine XY (v:= .tuple #[.agg #[tu,se,(0:Int),(),()],true]) (by simp [results,Tryz.results132,go_sem,af]) rfl ?_
  exact⟨rfl,U⟩
theorem afO (tu se:Int) (aB:xf tu se= true) (w:World):Rd 132 #[tu,se] w λe ah=>e= .returned (.tuple #[.agg #[tu,se,(0:Int),(),()],true])/\Below w w ah:=afP tu se true aB w
theorem avx (tu se:Int) (aB:xf tu se= false) (w:World):Rd 132 #[tu,se] w λe ah=>e= .returned (.tuple #[.agg #[(0:Int),(0:Int),(0:Int),(),()],false])/\Below w w ah:=afP tu se false aB w
theorem anL (h:u:=by
 replace af:=J.aH;have eg:=J.iX;have mY:=ag.lt;have eE:=J.lt
 go_wp2
 clear aJ af
 refine iO 0 λcP aE=>?_
 replace U:=aE.aN U;replace ag:=aE.dj ag;replace J:=aE.iV J;have Fm:=aE.sz;have aJ:=ag.aL;have af:=J.aH
 refine XY (v:= .tuple #[.agg #[(),(),(0:Int),(0:Int),(0:Int),(),(),()],false]) (by simp [results,Tryz.results77,go_sem,af]) rfl ?_
 rw [Om jM.o,jM.o]
 exact⟨none,0,none,0,none,0,none,0,none,0,rfl,bn.nil,bn.nil,bn.nil,bn.nil,bn.nil,Mh _,U⟩):u:=h
theorem avy (A:QR) (c:Nat) (rs:List aM) (bq:rs) (tu se:Int) (w:World) (bB:aX 7 aM.cells w A rs) (bl:A= none->rs= []/\c= 0) (gn:rs.length<=c):
 Rd 77 #[A rs c,tu,se] w λe ah=>∃bN d0 bZ d1 aU d2 bd d3 bI d4,e= .returned (.tuple #[.agg #[.slice bN (hR rs tu se).bT.length d0,.slice bZ (hR rs tu se).ch.length d1,.int .i64 (hR rs tu se).dw,.int .i64 (hR rs tu se).dp,.int .i64 (hR rs tu se).dF,.slice aU (hR rs tu se).cz.length d2,.slice bd (hR rs tu se).cC.length d3,.slice bI (hR rs tu se).bQ.length d4],.bool (hZ rs tu se)])/\bn w 89 7 aM.cells ah (.slice bN (hR rs tu se).bT.length d0) (hR rs tu se).bT/\bn w 115 3 aZ.cells ah (.slice bZ (hR rs tu se).ch.length d1) (hR rs tu se).ch/\bn w 3 1 cE ah (.slice aU (hR rs tu se).cz.length d2) (hR rs tu se).cz/\bn w 214 3 aW.cells ah (.slice bd (hR rs tu se).cC.length d3) (hR rs tu se).cC/\bn w 163 3 Out.cells ah (.slice bI (hR rs tu se).bQ.length d4) (hR rs tu se).bQ/\DF [.slice bN (hR rs tu se).bT.length d0,.slice bZ (hR rs tu se).ch.length d1,.slice aU (hR rs tu se).cz.length d2,.slice bd (hR rs tu se).cC.length d3,.slice bI (hR rs tu se).bQ.length d4]/\Below w w ah:=by
 obtain⟨i0,bo,dP,dZ,dV⟩:=Xo JK
 have gu:=I bB;have ub:=I bl;clear bl
 cases qN:xf tu se
 .have gj:=I qN
  have jM:Hid (hZ rs tu se= false):=I (by simp [hZ,qN]);clear qN
  go_in
  go_upto_region 1 with fail
  refine dh λaO ar J=>?_
  replace bB:=bB.ad ar;have U:=ar;have af:=J.aH;have hC:=J.lt
  go_wp2_with fail
  refine (avx tu se gj.o _).mono ?_
  rintro e aI ⟨rfl,aQ⟩
  have aj:=be aO aQ;replace U:=ai U aj;replace bB:=bB.ad aj;replace J:=J.to aj;replace af:=J.aH;have Pj:=aj.size
  go_upto_region 2 with fail
  refine dh λyp aY ag=>?_
  replace bB:=bB.ad aY;replace U:=ai U aY;have aJ:=ag.aL;replace J:=J.to aY
  exact anL
 cases hQ:jR rs
 .have gj:=I qN
  have cI:=I hQ;have jM:Hid (hZ rs tu se= false):=I (by simp [hZ,hQ]);clear qN hQ
  go_in
  go_upto_region 1 with fail
  refine dh λaO ar J=>?_
  replace bB:=bB.ad ar;have U:=ar;have af:=J.aH;have hC:=J.lt
  go_wp2_with fail
  refine (afO tu se gj.o _).mono ?_
  rintro e aI ⟨rfl,aQ⟩
  have aj:=be aO aQ;replace U:=ai U aj;replace bB:=bB.ad aj;replace J:=J.to aj;replace af:=J.aH;have Pj:=aj.size
  go_upto_region 2 with fail
  refine dh λyp aY ag=>?_
  replace bB:=bB.ad aY;replace U:=ai U aY;have aJ:=ag.aL;replace J:=J.to aY;replace af:=J.aH
  go_wp2_with fail
  refine (Hn bq gn _ cI.o (bB.ad ao)).mono ?_
  rintro e bH ⟨rfl,db⟩
  have cj:=be yp db;replace U:=ai U cj;replace bB:=bB.ad cj;replace ag:=ag.to cj;replace aJ:=ag.aL;replace J:=J.to cj
  exact anL
 .have gj:=I qN
  have cI:=I hQ;have jM:Hid (hZ rs tu se= true):=I (by simp [hZ,qN,hQ]);clear qN hQ
  go_in
  go_upto_region 1 with fail
  refine dh λaO ar J=>?_
  replace bB:=bB.ad ar;have U:=ar;have af:=J.aH;have hC:=J.lt
  go_wp2_with fail
  refine (afO tu se gj.o _).mono ?_
  rintro e aI ⟨rfl,aQ⟩
  have aj:=be aO aQ;replace U:=ai U aj;replace bB:=bB.ad aj;replace J:=J.to aj;replace af:=J.aH;have Pj:=aj.size
  go_upto_region 2 with fail
  refine dh λyp aY ag=>?_
  replace bB:=bB.ad aY;replace U:=ai U aY;have aJ:=ag.aL;replace J:=J.to aY;replace af:=J.aH
  go_wp2_with fail
  refine (Hn bq gn _ cI.o (bB.ad ao)).mono ?_
  rintro e bH ⟨rfl,db⟩
  have cj:=be yp db;replace U:=ai U cj;replace bB:=bB.ad cj;replace ag:=ag.to cj;replace aJ:=ag.aL;replace J:=J.to cj;replace af:=J.aH;have pY:=J.lt;have Be:=U.size;have bl:=ub.o
  obtain⟨Fx,MK⟩ :∃X:World->Prop,∀V,X V↔(Below w w V/\ay V aI 41 #[tu,se,(0:Int),(),()]):=⟨_,λ_=>Xt⟩
  have qd:=I MK;clear MK
  haveI:Nonempty (cM Fx):=⟨⟨bH,((qd.o _).2 ⟨U,ag⟩)⟩⟩
  clear af;replace aJ:=ay.kG (λK:cM Fx=>((qd.o _).1 K.holds).2)
  go_wp2
  refine DB (Sg rs 89) Fx [([],0),([1],2)] [3,4] [([],5)] [6] PV PV ((qd.o _).2 ⟨U.drew,ag⟩) (λW fz h k=>((qd.o _).2 ⟨((qd.o _).1 h).1.trans (k.mono ((qd.o _).1 h).1.size),((qd.o _).1 h).2.ad k ((qd.o _).1 h).2.lt⟩)) ?_
  intro bA
  refine iP (some 24) rfl (.slice (some ⟨(bA 0).1,0,none⟩) 0 0) rfl λhE eu=>?_
  refine Xn ?_
  refine VF ?_
  refine⟨λk fQ=>?_,eu _ ?_⟩
  .refine XV ?_
   go_wp2
   exact hz ⟨(_,0),rfl,bP _ _,rfl,ay.new _ _ _⟩
  simp only [Act.put]
  go_simp
  refine iP (some 26) rfl (.slice (some ⟨(bA 2).1,0,none⟩) rs.length (bA 2).2) rfl λhE eu=>?_
  refine Xp ?_
  repeat go_big_quiet_step (fail)
  refine VF ?_
  refine⟨λk fQ=>?_,eu _ ?_⟩
  .refine XV ?_
   obtain⟨gZ,uf,pn,⟨lJ,lb⟩,ld⟩:=fQ 0 (by simp [Sg])
   have jG:=lb.to ld;have pa:=I (gu.o.ad ((qd.o _).1 k.holds).1);replace jG:=I jG;clear lb lJ pn ld fQ
   go_wp2_with ((at_builtin;refine BF rfl _ _ 29 rfl (bA 0).1 89 i0 _ 7 48 Tryz.underlying29 bo dP dZ dV rfl WG aM.cells oT aGo (bA 0).1 rfl jG.o (XZ _) A c rs rfl pa.o bl Xz KK ?_;intro bS dq ah fW fM))
   first | exact hz ⟨(bS,dq),rfl,fM,fW⟩ | exact hz ⟨bS,dq,rfl,fM,fW⟩
  simp only [Act.put]
  go_simp
  refine tU ?_
  refine YB ?_
  repeat go_big_quiet_step (fail)
  refine VF ?_
  intro dy V W aC cv
  have ix:bn (bA 0).1 89 7 aM.cells (V 2) (.slice (some ⟨(bA 2).1,0,none⟩) rs.length (bA 2).2) rs:=aC.post 2 Wn
  obtain⟨Oy,_⟩ :(dy 0).heap.size= (bA 0).1/\ay (V 0) (bA 0).1 89 #[]:=aC.post 0 Wn
  have NB:=(aC.oj 0 Wn).size;have aV:=(ix.aK (aC.aK 2 Wn)).base (B':=bH) (by rw [<- Oy];exact NB);have gm:Below bH bH W:=ai ao (aC.whole 2 Wn).rI;replace U:=ai U gm;replace bB:=bB.ad gm;replace ag:=ag.to gm;replace aJ:=ag.aL;replace J:=J.to gm;have af:=J.aH;clear aC ix NB Oy cv
  generalize bA 0= cG at *
  generalize bA 2= dt at *
  obtain⟨g9,c9⟩:=dt
  refine gA λff da=>?_
  refine Xn ?_
  refine VF ?_
  refine XV ?_
  have eg:=J.iX;have mY:=ag.lt;have eE:=J.lt
  go_wp2
  clear aJ af
  refine iO 0 λEd jL=>?_
  replace U:=jL.aN U;replace ag:=jL.dj ag;replace J:=jL.iV J;have arE:=jL.eC;have aBw:=jL.sz;replace aV:=aV.cS jL (λk ax=>by first | exact aHC k ax | (have:=aV.lt k ax;omega));have aJ:=ag.aL;have af:=J.aH
  refine gb (((qd.o _).2 ⟨U,ag⟩)) (da _ _ ?_)
  refine ky ?_
  refine Xp ?_
  repeat go_big_quiet_step (fail)
  refine VF ?_
  go_wp2
  refine XY (v:= .tuple #[.agg #[g9 rs c9,(),tu,se,(0:Int),(),(),()],true]) (by simp [results,Tryz.results77,go_sem,af]) rfl ?_
  rw [Se jM.o,jM.o]
  exact⟨some ⟨g9,0,none⟩,c9,none,0,none,0,none,0,none,0,rfl,aV.base KK,bn.nil,bn.nil,bn.nil,bn.nil,Mh _,U⟩
def Kl (l:cN):Value:= .tuple #[.agg #[.string (bs (zV l)),.string (bs []),.int .i64 (HO l:Nat)],.int .i64 (Kj l:Nat),.bool (decide (l.length<=30000))]
theorem ayH (h:¬l.length<=30000):Kl l= .tuple #[.agg #[.string ⟨#[]⟩,.string ⟨#[]⟩,(0:Int)],(0:Int),false]:=by
 unfold Kl zV HO Kj
 rw [XU h,XU h,XU h,Xe h];rfl
theorem ayI (h:l.length<=30000):Kl l= .tuple #[.agg #[.string ((bs l).extract 0 (ik l)),.string ⟨#[]⟩,.int .i64 ((hc l).length:Nat)],.int .i64 (ik l:Nat),true]:=by
 unfold Kl zV HO Kj
 rw [XX h,XX h,XX h,Xh h,wA]
 rfl
theorem avD (l:cN) (aT:l) (w:World) (dN:jV w):Rd 34 #[.string (bs l)] w λe ah=>e= .returned (Kl l)/\Below w w ah:=by
 have gd:=fY l
 have s1:(bs l).size<=1048576:=KK
 by_cases cJ:l.length<=30000
 .have s2:(bs l).size<=30000:=KK
  have az:=ayI cJ;have he:=(Gq l).2
  rw [<- gd] at he
  have uH:=adk l;have gp:=HP l;have gK:=adl l;have xX:=OD l
  rw [<- gp] at uH
  have Dg:(nd l).length= (hc l).length + 1:=KK
  have JR:(hc l).length<=60:=KK
  have jX:∀W,jV W->Rd 65 #[.string (bs l)] W λe ah=>∃A c mg dq,e= .returned (.tuple #[.slice A (hc l).length c,.slice mg (nd l).length dq])/\
   bn W 56 2 fi.cells ah (.slice A (hc l).length c) (hc l)/\bn W 3 1 cE ah (.slice mg (nd l).length dq) (nd l)/\Below W W ah:=λW cv=>aGf l aT W cv
  generalize hc l= R at *
  generalize nd l= E at *
  generalize ik l= N at *
  replace jX:=I jX;replace uH:=I uH;have cI:=I az;clear az gd gp gK xX
  have awH:R.length < E.length:=KK
  have awI:E.length<=61:=KK
  have bX:=I (dN.ad (bP w (.cells #[.string ⟨#[]⟩,.string ⟨#[]⟩,(0:Int)] 31)))
  go_in
  go_wp2_with fail
  refine (jX.o _ bX.o).mono ?_
  rintro e bm ⟨au,aw,ak,c2,rfl,aV,ec,bD⟩
  have ar:=be w bD;have U:Below w w bm:=ar;have J:ay bm w 31 #[.string ⟨#[]⟩,.string ⟨#[]⟩,(0:Int)]:=ay.eV bD;have z0:=J.cb
  obtain⟨g2,Sm,rfl,oO,bO⟩:=ec.ej (hf:=fR) KK
  have f0:=bO _ _ uH.o 0 _ rfl
  simp only [Xw,XW] at f0
  have Fu:=J.kH;have ag:=(((J.ey 0 (.string ((bs l).extract 0 N))).ey 1 (.string ⟨#[]⟩)).ey 2 (.int .i64 (R.length:Nat)));have hr:=ag.cb;have adS:=(((U.setCell Ze (.string ((bs l).extract 0 N)) (p:=⟨w,0,none⟩)).setCell Ze (.string ⟨#[]⟩) (p:=⟨w,1,none⟩)).setCell Ze (.int .i64 (R.length:Nat)) (p:=⟨w,2,none⟩))
  have eE:=J.lt
  go_wp2
  refine XY (v:= .tuple #[.agg #[.string ((bs l).extract 0 N),.string ⟨#[]⟩,.int .i64 (R.length:Nat)],.int .i64 (N:Nat),true]) (by simp [results,Tryz.results34,go_sem,hr]) rfl ?_
  exact⟨by rw [cI.o],Ys⟩
 .have s2:30000 < (bs l).size:=KK
  have az:=ayH cJ;have cI:=I az;clear az gd cJ
  go_in
  go_wp2
  refine XY (v:= .tuple #[.agg #[.string ⟨#[]⟩,.string ⟨#[]⟩,(0:Int)],(0:Int),false]) (by simp [results,Tryz.results34,go_sem]) rfl ?_
  exact⟨by rw [cI.o],bP _ _⟩
theorem axg (d p:cN) (n:Int):(pZ d p n).length<=60:=by
 unfold pZ
 split
 .rw [HP];exact OD _
 .simp
theorem azY (d p:cN) (n:Int) (cJ:d.length + p.length<=1048576) (w:World):Rd 45 #[.agg #[.string (bs d),.string (bs p),n]] w λe ah=>∃A c,e= .returned (.tuple #[.slice A (pZ d p n).length c,.bool (jJ d p n)])/\bn w 56 2 fi.cells ah (.slice A (pZ d p n).length c) (pZ d p n)/\Below w w ah:=by
 have gT:(bs d).size + (bs p).size<=1048576:=by rw [fY,fY];exact cJ
 have cr:d:=KK
 have aS:p:=KK
 cases az:jJ d p n
 .have aP:pZ d p n= []:=by simp [pZ,az]
  have fL:=I aP;have cI:=I az;clear aP az
  go_in
  go_wp2_with fail
  refine (De d p n cr aS _ cI.o _).mono ?_
  rintro e bm ⟨rfl,bD⟩
  have ar:=be w bD;have U:Below w w bm:=ar
  go_wp2
  go_ret2
  rw [fL.o]
  exact⟨_,0,rfl,bn.made _ aGN _,(ai U ao)⟩
 .have aP:pZ d p n= hc (d ++ p):=by simp [pZ,az]
  have jX:∀W,Rd 87 #[.string (bs d ++ bs p)] W λe ah=>∃A c,e= .returned (.tuple #[.slice A (hc (d ++ p)).length c,.int .i64 (ik (d ++ p):Nat)])/\
   bn W 56 2 fi.cells ah (.slice A (hc (d ++ p)).length c) (hc (d ++ p))/\Below W W ah:=λW=>by
   rw [qi];exact XP (d ++ p) Xq W
  replace jX:=I jX;have fL:=I aP;have cI:=I az;clear aP az
  go_in
  go_wp2_with fail
  refine (De d p n cr aS _ cI.o _).mono ?_
  rintro e bm ⟨rfl,bD⟩
  have ar:=be w bD;have U:Below w w bm:=ar;have br:ay bm w 31 #[.string (bs d),.string (bs p),n]:=ay.eV bD;have fJ:=br.cb
  go_wp2_with fail
  refine (jX.o _).mono ?_
  rintro e aI ⟨au,aw,rfl,aV,aQ⟩
  have aj:=be bm aQ;replace U:=ai U aj;replace br:=br.to aj;replace fJ:=br.cb
  go_wp2
  go_ret2
  rw [fL.o]
  exact⟨au,aw,rfl,aV.base aGN,(ai U ao)⟩
theorem apG (s:VU) (c:Nat) (i:Nat) (h:i < s.size):(bytesRow s c)[i]? =some (.int .u8 (s[i].toNat:Int)):=by
 unfold bytesRow
 rw [Array.getElem?_append_left (by simp;exact h)]
 simp
 exact⟨s[i],Array.getElem?_eq_getElem h,rfl⟩
theorem apH (s:VU) (c:Nat):s.size<=(bytesRow s c).size:=by
 unfold bytesRow;simp
theorem aqa {P:Program} (w:World) (src dst e:TypeId) (s:VU) (aP:P.underlying src= some .string) (cr:P.underlying dst= some (.slice e)) (he:P.underlying e= some (.int .u8)):
  ∃(cap:Nat) (C:Array Value),s.size<=C.size/\(∀i (h:i < s.size),C[i]? =some (.int .u8 (s[i].toNat:Int)))/\
   (convert src dst (.string s)).run P w= .ok (.slice w s.size cap) (w.drew.alloc (.cells C e (C.size,C.size + 1))):=
 ⟨_,_,apH s _,λi h=>apG s _ i h,run_bytes_of_string w src dst e s aP cr he⟩
def tv (p:cN) (k:Int) (t:Bool):cN:=if t && decide (0 < k) then (p.take k.toNat).set (k.toNat - 1) (255 - p.getD (k.toNat - 1) 0) else p.take k.toNat
def yO (d p:cN) (n k:Int):Bool:=jJ d p n && fB k 0 p.length
def Eg (d p:cN) (n k:Int) (t:Bool):Value:= .tuple #[.string (if yO d p n k then bs (d ++ tv p k t) else ⟨#[]⟩),.bool (yO d p n k)]
theorem agb (x:UInt8):((255 - x).toNat:Int)= 255 - (x.toNat:Int):=by
 have:=x.toNat_lt
 have h:x<=255:=by rw [UInt8.le_iff_toNat_le];show x.toNat<=255;omega
 rw [UInt8.toNat_sub_of_le _ _ h]
 show (((255 - x.toNat:Nat)):Int)= _
 omega
theorem auJ (d p:cN) (n:Int) (cJ:d.length + p.length<=1048576) (k:Int) (t:Bool) (w:World) (dN:jV w):Rd 33 #[.agg #[.string (bs d),.string (bs p),n],k,t] w λe ah=>e= .returned (Eg d p n k t)/\Below w w ah:=by
 have kJ:=fY p;have zC:=fY d
 have gT:(bs d).size + (bs p).size<=1048576:=KK
 have cr:d:=KK
 have aS:p:=KK
 have px:∀v,jJ d p n= v->Rd 64 #[.agg #[.string (bs d),.string (bs p),n]] (w.alloc (.cells #[.string (bs d),.string (bs p),n] 31)) λe ah=>e= .returned (.bool v)/\Below (w.alloc (.cells #[.string (bs d),.string (bs p),n] 31)).heap.size (w.alloc (.cells #[.string (bs d),.string (bs p),n] 31)) ah:=λv az=>ET d p n cJ v az _ (dN.ad (bP _ _))
 cases aT:jJ d p n
 .have az:Eg d p n k t= .tuple #[.string ⟨#[]⟩,false]:=by simp [Eg,yO,aT]
  have cI:=I az;have fV:=I (px _ aT);clear az aT px kJ zC
  go_in
  go_wp2_with fail
  refine (fV.o).mono ?_
  rintro e bm ⟨rfl,bD⟩
  have ar:=be w bD;have U:Below w w bm:=ar
  go_wp2
  go_ret2
  exact⟨by rw [cI.o];rfl,(ai U ao)⟩
 .cases ax:fB k 0 p.length
  .have az:Eg d p n k t= .tuple #[.string ⟨#[]⟩,false]:=by simp [Eg,yO,aT,ax]
   rw [<- kJ] at ax
   have cI:=I az;have fV:=I (px _ aT);have gF:=I ax;clear az aT ax px kJ zC
   go_in
   go_wp2_with fail
   refine (fV.o).mono ?_
   rintro e bm ⟨rfl,bD⟩
   have ar:=be w bD;have U:Below w w bm:=ar;have bz:ay bm w 31 #[.string (bs d),.string (bs p),n]:=ay.eV bD
   obtain⟨ho,q1,gM⟩:=bz.cb
   go_wp2_with fail
   refine (ku _ gF.o _).mono ?_
   rintro e _ ⟨rfl,rfl⟩
   go_wp2
   go_ret2
   exact⟨by rw [cI.o];rfl,(ai U ao)⟩
  .have az:Eg d p n k t= .tuple #[.string (bs d ++ bs (tv p k t)),true]:=by simp [Eg,yO,aT,ax,qi]
   obtain⟨ev,eU⟩:=qT.1 ax
   rw [<- kJ] at ax
   obtain⟨m,rfl⟩ :∃m:Nat,k= m:=⟨k.toNat,by omega⟩
   have hm:m<=(bs p).size:=KK
   have hex:(bs p).extract 0 m= bs (p.take m):=by rw [wA];simp
   have vD:(p.take m).length= m:=Xq
   have JC:(bs (p.take m)).size= m:=by rw [fY,vD]
   have cI:=I az;have fV:=I (px _ aT);replace hex:=I hex;replace vD:=I vD;replace JC:=I JC;have gF:=I ax;clear az aT ax px kJ zC ev eU
   go_in
   go_wp2_with fail
   refine (fV.o).mono ?_
   rintro e bm ⟨rfl,bD⟩
   have ar:=be w bD;have U:Below w w bm:=ar;have bz:ay bm w 31 #[.string (bs d),.string (bs p),n]:=ay.eV bD
   obtain⟨ho,q1,gM⟩:=bz.cb
   go_wp2_with fail
   refine (ku _ gF.o _).mono ?_
   rintro e aEW ⟨rfl,vG⟩
   have NK:=vG.symm
   subst NK
   obtain⟨cap,C,MJ,uv,aex⟩:=aqa (P:=Tryz.prog) bm 9 35 5 (bs (p.take m)) Tryz.underlying9 Tryz.underlying35 Tryz.underlying5
   have vE:=yx.new bm (p.take m) C 5 MJ uv
   rw [JC.o,<- hex.o] at aex
   have abp:=I vE;clear vE MJ uv;have aEY:=bz.lt
   go_upto_region 4 with fail
   clear aex;replace bz:=(bz.alloc (.cells C 5 (C.size,C.size + 1))).drew;replace U:=(U.alloc KK (.cells C 5 (C.size,C.size + 1))).drew;have vE:=abp.o.drew;have bt:=ar;clear abp ho q1 gM vG bD ar
   generalize (bm.alloc (.cells C 5 (C.size,C.size + 1))).drew= W at *
   generalize bm.heap.size= g at *
   have ho:=(bz.cell 0).trans (show _= some (.string (bs d)) from rfl);have aFb:=vE.lt
   have atT:(bs (p.take m)).size<=1048576:=by rw [JC.o];omega
   cases t
   .have Ng:=Lib.run_convert_whole (P:=Tryz.prog) W 35 5 9 Tryz.underlying35 Tryz.underlying5 Tryz.underlying9 g 0 (bs (p.take m)) vE.bytes cap
    rw [JC.o] at Ng
    have ju:=I vE;clear vE
    go_upto_region 6 with fail
    go_wp2
    go_ret2
    exact⟨by rw [cI.o];rfl,U⟩
   .by_cases h0:m= 0
    .have ha:¬0 < m:=KK
     have nv:tv p (m:Int) true= p.take m:=by
      unfold tv
      rw [show decide ((0:Int) < (m:Int))= false from Xe KK];rfl
     have Ng:=Lib.run_convert_whole (P:=Tryz.prog) W 35 5 9 Tryz.underlying35 Tryz.underlying5 Tryz.underlying9 g 0 (bs (p.take m)) vE.bytes cap
     rw [JC.o] at Ng
     have ju:=I vE;have hK:=I nv;clear vE nv h0
     go_upto_region 6 with fail
     go_wp2
     go_ret2
     exact⟨by rw [cI.o,hK.o];rfl,U⟩
    .have ki:m - 1 < (p.take m).length:=by rw [vD.o];omega
     have pe:=vE.cell (m - 1) ki;have ary:=vE.free (m - 1) ki
     have av:(p.take m)[m - 1]= p.getD (m - 1) 0:=by
      rw [List.getElem_take,List.getD_eq_getElem?_getD,Xj (by simp at ki;omega)];rfl
     rw [av] at pe
     have nv:tv p (m:Int) true= (p.take m).set (m - 1) (255 - p.getD (m - 1) 0):=by
      unfold tv
      rw [show decide ((0:Int) < (m:Int))= true from Xh KK];rfl
     have bo:=agb (p.getD (m - 1) 0);have bC:=(p.getD (m - 1) 0).toNat_lt
     generalize p.getD (m - 1) 0= x at *
     have Hb:=vE.ey (m - 1) ki (255 - x);have kA:=I bo;have hK:=I nv;clear nv;have ju:=I Hb;clear vE Hb bo av
     go_upto_region 6 with fail
     have cF:W.setCell ⟨g,m - 1,none⟩ (.int .u8 ((255 - x).toNat:Int))= W.setCell ⟨g,m - 1,none⟩ (.int .u8 (255 - (x.toNat:Int))):=by rw [kA.o]
     have Hb:=ju.o
     rw [cF] at Hb
     have cy:w.heap.size<=g:=by have:=bt.size;omega
     have sF:=bz.yR (p:=⟨g,m - 1,none⟩) (by show w.heap.size≠g;omega) (.int .u8 (255 - (x.toNat:Int)));replace U:Below w w (W.setCell ⟨g,m - 1,none⟩ (.int .u8 (255 - (x.toNat:Int)))):=U.setCell cy _;clear cF ju bz ho pe ary
     generalize W.setCell ⟨g,m - 1,none⟩ (.int .u8 (255 - (x.toNat:Int)))= pP at *
     have ho:=(sF.cell 0).trans (show _= some (.string (bs d)) from rfl);have Ng:=Lib.run_convert_whole (P:=Tryz.prog) pP 35 5 9 Tryz.underlying35 Tryz.underlying5 Tryz.underlying9 g 0 (bs ((p.take m).set (m - 1) (255 - x))) Hb.bytes cap
     rw [fY,List.length_set,vD.o] at Ng
     have atT:(bs ((p.take m).set (m - 1) (255 - x))).size<=1048576:=by rw [fY,List.length_set,vD.o];omega
     have ju:=I Hb;clear Hb
     go_wp2
     go_ret2
     exact⟨by rw [cI.o,hK.o];rfl,U⟩
theorem agL (x:ft):(iz x).length<=1048576:=Xr (axg _ _ _) KK
def qE (x:ft) (k:Int) (t:Bool):ByteArray:=if yO x.d x.p x.bM k then bs (x.d ++ tv x.p k t) else ⟨#[]⟩
def Cp (x:ft) (k:Int) (aCB:Bool):Bool:=yO x.d x.p x.bM k
theorem avC (s:VU) (h:s.size<=1048576) (w:World) (dN:jV w):Rd 34 #[s] w λe ah=>e= .returned (.tuple #[.agg #[.string (qa s).bY,.string (qa s).bW,.int .i64 (qa s).bM],.int .i64 (Ds s),.bool (Kk s)])/\Below w w ah:=by
 have:=avD s.data.toList (by rw [YV];exact h) w dN
 unfold Kl at this
 rwa [IW] at this
theorem azX (x:ft) (h:x.bY.size + x.bW.size<=1048576) (w:World):Rd 45 #[.agg #[x.bY,x.bW,x.bM]] w λe ah=>∃A c,e= .returned (.tuple #[.slice A (iz x).length c,x.ok])/\bn w 56 2 fi.cells ah (.slice A (iz x).length c) (iz x)/\Below w w ah:=by
 have:=azY x.d x.p x.bM (x.len h) w
 rwa [AJ,xH] at this
theorem auI (x:ft) (h:x.bY.size + x.bW.size<=1048576) (k:Int) (t:Bool) (w:World) (dN:jV w):Rd 33 #[.agg #[x.bY,x.bW,x.bM],k,t] w λe ah=>e= .returned (.tuple #[.string (qE x k t),.bool (Cp x k t)])/\Below w w ah:=by
 have:=auJ x.d x.p x.bM (x.len h) k t w dN
 unfold Eg at this
 rwa [AJ,xH] at this
theorem ahW:∀(f k:Nat) (l:cN) (a:Nat),∀x ∈ iU f k l a,a < x.2.2/\l[x.2.2 - a - 1]? =some 10
 | 0,_,_,_=>by simp [iU]
 | f + 1,k,l,a=>by
  rw [iU]
  cases h:jZ l k with
  | none=>simp
  | some x=>
   obtain⟨c,r,n⟩:=x
   obtain⟨_,_,e,h2⟩:=Fc h
   have aT:=Fb h
   intro y hy
   rcases Xl.1 hy with rfl | hy
   .refine⟨by simp only;omega,?_⟩
    simp only
    rw [h2,show a + n - a - 1= (gq k c r).length from by omega]
    simp
   .have eR:=ahW f (k + 1) (l.drop n) (a + n) y hy
    refine⟨by omega,?_⟩
    rw [List.getElem?_drop] at eR
    rw [<- eR.2]
    congr 1
    omega
theorem ahu {n:Int} (h:0<=n) {c:UInt8} (aN:57 < c.toNat):c ∉ uQ n:=by
 rw [Si h]
 intro hm
 have:=acQ _ _ hm
 omega
theorem axc (k:Nat) {c r:cN} (h:mc c r= true):(245:UInt8) ∉ gq k c r:=by
 have n1:=ahu (n:=(k:Int)) KK (c:=245) WG;have n2:=ahu (n:=(rH (pR k c r):Nat)) KK (c:=245) WG
 simp only [mc,mF,fB,lk,Fl,wB,fY,Xa,Xf,YJ,YN,List.any_eq_false] at h
 obtain⟨⟨h1,h2⟩,h3,h4,h5,h6⟩:=h
 have aS:qY 245= false:=WG
 have a1:(245:UInt8) ∉ c:=λhm=>by have:=h4 _ hm;rw [aS] at this;cases this
 have a2:(245:UInt8) ∉ r:=λhm=>by have:=h5 _ hm;rw [aS] at this;cases this
 unfold gq Bv
 simp only [YC,Xl,not_or]
 refine⟨?_,by decide,n2⟩
 unfold pR
 simp [n1,a1,a2]
theorem ahS:∀(f k:Nat) (l:cN) (a:Nat),(a ::(iU f k l a).map (·.2.2)).getLastD 0= a + l.length->(245:UInt8) ∉ l
 | 0,k,l,a,h=>by
  simp [iU] at h
  subst h;simp
 | f + 1,k,l,a,h=>by
  rw [iU] at h
  cases av:jZ l k with
  | none=>
   rw [av] at h
   simp at h
   subst h;simp
  | some x=>
   obtain⟨c,r,n⟩:=x
   rw [av] at h
   obtain⟨_,h1,e,h2⟩:=Fc av
   have aT:=Fb av
   simp only [List.map_cons] at h
   have gx:∀L:List Nat,(a ::(a + n) ::L).getLastD 0= ((a + n) ::L).getLastD 0:=λL=>by simp [List.getLastD_eq_getLast?,List.getLast?_cons]
   rw [gx] at h
   have eR:=ahS f (k + 1) (l.drop n) (a + n) (by rw [h,YQ];omega)
   have e2:l.drop n= iG 10 l:=by
    conv=>lhs;rw [h2]
    rw [e,List.drop_append]
    simp
   rw [e2] at eR
   rw [h2]
   simp only [YC,Xl,not_or]
   exact⟨axc k h1,by decide,eR⟩
theorem awd (x:UInt8) (h:255 - x= 10):x= 245:=by
 have h1:=agb x
 rw [h] at h1
 have h2:x.toNat= (245:UInt8).toNat:=by
  have:((10:UInt8).toNat:Int)= 10:=rfl;have:((245:UInt8).toNat)= 245:=rfl
  omega
 exact UInt8.toNat_inj.1 h2
theorem aGa (d p:cN):ir d= (ir (d ++ p)).takeWhile (λx=>decide (x.2.2<=d.length)):=by
 have h:=SB 61 0 d p 0
 rwa [YF] at h
theorem ayw (d p:cN) (h:ik (d ++ p)= d.length + p.length) (k:Int) (ax:0<=k/\k<=(p.length:Int)) (t:Bool):
 ∃M,d.length<=M/\ir (d ++ tv p k t)= (ir (d ++ p)).takeWhile (λx=>decide (x.2.2<=M)):=by
 have bq:(245:UInt8) ∉ d ++ p:=ahS 61 0 (d ++ p) 0 (by rw [YF,Xu];exact h)
 unfold tv
 split
 .rename_i aN
  simp only [Xa,Xf] at aN
  obtain⟨j,cc⟩ :∃j:Nat,k= (j:Int) + 1:=⟨k.toNat - 1,by omega⟩
  subst cc
  rw [show ((j:Int) + 1).toNat= j + 1 from by omega,Nat.add_sub_cancel,take_set _ _ _ KK]
  have hy:255 - p.getD j 0≠10:=λe=>by
   have e2:=awd _ e
   refine bq (YC.2 (.inr ?_))
   rw [<- e2,List.getD_eq_getElem?_getD,Xj KK,Yf]
   exact ZK _
  generalize 255 - p.getD j 0= y at hy ⊢
  refine⟨(d ++ p.take j).length,by simp,?_⟩
  have e1:=aGa (d ++ p.take j) (p.drop j)
  rw [YX,List.take_append_drop] at e1
  rw [<- e1,<- YX]
  have e3:=aGa (d ++ p.take j) [y]
  rw [e3]
  refine (aIg λx av=>?_).symm
  have t1:=ahW 61 0 _ 0 x av;have t2:=(aFx 61 0 _ 0 x av).2
  rw [Xf]
  rw [YF] at t2
  rw [Xu (bs:=[y]),Yi] at t2
  apply Nat.le_of_not_lt
  intro bC
  have e4:x.2.2 - 0 - 1= (d ++ p.take j).length:=KK
  rw [e4,wb (XZ _),Nat.sub_self] at t1
  exact hy (by simpa using t1.2)
 .refine⟨(d ++ p.take k.toNat).length,by simp,?_⟩
  have e1:=aGa (d ++ p.take k.toNat) (p.drop k.toNat)
  rwa [YX,List.take_append_drop] at e1
theorem aBF {eZ:List Nat} {m M:Nat} (h:eZ.Pairwise (· < ·)) (hm:m ∈ eZ) (aC:m<=M):m ∈ eZ.takeWhile (λx=>decide (x<=M)):=by
 induction eZ with
 | nil=>simp at hm
 | cons z eZ eR=>
  obtain⟨h1,h2⟩:=YM.1 h
  have cF:z<=M:=by
   rcases Xl.1 hm with rfl | hm
   .exact aC
   .have:=h1 _ hm;omega
  rw [List.takeWhile_cons,Xh cF,XX rfl]
  rcases Xl.1 hm with rfl | hm
  .simp
  .exact List.mem_cons_of_mem _ (eR h2 hm)
theorem aqd (p:cN) (k:Int) (t:Bool):(tv p k t).length<=p.length:=by
 unfold tv
 split <;> simp <;> omega
theorem aqe (x:ft) (k:Int) (t:Bool) (h:Cp x k t= true):
 Kk (qE x k t)= true/\0<=Ds (qE x k t)/\Ds (qE x k t)<=((qE x k t).size:Int)/\(x.bY.size:Int)<=Ds (qE x k t)/\(qa (qE x k t)).ok= true/\x.ok= true/\iz (qa (qE x k t)) <+:iz x/\(qa (qE x k t)).bY= (qE x k t).extract 0 (Ds (qE x k t)).toNat:=by
 have e0:qE x k t= bs (x.d ++ tv x.p k t):=by
  unfold qE
  rw [XX (show yO x.d x.p x.bM k= true from h)]
 have fo:x.ok= true:=by unfold Cp yO at h;unfold ft.ok;simp only [Xa] at h;exact h.1
 have ax:0<=k/\k<=(x.p.length:Int):=by
  unfold Cp yO fB at h
  simp only [Xa,Xf] at h
  omega
 obtain⟨dJ,dt,mR,lP⟩:=XT (show jJ x.d x.p x.bM= true from fo)
 obtain⟨M,aC,bu⟩:=ayw x.d x.p dt k ax t
 have hlen:=aqd x.p k t
 have aT:(x.d ++ tv x.p k t).length<=30000:=by rw [Xu];omega
 have bJ:=agH _ aT
 rw [e0]
 generalize aP:x.d ++ tv x.p k t= s at *
 have q1:(bs s).data.toList= s:=wB s
 have Su:Ds (bs s)= (ik s:Nat):=by unfold Ds Kj;rw [q1,XX aT]
 have sY:(qa (bs s)).d= s.take (ik s):=by unfold qa ft.d zV;simp only;rw [q1,XX aT,wB]
 have ahN:(qa (bs s)).p= []:=rfl
 have ayg:(qa (bs s)).bM= ((hc s).length:Nat):=by unfold qa HO;simp only;rw [q1,XX aT]
 have ahM:(qa (bs s)).ok= true:=by unfold ft.ok;rw [sY,ahN,ayg];exact bJ
 have aDR:x.d.length<=ik s:=by
  apply adj
  have m1:=(adh x.d x.p).1 mR
  rw [bu,aIe]
  rcases Xl.1 m1 with h0 | h0
  .rw [h0];simp
  .exact List.mem_cons_of_mem _ (aBF (YM.1 (SA 61 0 (x.d ++ x.p) 0)).2 h0 aC)
 have aIl:x.d.length= x.bY.size:=by unfold ft.d;rw [YV];rfl
 refine⟨?_,by rw [Su];omega,?_,by rw [Su];omega,ahM,fo,?_,?_⟩
 .unfold Kk;rw [q1,Xf];exact aT
 .rw [Su,fY];have:=(Gq s).2;omega
 .unfold iz pZ
  rw [XX (show jJ x.d x.p x.bM= true from fo),XX (show jJ (qa (bs s)).d (qa (bs s)).p (qa (bs s)).bM= true from ahM),sY,ahN,Yq]
  unfold hc
  rw [aFw,bu]
  exact List.IsPrefix.map _ (List.takeWhile_prefix _)
 .rw [Su,Int.toNat_natCast,wA]
  show bs (zV (bs s).data.toList)= _
  rw [q1]
  unfold zV
  rw [XX aT]
  simp
def Ko (x:dE) (es:List fi):Nat->Nat->Nat
 | 0,k=>k
 | f + 1,k=>if si x es k then Ko x es f (k + 1) else k
theorem OI (h:es[k]? =some y):xo x es (k + 1)= lX (xo x es k) y.cmd:=by rw [xo,h]
theorem aGn:∀k f,iv (si x es) k= true->Ko x es (f + k) 0= Ko x es f k
 | 0,f,_=>rfl
 | k + 1,f,h=>by
  have h0:=oM.1 h
  rw [show f + (k + 1)= (f + 1) + k by omega,aGn k (f + 1) (oM.2 λi bo=>h0 i KK),Ko,XX (h0 k KK)]
def Fg (x:dE) (es:List fi):Nat:=Ko x es es.length 0
theorem aip (ax:k < es.length) (h:iv (si x es) k= true) (bq:si x es k= false):Fg x es= k:=by
 unfold Fg
 rw [show es.length= (es.length - k - 1 + 1) + k by omega,aGn k _ h,Ko,bq];rfl
theorem aio (h:iv (si x es) es.length= true):Fg x es= es.length:=by
 have e:=aGn (x:=x) (es:=es) es.length 0 h
 rw [YF] at e
 exact e
theorem SH {c:dE}:∀k,k<=es.length->xo c (es ++ hT) k= xo c es k
 | 0,_=>rfl
 | k + 1,h=>by
  have e:=Xj (l:=es) (i:=k) KK
  rw [OI e,OI (es:=es ++ hT) (by rw [Yt KK];exact e),SH k KK]
theorem ain {c:dE} (h:k < es.length):si c (es ++ hT) k= si c es k:=by
 unfold si
 rw [Yt h,SH k KK]
theorem azd {c:dE} (h:xF c x) (l:VU):xF c (lX x l):=by
 by_cases hy:mF l ⟨#[]⟩ =true/\(x.bM == 60)= false
 .obtain⟨h1,h2⟩:=Qv h.ok hy.1 hy.2
  have de:=UY h.ok hy.1 hy.2;have br:=(Qh de).2.2.1
  rw [h1]
  have ade:iz (wF x l).log= iz x.log ++ [⟨l,qb (rE x.nA l).2⟩]:=by rw [Qr];exact br
  refine⟨UZ h.ok hy.1 hy.2,?_,λk ax=>?_⟩
  .rw [ade,Xu,Yi,OI (y:=⟨l,qb (rE x.nA l).2⟩) Wn,SH _ (XZ _),h.st]
   exact h1
  .rw [ade] at ax ⊢
   rw [Xu,Yi] at ax
   by_cases bC:k < (iz x.log).length
   .rw [ain bC];exact h.Ck k bC
   .obtain rfl:k= (iz x.log).length:=KK
    unfold si
    rw [SH _ (XZ _),h.st]
    simp [h2]
 .have e:lX x l= x:=by
   unfold lX
   rw [h.ok]
   cases bu:mF l ⟨#[]⟩
   .rfl
   .cases aN:(x.bM == 60)
    .exact absurd ⟨bu,aN⟩ hy
    .rfl
  rw [e];exact h
theorem aiq {c:dE} (h:xF c x) (aS:es <+:iz x.log):Fg c es= es.length:=by
 obtain⟨hT,e⟩:=aS
 refine aio (oM.2 λk ax=>?_)
 have h1:=h.Ck k (by rw [<- e,Xu];omega)
 rw [<- e,ain ax] at h1
 exact h1
theorem azc {c:dE} (h:gJ c= true) (aT:iz c.log= []):xF c c:=⟨h,by rw [aT];rfl,λk ax=>by rw [aT] at ax;cases ax⟩
def nV (rs:List aM) (tu se:Int):dE:=(hR rs tu se).Qq ⟨#[]⟩ ⟨#[]⟩ 0
theorem aIr (rs:List aM) (tu se:Int):(hZ rs tu se= true\/hR rs tu se=⟨[],[],0,0,0,[],[],[]⟩):=by
 cases h:hZ rs tu se
 .exact .inr (Om h)
 .exact .inl rfl
def PX (m:dE) (b:Bool) (w:World) (e:Ending) (ah:World):Prop:=∃(bN:Option Addr) (d0:Nat) (bZ:Option Addr) (d1:Nat) (aU:Option Addr) (d2:Nat) (bd:Option Addr) (d3:Nat) (bI:Option Addr) (d4:Nat),e= .returned (.tuple #[.agg #[.slice bN m.bT.length d0,.slice bZ m.ch.length d1,.int .i64 m.dw,.int .i64 m.dp,.int .i64 m.dF,.slice aU m.cz.length d2,.slice bd m.cC.length d3,.slice bI m.bQ.length d4,.string m.bY,.string m.bW,.int .i64 m.bM],.bool b])/\fu w.heap.size ah bN d0 bZ d1 aU d2 bd d3 bI d4 m.bT m.ch m.cz m.cC m.bQ/\Below w.heap.size w ah
theorem anM (h:u:=by
 exact⟨none,0,none,0,none,0,none,0,none,0,rfl,⟨bn.nil,bn.nil,bn.nil,bn.nil,bn.nil⟩,aE.aN FC⟩):u:=h
theorem anP (h:u:=by
 exact⟨bN,d0,bZ,d1,aU,d2,bd,d3,bI,d4,rfl,jD.o.hb jN.o aE.eC,aE.aN FC⟩):u:=h
theorem aFn (h:u:=by
 have hK:=I (λ(W:World) (cv:aX 7 aM.cells W A rs)=>gk.o A c rs bq tu se W cv bl gn);have fP:=I (aIr rs tu se);replace bB:=I bB;clear bl
 unfold PX nV
 generalize hR rs tu se= M at *
 generalize hZ rs tu se= b at *
 simp only [di.Qq]
 go_in
 go_upto_region 1 with fail
 refine dh λaO ar J=>?_
 have U:=ar;obtain⟨z0,bF,z2,z3,z4,z5,ek,ig,iE,z9,iD⟩:=J.ca;have sz:=U.size;clear z0 bF z2 z3 z4 z5 ek ig iE z9 iD
 go_wp2_with fail
 refine (hK.o aO (bB.o.ad U)).mono ?_
 rintro e aI ⟨bN,d0,bZ,d1,aU,d2,bd,d3,bI,d4,rfl,cn,cm,bh,bf,cx,ap,aQ⟩
 have kB:Hid (fu w aI bN d0 bZ d1 aU d2 bd d3 bI d4 M.bT M.ch M.cz M.cC M.bQ):=I ⟨cn.base sz,cm.base sz,bh.base sz,bf.base sz,cx.base sz⟩;have ou:=J.to aQ;have jM:=ai U aQ;clear cn cm bh bf cx ap J U aQ
 go_upto_region 2 with fail
 refine Xi λbw bG ag=>?_
 have zh:=ou.to bG;have FC:=ai jM bG;have jD:=I (kB.o.aK bG);have jN:=I zh;have af:=zh.ca;have eO:=zh.hk;have Aj:=zh.lt;have aJ:=ag.aH;have hF:=ag.lt;clear ou jM bG kB zh
 cases b
 .obtain rfl:M=⟨[],[],0,0,0,[],[],[]⟩:=fP.o.resolve_left Wn
  go_wp2
  clear af eO Aj aJ hF
  refine hD 0 λcP aE=>?_
  obtain⟨z0,bF,z2,z3,z4,z5,ek,ig,iE,z9,iD⟩:=(show ay cP w 46 #[(),(),(0:Int),(0:Int),(0:Int),(),(),(),.string ⟨#[]⟩,.string ⟨#[]⟩,(0:Int)] from aE.own jN.o).ca
  refine XY (v:= .tuple #[.agg #[(),(),(0:Int),(0:Int),(0:Int),(),(),(),.string ⟨#[]⟩,.string ⟨#[]⟩,(0:Int)],false]) aGU rfl ?_
  exact anM
 .go_wp2
  clear af eO Aj aJ hF
  refine hD 0 λcP aE=>?_
  obtain⟨z0,bF,z2,z3,z4,z5,ek,ig,iE,z9,iD⟩:=(show ay cP w 46 #[bN M.bT d0,bZ M.ch d1,M.dw,M.dp,M.dF,aU M.cz d2,bd M.cC d3,bI M.bQ d4,.string ⟨#[]⟩,.string ⟨#[]⟩,(0:Int)] from aE.own jN.o).ca
  refine XY (v:= .tuple #[.agg #[bN M.bT d0,bZ M.ch d1,M.dw,M.dp,M.dF,aU M.cz d2,bd M.cC d3,bI M.bQ d4,.string ⟨#[]⟩,.string ⟨#[]⟩,(0:Int)],true]) aGU rfl ?_
  exact anP):u:=h
theorem afN (A:QR) (c:Nat) (rs:List aM) (bq:rs) (tu se:Int) (w:World) (bB:aX 7 aM.cells w A rs) (bl:A= none->rs= []/\c= 0) (gn:rs.length<=c):
 Rd 31 #[A rs c,tu,se] w (PX (nV rs tu se) (hZ rs tu se) w):=by have gk:=I @avy;exact aFn
theorem aGs (A:QR) (c:Nat) (rs:List aM) (bq:rs) (tu se:Int) (w:World) (bB:aX 7 aM.cells w A rs) (bl:A= none->rs= []/\c= 0) (gn:rs.length<=c):
 Rd 32 #[A rs c,tu,se] w (PX (nV rs tu se) (hZ rs tu se) w):=by have gk:=I @aiO;exact aFn
theorem ahV:∀(f k:Nat) (l:cN) (a:Nat),∀x ∈ iU f k l a,mc x.1 x.2.1= true
 | 0,_,_,_=>by simp [iU]
 | f + 1,k,l,a=>by
  rw [iU]
  cases h:jZ l k with
  | none=>simp
  | some x=>
   obtain⟨c,r,n⟩:=x
   intro y hy
   rcases Xl.1 hy with rfl | hy
   .exact (Fc h).2.1
   .exact ahV f (k + 1) _ _ y hy
theorem agK {x:ft} (h:y ∈ iz x):y.cmd.size<=160:=by
 unfold iz pZ at h
 split at h
 .obtain⟨p,aS,rfl⟩:=YP.1 h
  have:=(HD (ahV 61 0 _ 0 p aS)).2.1
  show (bs p.1).size<=160
  rw [fY];exact this
 .simp at h
theorem Hz (h:hZ rs tu se= true):gJ (nV rs tu se)= true/\iz (nV rs tu se).log= []:=by
 unfold nV
 rw [Se h]
 refine⟨?_,XS.2⟩
 unfold hZ xf at h
 rw [Xa] at h
 unfold gJ
 rw [Xa]
 refine⟨?_,XS.1⟩
 show sc rs [] tu se 0 [] [] []= true
 unfold sc ee HL
 rw [h.1,h.2]
 simp [iv]
def rF (rs:List aM) (tu se:Int) (x:ft):Bool:=hZ rs tu se && x.ok
def tP (rs:List aM) (tu se:Int) (x:ft):Int:=if rF rs tu se x then (Fg (nV rs tu se) (iz x):Int) else 0
theorem Fh {x:ft} (h:hZ rs tu se= false\/x.ok= false):rF rs tu se x= false/\tP rs tu se x= 0:=by
 have e:rF rs tu se x= false:=by unfold rF;rcases h with h | h <;> rw [h] <;> simp
 exact⟨e,by unfold tP;rw [e];rfl⟩
theorem Kp {x:ft} (h:hZ rs tu se= true) (av:x.ok= true):rF rs tu se x= true/\tP rs tu se x= (Fg (nV rs tu se) (iz x):Int):=by
 have e:rF rs tu se x= true:=by unfold rF;rw [h,av];rfl
 exact⟨e,by unfold tP;rw [e];rfl⟩
theorem Kb {T:Type} {B sz:Nat} {f:T->List Value} {e:TypeId} {w:World} {xs:List T} {p:Nat} (h:bn B e sz f w v xs) (cy:w.grownBy ah (some p)) (aS:p < B):bn B e sz f ah v xs:=h.kept cy (λk ax e=>by have:=(h.lt k ax).1;have:=Wx e;omega)
theorem lQ.ok (aN:gJ x= true):lQ x:=by
 obtain⟨a0,a1,a2,a3,a4⟩:=uO (Gl aN)
 have h5:=(JU (Co aN)).1
 exact⟨Xr (show x.bT.length<=8 from a0) WG,Xr (show x.ch.length<=6 from a1) WG,Xr (show x.cz.length<=10 from a2) WG,show x.cC.length<=99 from a3,Xr (show x.bQ.length<=12 from a4) WG,h5⟩
theorem aqs (A:QR) (c:Nat) (cs:List UInt8) (cK:cs) (w:World) (bB:aX 1 Ac w A cs):
 Rd 30 #[A cs c] w λe ah=>∃(rs:List aM) (g y:Nat) (tu se:Int) (gP:ft),e= .returned (.tuple #[g rs y,tu,se,.agg #[gP.bY,gP.bW,gP.bM]])/\rs.length<=12/\gP.bY.size + gP.bW.size<=40000/\bn w 89 7 aM.cells ah (g rs y) rs/\Below w w ah:=by
 go_in
 go_upto_region 2 with fail
 have bC:∀eH,A= some eH->0 < cs.length->eH.block < w.heap.size:=λeH h h0=>by
  obtain⟨b,off,h1,h2,_⟩:=bB h0
  rw [h1] at h;cases h;exact h2
 refine fU λiB ar J ru=>?_
 have U:=ar;obtain⟨z0,bF,z2⟩:=J.cb;have aqg:=ru.cb
 obtain⟨p,zw⟩ :∃p,p= w.heap.size + 1:=⟨_,rfl⟩
 have aA:gX iB p A c cs 0:=by rw [zw];exact⟨⟨0,0,ru,by decide,by decide⟩,bB.ad U,λeH h h0=>by have:=bC eH h h0;omega⟩
 rw [<- zw]
 have afx:w.heap.size < p:=KK
 have pW:=aA.lt;have aaL:=I (show w.grownBy iB (some p) from bL U _);have abD:=I J;have aaB:=I aA;have afo:=U.size;clear bC ru bB zw U J aA z0 bF z2 aqg
 go_wp2_with fail
 refine (agy p A c cs cK 0 KK iB aaB.o).mono ?_
 rintro e bm ⟨rs,g,y,rfl,vz,_,OR,aP⟩
 have mI:=I OR;have bF:=aP.size;clear OR;have abE:=I (abD.o.bV aP.2);have Pw:=I (bx aaL.o aP.2);have yB:=I aP.1;clear aP abD aaL aaB
 go_wp2_with fail
 refine (pQ [1,2,3,4] 1 4 WG WG WG cK KK yB.o).mono ?_
 rintro e aI ⟨tu,rfl,_,aP⟩
 have zA:bm.grownBy aI (some p):=bx (bL (bP _ _) _) aP.2;have pY:gX aI p A c cs 702/\bm.grownBy aI (some p):=⟨aP.1,zA⟩;clear zA;have z2:=pY.2.size;have DY:=I (abE.o.bV pY.2);have Ir:=I (bx Pw.o pY.2);have tY:=I pY.1;have vm:=I (Kb mI.o pY.2 KK);clear pY abE Pw yB mI;clear aP
 go_wp2_with fail
 refine (pQ [10,60,3600,0] 0 3600 WG WG WG cK KK tY.o).mono ?_
 rintro e bw ⟨se,rfl,_,aP⟩
 have zA:aI.grownBy bw (some p):=bx (bL (bP _ _) _) aP.2;have Be:gX bw p A c cs 704/\aI.grownBy bw (some p):=⟨aP.1,zA⟩;clear zA;have z3:=Be.2.size;have Cc:=I (DY.o.bV Be.2);have TI:=I (bx Ir.o Be.2);have pL:=I Be.1;have kY:=I (Kb vm.o Be.2 KK);clear Be DY Ir tY vm;clear aP
 have iS:rs:=KK
 have vj:=I (λ(h:hZ rs tu se= true)=>(Hz h).1)
 go_wp2_with fail
 refine (aGs (some ⟨g,0,none⟩) y rs iS tu se bw (kY.o.ej (hf:=oT)) Wn (nW kY.o oT)).mono ?_
 rintro e bH ⟨ck,e0,cf,e1,ct,e2,cu,e3,cl,e4,rfl,gN,aB⟩
 have afr:=TI.o.size;have kX:=I (gN.base (B':=iB) KK);have z4:=aB.size;clear gN;have xD:=I (Cc.o.ad aB Cc.o.lt);have Av:=I (kY.o.aK aB);have qw:=I (pL.o.aK aB);have rL:=I (bx TI.o (bL aB _));clear aB Cc kY pL TI
 generalize nV rs tu se= cA at *
 generalize hZ rs tu se= b at *
 go_upto_region 4 with fail
 refine zR λcO aB bJ=>?_
 obtain⟨rG,zB⟩ :∃b,b= bH.heap.size:=⟨_,rfl⟩
 rw [<- zB] at bJ ⊢
 have nr:=I bJ
 have qP:p < rG:=by have:=qw.o.lt;omega
 have z5:=aB.size;clear bJ zB;have dO:=I (xD.o.ad aB xD.o.lt);have Aw:=I (Av.o.aK aB);have oI:=I (qw.o.aK aB);have rl:=I (bx rL.o (bL aB _));have lD:=I (kX.o.aK aB);clear aB xD Av qw rL kX
 cases b
 .have eO:=dO.o.kH;have Aj:=dO.o.lt;have af:=dO.o.cb
  go_wp2
  clear af eO Aj
  refine ra 0 λcP aE=>?_
  have cp:ay cP w 31 #[.string ⟨#[]⟩,.string ⟨#[]⟩,(0:Int)]:=aE.own dO.o;have CB:=Aw.o.kept aE.eC (λk ax e=>by have h1:=(Aw.o.lt k ax).1;have:=Wx e;omega);have ph:=nR rl.o aE.eC (λk ax=>by have:=Wx ax;omega);clear aE
  have z0:=cp.cb
  refine XY (v:= .tuple #[g rs y,tu,se,.agg #[.string ⟨#[]⟩,.string ⟨#[]⟩,(0:Int)]]) aGK rfl ?_
  exact⟨rs,g,y,tu,se,⟨⟨#[]⟩,⟨#[]⟩,0⟩,rfl,vz,by decide,CB.base KK,Cu ph (XZ _) (λk ax=>by have:=Wx ax;omega)⟩
 have lN:=vj.o rfl;have fV:=I lN;clear lN vj
 go_wp2_with fail
 refine (iI 8 p A c cK 706 KK KK _ (oI.o.mono KK)).mono ?_
 rintro e dk ⟨r,rfl,⟨pX,_,gR⟩,aP⟩
 replace gR:=gR KK
 obtain⟨m0,rfl⟩ :∃m:Nat,r= m:=⟨r.toNat,by omega⟩
 have ek:=aP.2.size;have qz:=I (nr.o.bV aP.2);have ue:=I (dO.o.bV aP.2);have Ax:=I (Kb Aw.o aP.2 KK);have sv:=I (lD.o.cur pW aP.2);have ua:=I (bx rl.o aP.2);have pM:=I aP.1;clear aP nr dO Aw lD rl oI
 have aCm:iB.heap.size<=dk.heap.size:=KK
 clear bF z2 z3 z4 z5 ek
 go_upto_region 7 with fail
 go_loopw [12] (λv wr=>∃(m:Nat) (x:dE) (ck:QR) (e0:Nat) (cf:QR) (e1:Nat) (ct:QR) (e2:Nat) (cu:QR) (e3:Nat) (cl:QR) (e4:Nat),v= .int .i64 m/\m<=7/\Hid (gJ x= true)/\fu iB wr ck e0 cf e1 ct e2 cu e3 cl e4 x.bT x.ch x.cz x.cC x.bQ/\ay wr rG 46 #[ck x.bT e0,cf x.ch e1,x.dw,x.dp,x.dF,ct x.cz e2,cu x.cC e3,cl x.bQ e4,x.bY,x.bW,x.bM]/\ay wr w 31 #[.string ⟨#[]⟩,.string ⟨#[]⟩,(0:Int)]/\bn iB 89 7 aM.cells wr (g rs y) rs/\gX wr p A c cs (710 + 30 * (7 - m))/\w.grownBy wr (some p)/\iB.heap.size<=wr.heap.size) (λv _=>(intOf v).toNat)
 case atStart=>exact⟨m0,cA,ck,e0,cf,e1,ct,e2,cu,e3,cl,e4,rfl,by omega,fV,sv.o,qz.o,ue.o,Ax.o,pM.o.mono KK,ua.o,aCm⟩
 case round=>
  clear qz ue Ax sv ua pM fV pX gR
  obtain⟨m,x,ck,e0,cf,e1,ct,e2,cu,e3,cl,e4,rfl,hm,fV,aV,bJ,J,bB,aA,dd,Pk⟩:=hrel
  have U:=I (lQ.ok fV.o);have od:=I aV;have kP:=I bJ;have lW:=I J;have tp:=I bB;have lV:=I aA;have oZ:=I dd;have iu:=I (U.o.uN aV);clear aV J bB aA dd
  by_cases EI:0 < m
  .have g1:(0:Int) < (m:Int):=KK
   have g2:decide ((0:Int) < (m:Int))= true:=Xh g1;have nr:=kP;have dO:=lW;have lD:=od;have oI:=lV;have rl:=oZ;have Aw:=tp;clear kP lW od lV oZ tp;have aBr:=rl.o.size
   obtain⟨dx,et⟩ :∃X:World->Prop,∀V,X V↔ay V rG 46 #[ck x.bT e0,cf x.ch e1,x.dw,x.dp,x.dF,ct x.cz e2,cu x.cC e3,cl x.bQ e4,x.bY,x.bW,x.bM]:=⟨_,λ_=>Xt⟩
   have cH:=I et;clear et;clear bJ
   go_upto_region 9 with fail
   haveI:Nonempty (cM dx):=⟨⟨wr,(cH.o _).2 nr.o⟩⟩
   haveI:Nonempty (cM (λ_=>True)):=⟨⟨wr,trivial⟩⟩
   obtain⟨cA,x1,cB,cY,cZ,dG,dH,dA,gV,gW,gU⟩:=ay.pS (λK:cM dx=>(cH.o _).1 K.holds)
   refine tV dx [([0,1,2],[],3,false),([],[],4,false),([],[5,6,7],8,true)] [] [] PV PV ((cH.o _).2 (nr.o.ad (Wt _ _).drew nr.o.lt)) ?_
   have fO:Below wr wr wr.drew:=(Wt _ _).drew;have LG:=I (nr.o.ad fO nr.o.lt);have lG:=I (dO.o.ad fO dO.o.lt);have kf:=I (lD.o.aK fO);have nH:=I (oI.o.aK fO);have DJ:=I (bx rl.o (bL fO _));have qy:=I (Aw.o.aK fO);have zY:=fO.size;clear fO nr dO lD oI rl Aw
   generalize wr.drew= wd at *
   refine jj λhE eu=>?_
   refine YI ?_
   repeat go_big_quiet_step (fail)
   refine VF ?_
   refine VF ?_
   refine XV ?_
   go_wp2_with fail
   refine (Mn (Xr U.o.dD WG) (Xr U.o.dc WG) cK KK nH.o kf.o.rd.fC kf.o.rd.dM ⟨tM kf.o.jg pW,tM kf.o.hx pW⟩).mono ?_
   rintro e dk ⟨hU,rfl,hy,aP⟩
   have aFh:=aP.2.size;have qz:=I (LG.o.bV aP.2);have ue:=I (lG.o.bV aP.2);have Ax:=I (Kb qy.o aP.2 KK);have sv:=I (kf.o.cur pW aP.2);have ua:=I (bx DJ.o aP.2);have pM:=I aP.1;clear aP LG lG qy kf DJ nH
   go_wp2
   refine nK ((cH.o _).2 qz.o) (eu _ _ ?_)
   refine jj λff da=>?_
   refine VF ?_
   refine VF ?_
   refine XV ?_
   clear cA x1 cB cY cZ dG dH dA gV gW gU
   go_wp2_with fail
   refine (OO x iu.o U.o.tJ hU KK sv.o.rd).mono ?_
   rintro e fS ⟨cB,z,lA,f0,lR,f1,lS,f2,lT,f3,lU,f4,rfl,mN,OF,aB⟩
   have od:=I (OF.base (B':=iB) KK);have ts:Hid (gJ cB= true):=I (by rw [<- mN.o.1];exact Gk fV.o);have akn:=aB.size;clear OF mN sv;have kP:=I (qz.o.ad aB qz.o.lt);have lW:=I (ue.o.ad aB ue.o.lt);have tp:=I (Ax.o.aK aB);have lV:=I (pM.o.aK aB);have oZ:=I (bx ua.o (bL aB _));clear aB qz ue Ax pM ua
   go_wp2
   refine nK ((cH.o _).2 kP.o) (da _ _ ?_)
   refine jj λxE oq=>?_
   refine VF ?_
   refine YI ?_
   repeat go_big_quiet_step (fail)
   refine VF ?_
   refine XV ?_
   have bE:=kP.o.ca;have qk:=kP.o.hk;have ko:=kP.o.lt
   go_wp2
   clear bE qk ko
   refine hD 0 λcP aE=>?_
   refine rP (oq _ _ ?_)
   refine qu ?_
   refine VF ?_
   refine VF ?_
   have kg:=aE.jo kP.o;have cp:=aE.dj lW.o;have CB:=tp.o.kept aE.eC (λk ax e=>tp.o.mP kP.o WG k ax (Wx e))
   have ix:=od.o.hb kP.o aE.eC;have yX:=lV.o.row aE.eC (λk ax=>by have:=Wx ax;omega);have ph:=nR oZ.o aE.eC (λk ax=>by have:=Wx ax;omega)
   have aCl:iB.heap.size<=cP.heap.size:=by have:=aE.eC.size;omega
   clear aE
   have ki:(m:Int) - 1= ((m - 1:Nat):Int):=KK
   go_wp2
   go_roundw
   case rel=>exact⟨m - 1,cB,lA,f0,lR,f1,lS,f2,lT,f3,lU,f4,by rw [<- ki],by omega,ts,ix,kg,cp,CB,yX.mono KK,ph,aCl⟩
   case measure=>simp [intOf];omega
  .have g1:¬(0:Int) < (m:Int):=KK
   have g2:decide ((0:Int) < (m:Int))= false:=Xe g1;have bE:=bJ.ca;have ko:=bJ.lt
   go_upto_region 11 with fail
   clear bE ko bJ g1 g2
   refine zR λdu aB br=>?_
   obtain⟨lx,Nw⟩ :∃b,b= wr.heap.size:=⟨_,rfl⟩
   rw [<- Nw] at br ⊢
   have Ln:=I br
   have Ru:p < lx:=by have:=lV.o.lt;omega
   clear br Nw kP od
   obtain⟨gP,GU⟩ :∃l:ft,l= x.log:=⟨_,rfl⟩
   have mO:gP.bY.size + gP.bW.size<=30000:=by rw [GU];exact U.o.Ef
   have aaT:Hid (ay du lx 31 #[gP.bY,gP.bW,gP.bM]):=I (by rw [GU];exact Ln.o);clear GU U iu fV;have rq:=I (lW.o.ad aB lW.o.lt);have FY:=I (tp.o.aK aB);have xA:=I (lV.o.aK aB);have An:=I (bx oZ.o (bL aB _));clear aB lW tp lV oZ;replace Ln:=aaT;clear aaT
   go_wp2_with fail
   refine (uR 3 p A c cs cK 1000 KK KK _ (xA.o.mono KK)).mono ?_
   rintro e eB ⟨b,rfl,aP⟩
   have js:=I (rq.o.bV aP.2);have FZ:=I (Kb FY.o aP.2 KK);have BT:=I (Ln.o.bV aP.2);have BP:=I (bx An.o aP.2);have yC:=I aP.1;clear aP rq FY Ln An xA
   cases b
   .have gd:gP.bY.size + gP.bW.size<=40000:=KK
    obtain⟨xx,tx⟩ :∃X:World->Prop,∀V,X V↔ay V lx 31 #[gP.bY,gP.bW,gP.bM]:=⟨_,λ_=>Xt⟩
    have Am:=I tx;clear tx
    go_upto_region 13 with fail
    haveI:Nonempty (cM xx):=⟨⟨eB,(Am.o _).2 BT.o⟩⟩
    haveI:Nonempty (cM (λ_=>True)):=⟨⟨eB,trivial⟩⟩
    have eG:=ay.kF (λK:cM xx=>(Am.o _).1 K.holds)
    refine tV xx [([3],[0,1,2,4,5,6],7,true)] [] [] PV PV ((Am.o _).2 (BT.o.ad (Wt _ _).drew BT.o.lt)) ?_
    have BO:Below eB eB eB.drew:=(Wt _ _).drew;have Cd:=I (js.o.ad BO js.o.lt);have LD:=I (FZ.o.aK BO);have TJ:=I (bx BP.o (bL BO _));clear BO js FZ BP
    generalize eB.drew= wf at *
    refine jj λaoQ Gv=>?_
    refine Xp ?_
    repeat go_big_quiet_step (fail)
    refine VF ?_
    refine Yn ?_
    repeat go_big_quiet_step (fail)
    refine VF ?_
    refine XV ?_
    have af:=Cd.o.cb;have eO:=Cd.o.kH;have Aj:=Cd.o.lt
    go_wp2
    clear af eO Aj eG
    refine ra 0 λcP aE=>?_
    refine rP (Gv _ _ ?_)
    refine qu ?_
    refine VF ?_
    refine VF ?_
    have cp:ay cP w 31 #[gP.bY,gP.bW,gP.bM]:=aE.own Cd.o;have CB:=LD.o.kept aE.eC (λk ax e=>by have h1:=(LD.o.lt k ax).1;have:=Wx e;omega);have ph:=nR TJ.o aE.eC (λk ax=>by have:=Wx ax;omega);clear aE
    have z0:=cp.cb
    go_wp2
    exact hV ⟨rs,g,y,tu,se,gP,rfl,vz,gd,CB.base KK,Cu ph (XZ _) (λk ax=>by have:=Wx ax;omega)⟩ aGK
   .obtain⟨dx,et⟩ :∃X:World->Prop,∀V,X V↔ay V lx 31 #[gP.bY,gP.bW,gP.bM]:=⟨_,λ_=>Xt⟩
    have cH:=I et;clear et
    go_upto_region 12 with fail
    haveI:Nonempty (cM dx):=⟨⟨eB,(cH.o _).2 BT.o⟩⟩
    haveI:Nonempty (cM (λ_=>True)):=⟨⟨eB,trivial⟩⟩
    obtain⟨cA,x1,cB⟩:=ay.kF (λK:cM dx=>(cH.o _).1 K.holds)
    refine tV dx [([0,1],[],2,false),([],[],3,false),([],[4,5,6],7,true)] [] [] PV PV ((cH.o _).2 (BT.o.ad (Wt _ _).drew BT.o.lt)) ?_
    have fO:Below eB eB eB.drew:=(Wt _ _).drew;have lG:=I (js.o.ad fO js.o.lt);have qy:=I (FZ.o.aK fO);have aaU:=I (BT.o.ad fO BT.o.lt);have nH:=I (yC.o.aK fO);have DJ:=I (bx BP.o (bL fO _));clear fO js FZ BT yC BP
    generalize eB.drew= wd at *
    refine jj λhE eu=>?_
    refine YB ?_
    repeat go_big_quiet_step (fail)
    refine VF ?_
    refine VF ?_
    refine XV ?_
    go_wp2_with fail
    refine (agG cK KK nH.o).mono ?_
    rintro e pH ⟨vc,rfl,⟨NN,rD⟩,aP⟩
    have Uy:=I (lG.o.bV aP.2);have DT:=I (Kb qy.o aP.2 KK);have Pz:=I (aaU.o.bV aP.2);have aaM:=I (bx DJ.o aP.2);have xB:=I aP.1;clear aP lG qy aaU DJ nH
    go_wp2
    refine nK ((cH.o _).2 Pz.o) (eu _ _ ?_)
    refine jj λff da=>?_
    refine VF ?_
    refine VF ?_
    refine XV ?_
    clear cA x1 cB
    go_wp2_with fail
    refine (SJ gP KK vc KK KK pH).mono ?_
    rintro e oG ⟨rfl,aB⟩
    have abF:=I (Uy.o.ad aB Uy.o.lt);have IC:=I (DT.o.aK aB);have FP:=I (Pz.o.ad aB Pz.o.lt);have Ii:=I (xB.o.aK aB);have aaN:=I (bx aaM.o (bL aB _));clear aB Uy DT Pz xB aaM
    go_wp2
    refine nK ((cH.o _).2 FP.o) (da _ _ ?_)
    refine jj λxE oq=>?_
    refine VF ?_
    refine YI ?_
    repeat go_big_quiet_step (fail)
    refine VF ?_
    refine XV ?_
    have bE:=FP.o.cb;have qk:=FP.o.kH;have ko:=FP.o.lt
    go_wp2
    clear bE qk ko
    refine ra 0 λAG oF=>?_
    refine rP (oq _ _ ?_)
    refine qu ?_
    refine VF ?_
    refine VF ?_
    have gd:(eK gP vc).bY.size + (eK gP vc).bW.size<=40000:=by have:=acg gP vc;omega
    have TM:Hid (ay AG lx 31 #[.string (eK gP vc).bY,.string (eK gP vc).bW,.int .i64 (eK gP vc).bM]):=I (oF.own FP.o);have Uz:=I (oF.dj abF.o);have Uh:=I (IC.o.kept oF.eC (λk ax e=>IC.o.mP FP.o WG k ax (Wx e)));have aod:=I (Ii.o.row oF.eC (λk ax=>by have:=Wx ax;omega));have aaO:=I (nR aaN.o oF.eC (λk ax=>by have:=Wx ax;omega))
    clear oF FP abF IC Ii aaN
    generalize eK gP vc= Bo at *
    obtain⟨xx,tx⟩ :∃X:World->Prop,∀V,X V↔ay V lx 31 #[Bo.bY,Bo.bW,Bo.bM]:=⟨_,λ_=>Xt⟩
    have Am:=I tx;clear tx
    go_upto_region 13 with fail
    haveI:Nonempty (cM xx):=⟨⟨AG,(Am.o _).2 TM.o⟩⟩
    haveI:Nonempty (cM (λ_=>True)):=⟨⟨AG,trivial⟩⟩
    have eG:=ay.kF (λK:cM xx=>(Am.o _).1 K.holds)
    refine tV xx [([3],[0,1,2,4,5,6],7,true)] [] [] PV PV ((Am.o _).2 (TM.o.ad (Wt _ _).drew TM.o.lt)) ?_
    have BO:Below AG AG AG.drew:=(Wt _ _).drew;have Cd:=I (Uz.o.ad BO Uz.o.lt);have LD:=I (Uh.o.aK BO);have TJ:=I (bx aaO.o (bL BO _));clear BO Uz Uh aaO
    generalize AG.drew= wf at *
    refine jj λaoQ Gv=>?_
    refine Xp ?_
    repeat go_big_quiet_step (fail)
    refine VF ?_
    refine Yn ?_
    repeat go_big_quiet_step (fail)
    refine VF ?_
    refine XV ?_
    have af:=Cd.o.cb;have eO:=Cd.o.kH;have Aj:=Cd.o.lt
    go_wp2
    clear af eO Aj eG
    refine ra 0 λcP aE=>?_
    refine rP (Gv _ _ ?_)
    refine qu ?_
    refine VF ?_
    refine VF ?_
    have cp:ay cP w 31 #[Bo.bY,Bo.bW,Bo.bM]:=aE.own Cd.o;have CB:=LD.o.kept aE.eC (λk ax e=>by have h1:=(LD.o.lt k ax).1;have:=Wx e;omega);have ph:=nR TJ.o aE.eC (λk ax=>by have:=Wx ax;omega);clear aE
    have z0:=cp.cb
    go_wp2
    refine XY (v:= .tuple #[g rs y,tu,se,.agg #[Bo.bY,Bo.bW,Bo.bM]]) aGK rfl ?_
    exact⟨rs,g,y,tu,se,Bo,rfl,vz,gd,CB.base KK,Cu ph (XZ _) (λk ax=>by have:=Wx ax;omega)⟩
theorem arB (bq:hZ rs tu se= true) (h:xF (nV rs tu se) x):rF rs tu se x.log= true/\tP rs tu se x.log= x.bM:=by
 have dn:=Co h.ok
 obtain⟨h1,h2⟩:=Kp (tu:=tu) (se:=se) bq dn
 refine⟨h1,?_⟩
 rw [h2,aiq h (List.prefix_refl _)]
 exact (RM dn).symm
theorem arC (bq:hZ rs tu se= true) (h:xF (nV rs tu se) x) {k:Int} (aN:Cp x.log k false= true):
 Kk (qE x.log k false)= true/\rF rs tu se (qa (qE x.log k false))= true/\tP rs tu se (qa (qE x.log k false))= (qa (qE x.log k false)).bM:=by
 obtain⟨h1,_,_,_,dn,_,aS,_⟩:=aqe x.log k false aN
 obtain⟨e1,e2⟩:=Kp (tu:=tu) (se:=se) bq dn
 refine⟨h1,e1,?_⟩
 rw [e2,aiq h aS]
 exact (RM dn).symm
theorem aqc (x:ft) (k:Int):(qE x k false).size<=x.bY.size + x.bW.size:=by
 unfold qE
 split
 .rw [fY,Xu]
  have h1:x.d.length= x.bY.size:=YV;have h2:x.p.length= x.bW.size:=YV
  have h3:(tv x.p k false).length<=x.p.length:=by simp only [tv,Bool.false_and,ZJ,if_false,YA];exact Nat.min_le_right _ _
  omega
 .exact Xd _
theorem ayG (t:VU):(qa t).bY.size + (qa t).bW.size<=t.size:=by
 show (bs (zV t.data.toList)).size + 0<=_
 rw [fY]
 have:t.data.toList.length= t.size:=YV
 unfold zV
 split
 .rw [YA];omega
 .simp
theorem aqh {x:ft} (h:x.ok= true) {k:Int} (h0:0<=k) (h1:k<=(x.bW.size:Int)):Cp x k false= true:=by
 unfold Cp yO fB
 have h2:x.p.length= x.bW.size:=YV
 rw [show jJ x.d x.p x.bM= true from h,h2]
 simp [h0,h1]
theorem anO (h:u:=by
 rcases Nat.lt_or_eq_of_le (Nat.le_of_lt_succ bo) with h | rfl
 .exact oM.1 nG.o i h
 .exact afl.o):u:=h
theorem anN (h:u:=by
 obtain rfl:k= es.length:=KK
 have Lu:=I (aio nG.o)
 go_wp2
 go_ret2
 exact⟨by rw [Lu.o];rfl,U⟩):u:=h
theorem XD {A:QR} (c:Nat) (bq:rs) (x:ft) (av:x.bY.size + x.bW.size<=1048576) {w:World} (R:aX 7 aM.cells w A rs) (bl:A= none->rs= []/\c= 0) (gn:rs.length<=c) (bX:ob w):
 Rd 14 #[A rs c,tu,se,.agg #[x.bY,x.bW,x.bM]] w λe ah=>e= .returned (.tuple #[.int .i64 (tP rs tu se x),.bool (rF rs tu se x)])/\Below w w ah:=by
 have gj:=I (λW (cv:aX 7 aM.cells W A rs)=>afN A c rs bq tu se W cv bl gn);have Lw:=I (λ(h:hZ rs tu se= true)=>(Hz h).1);have KZ:=I (λy (hy:y ∈ iz x)=>agK hy)
 have CR:(hZ rs tu se= true/\x.ok= true/\rF rs tu se x= true/\tP rs tu se x= (Fg (nV rs tu se) (iz x):Int))\/((hZ rs tu se= false\/x.ok= false)/\rF rs tu se x= false/\tP rs tu se x= 0):=by
  cases aB:hZ rs tu se
  .exact .inr ⟨.inl rfl,(Fh (.inl aB)).1,(Fh (.inl aB)).2⟩
  .cases dn:x.ok
   .exact .inr ⟨.inr rfl,(Fh (.inr dn)).1,(Fh (.inr dn)).2⟩
   .exact .inl ⟨rfl,rfl,(Kp aB dn).1,(Kp aB dn).2⟩
 have Lq:=I (λW (h:jV W)=>afL x av W h)
 obtain⟨jS,uK⟩ :∃b,rF rs tu se x= b:=⟨_,rfl⟩
 obtain⟨ajQ,Hj⟩ :∃b,tP rs tu se x= b:=⟨_,rfl⟩
 rw [uK,Hj] at CR ⊢
 clear uK Hj
 obtain⟨n0,sN⟩ :∃n,nV rs tu se= n:=⟨_,rfl⟩
 obtain⟨b,aB⟩ :∃b,hZ rs tu se= b:=⟨_,rfl⟩
 obtain⟨o,dn⟩ :∃b,x.ok= b:=⟨_,rfl⟩
 obtain⟨es,CH⟩ :∃e,iz x= e:=⟨_,rfl⟩
 rw [sN,aB,dn,CH] at CR
 rw [aB,sN] at Lw
 simp only [sN,aB] at gj
 simp only [dn,CH] at Lq
 have WC:=agL x
 rw [CH] at KZ WC
 clear sN aB dn CH;have ju:=I CR;clear CR;replace R:=I R;replace bX:=I bX
 go_in
 go_upto_region 1 with fail
 refine dh λaO ar br=>?_
 have U:=ar
 obtain⟨gC,gp,gK⟩:=br.cb
 have nY:=U.size
 go_wp2_with fail
 refine (gj.o aO (R.o.ad U)).mono ?_
 rintro e aI ⟨bN,d0,bZ,d1,aU,d2,bd,d3,bI,d4,rfl,hM,aQ⟩
 have kB:=I (hM.base nY);clear hM gC gp gK;have yZ:=br.to aQ;have iL:=ai U aQ
 go_upto_region 2 with fail
 refine Xi λFq CD zc=>?_
 obtain⟨DD,Bh⟩ :∃b,b= aI.heap.size:=⟨_,rfl⟩
 rw [<- Bh] at zc ⊢
 have aun:w.heap.size<=DD:=by rw [Bh];exact iL.size
 clear Bh br U;have AU:=yZ.to CD;have TY:=I (kB.o.aK CD);have sF:=ai iL CD;have eG:=AU.cb;have JT:=AU.lt;have BN:=I sF
 go_wp2_with fail
 refine (Lq.o Fq (bX.o.ad sF).t).mono ?_
 rintro e bw ⟨Ce,lc,rfl,gN,bG⟩
 clear eG JT AU yZ CD aQ iL;have ih:=I (zc.to bG);have Lr:=I (TY.o.aK bG);have pK:=I (ai BN.o bG);have FN:=I (gN.base (B':=w) BN.o.size);clear gN zc sF bG nY
 rcases ju.o with ⟨rfl,rfl,rfl,rfl⟩ | ⟨ha,rfl,rfl⟩
 rotate_left
 .cases b
  .clear ha
   go_wp2
   go_ret2
   exact⟨rfl,pK.o⟩
  .obtain rfl:o= false:=by rcases ha with h | h <;> first | exact h | cases h
   clear ha
   go_wp2
   go_ret2
   exact⟨rfl,pK.o⟩
 .have ata:es.length<=lc:=nW FN.o fi.wD
  have Rt:Hid (gJ n0= true):=I (Lw.o (by trivial));clear ju
  go_upto_region 6 with fail
  go_loopw [38] (λv wr=>∃(k:Nat) (n:dE) (ck:QR) (e0:Nat) (cf:QR) (e1:Nat) (ct:QR) (e2:Nat) (cu:QR) (e3:Nat) (cl:QR) (e4:Nat),v= .int .i64 k/\k<=es.length/\Hid (xo n0 es k= n)/\Hid (iv (si n0 es) k= true)/\Hid (gJ n= true)/\fu w wr ck e0 cf e1 ct e2 cu e3 cl e4 n.bT n.ch n.cz n.cC n.bQ/\ay wr DD 46 #[ck n.bT e0,cf n.ch e1,.int .i64 n.dw,.int .i64 n.dp,.int .i64 n.dF,ct n.cz e2,cu n.cC e3,cl n.bQ e4,.string n.bY,.string n.bW,.int .i64 n.bM]/\bn w 56 2 fi.cells wr (Ce es lc) es/\Below w w wr) (λv _=>es.length - (intOf v).toNat)
  case atStart=>exact⟨0,n0,bN,d0,bZ,d1,aU,d2,bd,d3,bI,d4,rfl,Xd _,I rfl,I rfl,Rt,Lr.o,ih.o,FN.o,pK.o⟩
  case round=>
   clear ih Lr FN pK
   obtain⟨k,n,ck,e0,cf,e1,ct,e2,cu,e3,cl,e4,rfl,ax,gF,nG,hK,AF,aR,gN,U⟩:=hrel
   replace AF:=I AF;replace gN:=I gN;have aum:=aR.lt;have fV:=I aR
   by_cases bC:k < es.length
   .have hy:=Xj bC
    obtain⟨y,uL⟩ :∃y,es[k]= y:=⟨_,rfl⟩
    rw [uL] at hy;clear uL
    have aup:=KZ.o y (YE hy);replace hy:=I hy;have jX:=gN.o.ej (hf:=fi.wD)
    obtain⟨nS,off,hU,AQ,eN,rD,dC⟩:=jX.at_ (Wt _ _) bC
    obtain rfl:y= hU:=Wx (hy.o.symm.trans rD)
    subst AQ
    clear jX rD;have cG:=dC 0 _ rfl;have dJ:=dC 1 _ rfl
    simp only [XW] at cG
    have g0:=cG (aD.self _);have g1:=dJ (aD.self _)
    simp only [aD.self] at g0
    simp only [aD.self] at g1
    clear dC cG dJ
    go_upto_region 8 with fail
    refine Xi λajS zi Cy=>?_
    obtain⟨xu,Bj⟩ :∃b,b= wr.heap.size:=⟨_,rfl⟩
    rw [<- Bj] at Cy ⊢
    clear Bj g0 g1 eN;have QT:=fV.o.ad zi fV.o.lt;have VH:=ai U zi;have oJ:=I (λW (bB:eF W ck cf ct cu cl n.bT n.ch n.cz n.cC n.bQ) (aA:ob W)=>RD n (AF.o.uN (tt hK.o).gC (tt hK.o).gp (tt hK.o).gK (tt hK.o).xX (tt hK.o).Dg) (tt hK.o).JR y.cmd KK bB aA);have TV:=I Cy
    have bE:=QT.ca;have ko:=QT.lt;have kO:=Cy.fD;have BJ:=Cy.lt;clear Cy aR
    go_wp2_with fail
    refine (oJ.o ajS (AF.o.rd.ad zi) (bX.o.ad VH)).mono ?_
    rintro e bw ⟨n2,z,lA,f0,lR,f1,lS,f2,lT,f3,lU,f4,rfl,mN,OF,bG⟩
    clear bE ko kO BJ;have iw:=ai VH bG;have hA:=QT.to bG;have Pt:=I ((gN.o.aK zi).aK bG);have aaX:=TV.o.ad bG TV.o.lt;have Ix:=I (OF.base (B':=w) VH.size);clear OF;have Bc:Hid (gJ n2= true):=I (by rw [<- mN.o.1];exact Gk hK.o)
    go_upto_region 9 with fail
    refine Xi λajV zj VV=>?_
    obtain⟨akn,afE⟩ :∃b,b= bw.heap.size:=⟨_,rfl⟩
    rw [<- afE] at VV ⊢
    clear afE;have aeo:=aaX.to zj;have MY:=hA.to zj;have VI:=ai iw zj;have aaI:=I (Pt.o.aK zj);have aoA:=I (Ix.o.aK zj);have Up:=I MY;have kO:=aeo.fD;have BJ:=aeo.lt;clear hA QT fV AF gN aaX TV zi zj bG
    have CQ:si n0 es k= (z.toList == y.rep.toList):=by
     unfold si
     rw [hy.o]
     simp only [gF.o]
     rw [mN.o.2]
    cases cF:(z.toList == y.rep.toList)
    .have dV:(!(z.toList == y.rep.toList))= true:=by rw [cF];rfl
     have Lu:=I (aip bC nG.o (CQ.trans cF));clear CQ
     go_wp2
     go_ret2
     exact⟨by rw [Lu.o];rfl,VI⟩
    .have dV:(!(z.toList == y.rep.toList))= false:=by rw [cF];rfl
     have afl:=I (CQ.trans cF);clear CQ;have bE:=MY.ca;have qk:=MY.hk;have ko:=MY.lt;have fJ:=VV.ca;have Sy:=VV.lt;clear MY
     go_upto_region 12 with fail
     clear bE qk ko fJ Sy kO BJ cF dV
     refine hD 0 λcP aE=>?_
     have eT:=aE.jo Up.o;have Jk:=aaI.o.kept aE.eC (λk ax e=>aaI.o.mP Up.o WG k ax (Wx e))
     have Gw:=aoA.o.hb Up.o aE.eC;have sE:=VI.grown aE.eC VI.size (λq bt=>by have:=Wx bt;omega);clear aE
     have Gv:xo n0 es (k + 1)= n2:=by rw [OI hy.o,gF.o];exact mN.o.1
     have hA9:iv (si n0 es) (k + 1)= true:=oM.2 λi bo=>by
      exact anO
     go_wp2
     go_roundw
     case rel=>exact⟨k + 1,n2,lA,f0,lR,f1,lS,f2,lT,f3,lU,f4,by go_num,by omega,I Gv,I hA9,Bc,Gw,eT,Jk,sE⟩
     case measure=>simp [intOf];omega
   .exact anN
theorem aAn (A:QR) (c:Nat) (rs:List aM) (bq:rs) (tu se:Int) (x:ft) (av:x.bY.size + x.bW.size<=1048576) (w:World) (R:aX 7 aM.cells w A rs) (bl:A= none->rs= []/\c= 0) (gn:rs.length<=c):
 Rd 11 #[A rs c,tu,se,.agg #[x.bY,x.bW,x.bM]] w λe ah=>e= .returned (.tuple #[.int .i64 (tP rs tu se x),.bool (rF rs tu se x)])/\Below w w ah:=by
 have gj:=I (λW (cv:aX 7 aM.cells W A rs)=>aGs A c rs bq tu se W cv bl gn);have Lw:=I (λ(h:hZ rs tu se= true)=>(Hz h).1);have KZ:=I (λy (hy:y ∈ iz x)=>agK hy)
 have CR:(hZ rs tu se= true/\x.ok= true/\rF rs tu se x= true/\tP rs tu se x= (Fg (nV rs tu se) (iz x):Int))\/((hZ rs tu se= false\/x.ok= false)/\rF rs tu se x= false/\tP rs tu se x= 0):=by
  cases aB:hZ rs tu se
  .exact .inr ⟨.inl rfl,(Fh (.inl aB)).1,(Fh (.inl aB)).2⟩
  .cases dn:x.ok
   .exact .inr ⟨.inr rfl,(Fh (.inr dn)).1,(Fh (.inr dn)).2⟩
   .exact .inl ⟨rfl,rfl,(Kp aB dn).1,(Kp aB dn).2⟩
 have Lq:=I (λW=>azX x av W);have Lp:=I (λW=>agq x av W)
 obtain⟨jS,uK⟩ :∃b,rF rs tu se x= b:=⟨_,rfl⟩
 obtain⟨ajQ,Hj⟩ :∃b,tP rs tu se x= b:=⟨_,rfl⟩
 rw [uK,Hj] at CR ⊢
 clear uK Hj
 obtain⟨n0,sN⟩ :∃n,nV rs tu se= n:=⟨_,rfl⟩
 obtain⟨b,aB⟩ :∃b,hZ rs tu se= b:=⟨_,rfl⟩
 obtain⟨o,dn⟩ :∃b,x.ok= b:=⟨_,rfl⟩
 obtain⟨es,CH⟩ :∃e,iz x= e:=⟨_,rfl⟩
 rw [sN,aB,dn,CH] at CR
 rw [aB,sN] at Lw
 simp only [sN,aB] at gj
 simp only [dn,CH] at Lq
 simp only [dn] at Lp
 have WC:=agL x
 rw [CH] at KZ WC
 clear sN aB dn CH;have ju:=I CR;clear CR;replace R:=I R
 go_in
 go_upto_region 1 with fail
 refine dh λaO ar br=>?_
 have U:=ar
 obtain⟨gC,gp,gK⟩:=br.cb
 have nY:=U.size
 go_wp2_with fail
 refine (gj.o aO (R.o.ad U)).mono ?_
 rintro e aI ⟨bN,d0,bZ,d1,aU,d2,bd,d3,bI,d4,rfl,hM,aQ⟩
 have kB:=I (hM.base nY);clear hM gC gp gK;have yZ:=br.to aQ;have iL:=ai U aQ
 go_upto_region 2 with fail
 refine Xi λFq CD zc=>?_
 obtain⟨DD,Bh⟩ :∃b,b= aI.heap.size:=⟨_,rfl⟩
 rw [<- Bh] at zc ⊢
 have aun:w.heap.size<=DD:=by rw [Bh];exact iL.size
 clear Bh br U;have AU:=yZ.to CD;have TY:=I (kB.o.aK CD);have sF:=ai iL CD;have eG:=AU.cb;have JT:=AU.lt;replace sF:=I sF;replace zc:=I zc;replace AU:=I AU;clear yZ CD aQ iL
 cases b
 .obtain⟨rfl,rfl⟩ :jS= false/\ajQ= 0:=by
   rcases ju.o with ⟨h,_⟩ | ⟨_,h,h2⟩
   .cases h
   .exact⟨h,h2⟩
  clear ju
  go_wp2
  go_ret2
  exact⟨rfl,sF.o⟩
 go_wp2_with fail
 refine (Lp.o Fq).mono ?_
 rintro e wc ⟨rfl,CE⟩
 clear eG JT;have QI:=ai sF.o CE
 rcases ju.o with ⟨_,rfl,rfl,rfl⟩ | ⟨ha,rfl,rfl⟩
 rotate_left
 .obtain rfl:o= false:=by rcases ha with h | h <;> first | exact h | cases h
  clear ha ju
  go_wp2
  go_ret2
  exact⟨rfl,QI⟩
 .have VR:=AU.o.ad CE AU.o.lt
  have eG:=VR.cb;have JT:=VR.lt
  go_wp2_with fail
  refine (Lq.o wc).mono ?_
  rintro e bw ⟨Ce,lc,rfl,gN,bG⟩
  clear eG JT VR;have ih:=I ((zc.o.ad CE zc.o.lt).ad bG (zc.o.ad CE zc.o.lt).lt);have Lr:=I ((TY.o.aK CE).aK bG);have pK:=I (ai QI bG);have FN:=I (gN.base (B':=w) QI.size);clear gN bG nY CE QI;have ata:es.length<=lc:=nW FN.o fi.wD;have Rt:Hid (gJ n0= true):=I (Lw.o (by trivial));clear ju
  go_upto_region 7 with fail
  go_loopw [15] (λv wr=>∃(k:Nat) (n:dE) (ck:QR) (e0:Nat) (cf:QR) (e1:Nat) (ct:QR) (e2:Nat) (cu:QR) (e3:Nat) (cl:QR) (e4:Nat),v= .int .i64 k/\k<=es.length/\Hid (xo n0 es k= n)/\Hid (iv (si n0 es) k= true)/\Hid (gJ n= true)/\fu w wr ck e0 cf e1 ct e2 cu e3 cl e4 n.bT n.ch n.cz n.cC n.bQ/\ay wr DD 46 #[ck n.bT e0,cf n.ch e1,.int .i64 n.dw,.int .i64 n.dp,.int .i64 n.dF,ct n.cz e2,cu n.cC e3,cl n.bQ e4,.string n.bY,.string n.bW,.int .i64 n.bM]/\bn w 56 2 fi.cells wr (Ce es lc) es/\Below w w wr) (λv _=>es.length - (intOf v).toNat)
  case atStart=>exact⟨0,n0,bN,d0,bZ,d1,aU,d2,bd,d3,bI,d4,rfl,Xd _,I rfl,I rfl,Rt,Lr.o,ih.o,FN.o,pK.o⟩
  case round=>
   clear ih Lr FN pK
   obtain⟨k,n,ck,e0,cf,e1,ct,e2,cu,e3,cl,e4,rfl,ax,gF,nG,hK,AF,aR,gN,U⟩:=hrel
   replace AF:=I AF;replace gN:=I gN;have fV:=I aR
   by_cases bC:k < es.length
   .have hy:=Xj bC
    obtain⟨y,uL⟩ :∃y,es[k]= y:=⟨_,rfl⟩
    rw [uL] at hy;clear uL
    have aup:=KZ.o y (YE hy);replace hy:=I hy
    obtain⟨nS,off,hU,AQ,eN,_,_⟩:=(gN.o.ej (hf:=fi.wD)).at_ (Wt _ _) bC
    subst AQ
    have wm:=I (λV (iq:Below wr wr V)=>((gN.o.aK iq).ej (hf:=fi.wD)))
    obtain⟨dx,et⟩ :∃X:World->Prop,∀V,X V↔Below wr wr V:=⟨_,λ_=>Xt⟩
    replace et:=I et
    haveI:Nonempty (cM dx):=⟨⟨wr,(et.o _).2 (Wt _ _)⟩⟩
    haveI:Nonempty (cM (λ_=>True)):=⟨⟨wr,trivial⟩⟩
    have df:=ay.pS (λK:cM dx=>fV.o.ad ((et.o _).1 K.holds) fV.o.lt)
    have g0:=λK:cM dx=>xl (wm.o _ ((et.o _).1 K.holds)) hy.o (i:=0) (u:= .string y.cmd) rfl
    simp only [XW] at g0
    have oJ:=I (λW (bB:eF W ck cf ct cu cl n.bT n.ch n.cz n.cC n.bQ)=>OO n (AF.o.uN (tt hK.o).gC (tt hK.o).gp (tt hK.o).gK (tt hK.o).xX (tt hK.o).Dg) (tt hK.o).JR y.cmd KK bB);clear aR
    go_upto_region 9 with fail
    refine tV dx [([0,1,2,3,4,5],[],6,false),([],[7,8,9],10,true)] [] [11] PV PV ((et.o _).2 (Wt _ _).drew) ?_
    refine jj λhE eu=>?_
    refine Yn ?_
    repeat go_big_quiet_step (fail)
    refine VF ?_
    refine VF ?_
    refine XV ?_
    have fO:Below wr wr wr.drew:=(Wt _ _).drew
    generalize wr.drew= wd at *
    clear df g0
    go_wp2_with fail
    refine (oJ.o wd (AF.o.rd.ad fO)).mono ?_
    rintro e bw ⟨n2,z,lA,f0,lR,f1,lS,f2,lT,f3,lU,f4,rfl,mN,OF,bG⟩
    have iw:=ai fO bG
    go_wp2
    refine nK ((et.o _).2 iw) (eu _ _ ?_)
    have uB:=ai U iw;have rp:=I (fV.o.ad iw fV.o.lt);have abb:=I (gN.o.aK iw);have Iy:=I (OF.base (B':=w) (by have:=U.size;have:=fO.size;omega));clear OF;have Bc:Hid (gJ n2= true):=I (by rw [<- mN.o.1];exact Gk hK.o)
    refine jj λff da=>?_
    refine VF ?_
    refine YI ?_
    repeat go_big_quiet_step (fail)
    refine VF ?_
    refine XV ?_
    have bE:=rp.o.ca;have qk:=rp.o.hk;have ko:=rp.o.lt
    go_wp2
    clear bE qk ko
    refine hD 0 λcP aE=>?_
    refine rP (da _ _ ?_)
    refine qu ?_
    refine VF ?_
    refine Xp ?_
    repeat go_big_quiet_step (fail)
    refine VF ?_
    have eT:=aE.jo rp.o;have Jk:=abb.o.kept aE.eC (λk ax e=>abb.o.mP rp.o WG k ax (Wx e))
    have Gw:=Iy.o.hb rp.o aE.eC;have sE:=uB.grown aE.eC uB.size (λq bt=>by have:=Wx bt;omega)
    have Jy:nS < cP.heap.size:=by have:=iw.size;have:=aE.sz;omega
    clear aE;have g1:=xl (Jk.ej (hf:=fi.wD)) hy.o (i:=1) (u:= .string y.rep) rfl
    have CQ:si n0 es k= (z.toList == y.rep.toList):=by
     unfold si
     rw [hy.o]
     simp only [gF.o]
     rw [mN.o.2]
    replace eT:=I eT;replace Jk:=I Jk;replace Gw:=I Gw
    cases cF:(z.toList == y.rep.toList)
    .have dV:(!(z.toList == y.rep.toList))= true:=by rw [cF];rfl
     have Lu:=I (aip bC nG.o (CQ.trans cF));clear CQ
     go_wp2
     go_ret2
     exact⟨by rw [Lu.o];rfl,sE⟩
    .have dV:(!(z.toList == y.rep.toList))= false:=by rw [cF];rfl
     have afl:=I (CQ.trans cF);clear CQ
     have Gv:xo n0 es (k + 1)= n2:=by rw [OI hy.o,gF.o];exact mN.o.1
     have hA9:iv (si n0 es) (k + 1)= true:=oM.2 λi bo=>by
      exact anO
     go_wp2
     go_roundw
     case rel=>exact⟨k + 1,n2,lA,f0,lR,f1,lS,f2,lT,f3,lU,f4,by go_num,by omega,I Gv,I hA9,Bc,Gw.o,eT.o,Jk.o,sE⟩
     case measure=>simp [intOf];omega
   .exact anN
theorem apI {w:World} {b o:Nat} (aB:Below w w ah) (h:w.cell? ⟨b,o,none⟩ =some v):ah.cell? ⟨b,o,none⟩ =some v:=(aB.cell (p:=⟨b,o,none⟩) (World.block_lt_of_cell? w _ h)).trans h
theorem awQ (A:QR) (c:Nat) (cs:List UInt8) (w:World) (bB:aX 1 Ac w A cs) (bX:ob w):
 Rd 6 #[A cs c] w λe ah=>e= .returned true/\Below w w ah:=by
 by_cases zk:65536 < cs.length
 .go_in
  go_wp2_with fail
  refine (KF _ (Xh zk) _).mono ?_
  rintro e w0 ⟨rfl,h0⟩
  rw [h0]
  clear h0 w0
  go_wp2
  go_ret
  exact⟨rfl,Wt _ _⟩
 have cK:cs:=KK
 have KX:=I (Xe zk);have gF:=I bB;have hK:=I bX;have aoc:=I bX;clear bB bX zk
 go_in
 go_wp2_with fail
 refine (KF _ KX.o _).mono ?_
 rintro e w0 ⟨rfl,h0⟩
 rw [h0]
 clear h0 w0
 go_wp2_with fail
 refine (aqs A c cs cK _ gF.o).mono ?_
 rintro e bm ⟨rs,g,y,tu,se,gP,rfl,vz,GU,OR,aB⟩
 have Iv:=I (show rs.length<=1048576 by omega);have Lp:=I (show gP.bY.size + gP.bW.size<=1048576 by omega);have mI:=I OR;have LL:=I aB;have aaP:=I (gF.o.ad aB);have yB:=I (hK.o.ad aB);have s1:=aB.size;clear OR aB gF hK vz GU
 go_upto_region 4 with fail
 refine zR λaI aB aR=>?_
 obtain⟨lx,adf⟩ :∃b,b= bm.heap.size:=⟨_,rfl⟩
 rw [<- adf] at aR ⊢
 clear adf;have ts:=I aR;have bE:=aR.cb;have ko:=aR.lt;clear aR;have vm:=I (mI.o.aK aB);have Ay:=I (ai LL.o aB);have BR:=I (aaP.o.ad aB);have tY:=I (yB.o.ad aB);clear aB mI LL aaP yB
 obtain⟨v,az⟩ :∃v,tP rs tu se gP= v:=⟨_,rfl⟩
 obtain⟨b,hW⟩ :∃v,rF rs tu se gP= v:=⟨_,rfl⟩
 have cI:=I (And.intro az hW);clear az hW
 go_wp2_with fail
 refine (XD y Iv.o gP Lp.o (vm.o.ej (hf:=oT)) Wn (nW vm.o oT) tY.o).mono ?_
 rintro e bw ⟨rfl,aB⟩
 rw [cI.o.1,cI.o.2]
 have kY:=I (vm.o.aK aB);have Az:=I (ai Ay.o aB);have BS:=I (BR.o.ad aB);have pL:=I (tY.o.ad aB);have oh:=I (ts.o.ad aB ts.o.lt);clear aB vm Ay BR tY ts;replace bE:=oh.o.cb;replace ko:=oh.o.lt
 go_wp2_with fail
 refine (aAn (some ⟨g,0,none⟩) y rs Iv.o tu se gP Lp.o bw (kY.o.ej (hf:=oT)) Wn (nW kY.o oT)).mono ?_
 rintro e bH ⟨rfl,aB⟩
 rw [cI.o.1,cI.o.2]
 clear bE ko cI oh;have Av:=I (kY.o.aK aB);have AA:=I (ai Az.o aB);have aaQ:=I (BS.o.ad aB);have qw:=I (pL.o.ad aB);clear aB kY Az BS pL
 have aHE:(!(v == v))= false:=Wn
 have bK:(!(b == b))= false:=Wn
 go_wp2_with fail
 clear aHE bK
 refine (acX A c cs cK _ aaQ.o).mono ?_
 rintro e cO ⟨z0,t,bN,d0,bZ,d1,aU,d2,bd,d3,bI,d4,rfl,bz,cJ,aV,aB⟩
 clear bz aV;have Aw:=I (Av.o.aK aB);have AB:=I (ai AA.o aB);have oI:=I (qw.o.ad aB);clear aB Av AA qw;clear aaQ
 go_upto_region 9 with fail
 refine zR λdk aB _=>?_
 have Ax:=I (Aw.o.aK aB);have tr:=I (ai AB.o aB);have pM:=I (oI.o.ad aB);clear aB Aw AB oI;have lE:=I (λ(h:hZ rs tu se= true)=>azc (Hz h).1 (Hz h).2);have yE:=I (λ(x:dE) (h:hZ rs tu se= true) (bu:xF (nV rs tu se) x)=>arB h bu);have TF:=I (λ(x:dE) (h:hZ rs tu se= true) (bu:xF (nV rs tu se) x) (k:Int) (aN:Cp x.log k false= true)=>arC h bu aN)
 have aaz:=I (λ(h:hZ rs tu se= true)=>lQ.ok (Hz h).1);have aoO:=I (aIr rs tu se);have TT:=I (λW (h:aX 7 aM.cells W (some ⟨g,0,none⟩) rs) (h2:rs.length<=y)=>afN (some ⟨g,0,none⟩) y rs Iv.o tu se W h Wn h2);have BU:=I (λW (h:aX 7 aM.cells W (some ⟨g,0,none⟩) rs) (h2:rs.length<=y)=>aGs (some ⟨g,0,none⟩) y rs Iv.o tu se W h Wn h2)
 have vj:Hid ((nV rs tu se).bT.length<=1048576/\(nV rs tu se).ch.length<=1048576/\(nV rs tu se).cz.length<=1048576/\(nV rs tu se).cC.length<=1048576/\(nV rs tu se).bQ.length<=1048576):=I (by
  cases aB:hZ rs tu se
  .have e:nV rs tu se=⟨[],[],0,0,0,[],[],[],⟨#[]⟩,⟨#[]⟩,0⟩:=by unfold nV;rw [Om aB];rfl
   rw [e];simp
  .have h:=lQ.ok (Hz aB).1
   exact⟨h.i0,h.i1,h.i2,h.i3,h.i4⟩)
 obtain⟨n0,sN⟩ :∃n,nV rs tu se= n:=⟨_,rfl⟩
 obtain⟨jK,lg⟩ :∃n,hZ rs tu se= n:=⟨_,rfl⟩
 simp only [sN,lg] at lE yE TF aaz TT BU vj
 clear sN lg aoO
 go_wp2_with fail
 refine (TT.o dk (Ax.o.ej (hf:=oT)) (nW Ax.o oT)).mono ?_
 rintro e fS ⟨ck,e0,cf,e1,ct,e2,cu,e3,cl,e4,rfl,gN,aB⟩
 have od:=I (gN.base (B':=w) (by have:=tr.o.size;omega));clear gN TT;have tp:=I (Ax.o.aK aB);have BZ:=I (ai tr.o aB);have lV:=I (pM.o.ad aB);clear aB Ax tr pM
 go_upto_region 10 with fail
 refine zR λdu aB bl=>?_
 obtain⟨Gj,Vj⟩ :∃b,b= fS.heap.size:=⟨_,rfl⟩
 rw [<- Vj] at bl ⊢
 have AX:w.heap.size<=Gj:=by rw [Vj];exact BZ.o.size
 clear Vj;have Ig:=I bl;clear bl;have FY:=I (tp.o.aK aB);have DV:=I (ai BZ.o aB);have xA:=I (lV.o.ad aB);have Aq:=I (od.o.aK aB);clear aB tp BZ lV od
 go_wp2_with fail
 refine (BU.o du (FY.o.ej (hf:=oT)) (nW FY.o oT)).mono ?_
 rintro e eB ⟨lA,f0,lR,f1,lS,f2,lT,f3,lU,f4,rfl,OF,aB⟩
 have Iq:=I OF.rd;clear OF BU;have FZ:=I (FY.o.aK aB);have AD:=I (ai DV.o aB);have yC:=I (xA.o.ad aB);have FU:=I (Aq.o.aK aB);have KW:=I (Ig.o.ad aB Ig.o.lt);clear aB FY DV xA Aq Ig
 go_upto_region 11 with fail
 refine zR λpH aB iq=>?_
 obtain⟨jS,Mw⟩ :∃b,b= eB.heap.size:=⟨_,rfl⟩
 rw [<- Mw] at iq ⊢
 clear Mw;have aoK:=I iq;have mW:=iq.ca;have qt:=iq.lt;clear iq;have DT:=I (FZ.o.aK aB);have DW:=I (ai AD.o aB);have xB:=I (yC.o.ad aB);have IA:=I (FU.o.aK aB);have yA:=I (KW.o.ad aB KW.o.lt);have Pv:=I (Iq.o.ad aB);clear aB FZ AD yC FU KW Iq;have a':=yA.o.ca;have Ck:=yA.o.lt
 have nm:(!(jK == jK))= false:=Wn
 go_wp2_with fail
 refine (aHX n0 vj.o.1 vj.o.2.1 vj.o.2.2.1 vj.o.2.2.2.1 vj.o.2.2.2.2 IA.o.rd Pv.o).mono ?_
 rintro e wc ⟨rfl,aB⟩
 clear mW qt a' Ck aoK Pv;have LC:=I (DT.o.aK aB);have Gb:=I (ai DW.o aB);have La:=I (xB.o.ad aB);have abg:=I (IA.o.aK aB);have FB:=I (yA.o.ad aB yA.o.lt);clear aB DT DW xB IA yA
 cases jK
 .go_wp2
  go_ret
  exact⟨rfl,Gb.o⟩
 have IB:=I (lE.o rfl);have Pv:=I (λ(x:dE) (bu:xF n0 x)=>yE.o x rfl bu);have aog:=I (λ(x:dE) (bu:xF n0 x) (k:Int) (aN:Cp x.log k false= true)=>TF.o x rfl bu k aN);clear lE yE TF aaz vj
 go_wp2_with fail
 refine (ajx t KK wc).mono ?_
 rintro e wd ⟨abU,t0,rfl,Gg,aB⟩
 have abq:=I (show∀a ∈ Ab t,a.size<=1048576 from λa h=>by
  unfold Ab at h
  split at h
  .have:=HU h;omega
  .cases h)
 have atw:(Ab t).length<=3000:=by
  unfold Ab
  split
  .have:=aIH 10 t;omega
  .simp
 have LI:=I (Gg.base (B':=w) (by have:=Gb.o.size;omega));clear Gg
 generalize Ab t= ls at *
 have qy:=I (LC.o.aK aB);have vn:=I (ai Gb.o aB);have nH:=I (La.o.ad aB);have kf:=I (abg.o.aK aB);have we:=I (FB.o.ad aB FB.o.lt);clear aB LC Gb La abg FB
 go_upto_region 17 with fail
 go_loopw [19] (λv wr=>∃(k:Nat) (x:dE) (ck:QR) (e0:Nat) (cf:QR) (e1:Nat) (ct:QR) (e2:Nat) (cu:QR) (e3:Nat) (cl:QR) (e4:Nat),v= .int .i64 (k:Int)/\k<=ls.length/\Hid (xF n0 x)/\fu w wr ck e0 cf e1 ct e2 cu e3 cl e4 x.bT x.ch x.cz x.cC x.bQ/\ay wr Gj 46 #[ck x.bT e0,cf x.ch e1,x.dw,x.dp,x.dF,ct x.cz e2,cu x.cC e3,cl x.bQ e4,x.bY,x.bW,x.bM]/\bn w 9 1 hh wr (abU ls t0) ls/\bn w 89 7 aM.cells wr (g rs y) rs/\ob wr/\Below w w wr) (λv _=>ls.length - (intOf v).toNat)
 case atStart=>exact⟨0,n0,ck,e0,cf,e1,ct,e2,cu,e3,cl,e4,rfl,Xd _,IB,kf.o,we.o,LI.o,qy.o,nH.o,vn.o⟩
 case round=>
  clear qy vn nH kf we LI IB
  obtain⟨k,x,ck,e0,cf,e1,ct,e2,cu,e3,cl,e4,rfl,ax,fh,aV,bl,dN,bB,aA,cv⟩:=hrel
  have U:=I (lQ.ok fh.o.ok);have iu:=I (U.o.uN aV);have HOr:=I aV;have Al:=I bl;have PK:=I dN;have ID:=I bB;have Lb:=I aA;have PO:=I cv;have auj:=cv.size;clear aV bl dN bB aA cv
  by_cases bC:k < ls.length
  .have uI:decide ((k:Int) < (ls.length:Int))= true:=Xh KK
   obtain⟨ab,Ci,a,Wf,_,de,uE⟩:=(PK.o.ej (hf:=jP)).at_ (Wt _ _) bC
   subst Wf
   have f0:=uE 0 _ rfl
   simp only [Xw,XW] at f0
   have afp:=abq.o a (YE de);have yD:=I f0;clear de uE f0
   obtain⟨dx,et⟩ :∃C:World->Prop,∀V,C V↔(ay V Gj 46 #[ck x.bT e0,cf x.ch e1,x.dw,x.dp,x.dF,ct x.cz e2,cu x.cC e3,cl x.bQ e4,x.bY,x.bW,x.bM]/\V.cell? ⟨ab,Ci + k,none⟩ =some (.string a)):=⟨_,λ_=>Xt⟩
   replace et:=I et;have yY:dx wr.drew:=(et.o _).2 ⟨Al.o.ad (Wt _ _).drew Al.o.lt,yD.o ⟨wr.drew,(Wt _ _).drew⟩⟩
   go_upto_region 19 with fail
   haveI:Nonempty (cM dx):=⟨⟨wr.drew,yY⟩⟩
   haveI:Nonempty (cM (λ_=>True)):=⟨⟨wr,trivial⟩⟩
   have bE:=ay.pS (λK:cM dx=>((et.o _).1 K.holds).1)
   have kO:=λK:cM dx=>((et.o _).1 K.holds).2
   refine tV dx [([0,1,2,3,4],[],5,false),([],[6,7,8],9,true)] [] [] PV PV yY ?_
   have DI:Hid (wr.drew.cell? ⟨ab,Ci + k,none⟩ =some (.string a)):=I (yD.o ⟨wr.drew,(Wt _ _).drew⟩);have aB:Below wr wr wr.drew:=(Wt _ _).drew;have zC:=aB.size;have qy:=I (ID.o.aK aB);have vn:=I (ai PO.o aB);have nH:=I (Lb.o.ad aB);have kf:=I (HOr.o.aK aB);have we:=I (Al.o.ad aB Al.o.lt);have LI:=I (PK.o.aK aB)
   clear aB ID PO Lb HOr Al PK;clear yD yY
   generalize wr.drew= wd at *
   refine jj λhE eu=>?_
   refine Yp ?_
   repeat go_big_quiet_step (fail)
   refine VF ?_
   refine VF ?_
   refine XV ?_
   clear bE kO
   go_wp2_with fail
   refine (RD x iu.o U.o.tJ a afp kf.o.rd nH.o).mono ?_
   rintro e aI ⟨cB,z,lA,f0,lR,f1,lS,f2,lT,f3,lU,f4,rfl,mN,OF,aB⟩
   have As:Hid (xF n0 cB):=I (by rw [<- mN.o.1];exact azd fh.o a);have jC:=I (OF.base (B':=w) KK);have kI:aI.cell? ⟨ab,Ci + k,none⟩ =some (.string a):=apI aB DI.o;clear OF mN kf DI;have vm:=I (qy.o.aK aB);have Ay:=I (ai vn.o aB);have tY:=I (nH.o.ad aB);have xy:=I (we.o.ad aB we.o.lt);have PJ:=I (LI.o.aK aB)
   clear aB qy vn nH we LI
   go_wp2
   refine nK ((et.o _).2 ⟨xy.o,kI⟩) (eu _ _ ?_)
   clear kI
   refine jj λff da=>?_
   refine VF ?_
   refine YI ?_
   repeat go_big_quiet_step (fail)
   refine VF ?_
   refine XV ?_
   have bE:=xy.o.ca;have qk:=xy.o.hk;have ko:=xy.o.lt
   go_wp2
   clear bE qk ko
   refine hD 0 λcP aE=>?_
   refine rP (da _ _ ?_)
   refine qu ?_
   refine VF ?_
   refine VF ?_
   have hA9:=aE.jo xy.o;have CB:=vm.o.kept aE.eC (λk ax e=>vm.o.mP xy.o WG k ax (Wx e))
   have asq:=PJ.o.kept aE.eC (λk ax e=>PJ.o.mP xy.o WG k ax (Wx e));have ix:=jC.o.hb xy.o aE.eC;have Jp:=aE.aN Ay.o;have yX:=aoc.o.ad Jp;clear aE
   go_wp2
   go_roundw
   case rel=>exact⟨k + 1,cB,lA,f0,lR,f1,lS,f2,lT,f3,lU,f4,by go_num,by omega,As,ix,hA9,asq,CB,yX,Jp⟩
   case measure=>simp [intOf];omega
  .have uI:decide ((k:Int) < (ls.length:Int))= false:=Xe KK
   obtain⟨CI,ED⟩:=Pv.o x fh.o
   have gd:x.log.bY.size + x.log.bW.size<=1048576:=U.o.tJ;have yE:=I (And.intro CI ED);replace gd:=I gd;clear CI ED abq PK atw;have a':=Al.o.ca;have Ck:=Al.o.lt
   go_wp2_with fail
   refine (XD y Iv.o x.log gd.o (ID.o.ej (hf:=oT)) Wn (nW ID.o oT) Lb.o).mono ?_
   rintro e pH ⟨rfl,aB⟩
   rw [yE.o.1,yE.o.2]
   clear auj;have DT:=I (ID.o.aK aB);have DW:=I (ai PO.o aB);have xB:=I (Lb.o.ad aB);have yA:=I (Al.o.ad aB Al.o.lt);clear aB ID PO Lb Al;replace a':=yA.o.ca;replace Ck:=yA.o.lt
   go_wp2_with fail
   clear a' Ck
   have GN:0<=wrap64 ((x.bW.size:Int) - (x.bW.size:Int) % 7)/\wrap64 ((x.bW.size:Int) - (x.bW.size:Int) % 7)<=(x.bW.size:Int):=by
    have h1:x.bY.size + x.bW.size<=1048576:=gd.o
    have hw:∀v:Int,0<=v->v<=1048576->wrap64 v= v:=λv h1 h2=>by unfold wrap64;omega
    rw [hw _ KK KK]
    constructor <;> omega
   obtain⟨kk,zs⟩ :∃k:Int,wrap64 ((x.bW.size:Int) - (x.bW.size:Int) % 7)= k:=⟨_,rfl⟩
   rw [zs] at GN ⊢
   have Rb:=aqh (Co fh.o.ok) GN.1 GN.2
   obtain⟨dM,r2,gS⟩:=aog.o x fh.o kk Rb
   have Rw:=Xr (aqc x.log kk) gd.o;clear zs GN Rb
   refine (auI x.log gd.o kk false pH xB.o.t).mono ?_
   rintro e oG ⟨rfl,aB⟩
   obtain⟨s,aP⟩ :∃s,qE x.log kk false= s:=⟨_,rfl⟩
   rw [aP] at dM r2 gS Rw ⊢
   have qP:=Xr (ayG s) Rw;clear aP;have IC:=I (DT.o.aK aB);have PN:=I (ai DW.o aB);have Ii:=I (xB.o.ad aB);have Tx:=I (yA.o.ad aB yA.o.lt);clear aB DT DW xB yA;have IG:=I Rw;have Uc:=I (And.intro dM (And.intro r2 gS));clear Rw dM r2 gS
   go_wp2_with fail
   refine (avC s IG.o oG Ii.o.t).mono ?_
   rintro e wc ⟨rfl,aB⟩
   rw [Uc.o.1]
   obtain⟨p,aS⟩ :∃p,qa s= p:=⟨_,rfl⟩
   have DS:Hid (rF rs tu se p= true/\tP rs tu se p= p.bM):=I (by rw [<- aS];exact Uc.o.2)
   rw [aS] at qP ⊢
   replace qP:=I qP;clear aS Uc IG;have LC:=I (IC.o.aK aB);have Gb:=I (ai PN.o aB);have La:=I (Ii.o.ad aB);have FB:=I (Tx.o.ad aB Tx.o.lt);clear aB IC PN Ii Tx
   go_upto_region 23 with fail
   refine zR λwd aB eA=>?_
   obtain⟨aEO,adm⟩ :∃b,b= wc.heap.size:=⟨_,rfl⟩
   rw [<- adm] at eA ⊢
   clear adm;have Ub:=I eA;have fJ:=eA.cb;have Sy:=eA.lt;clear eA;have qy:=I (LC.o.aK aB);have vn:=I (ai Gb.o aB);have nH:=I (La.o.ad aB);have we:=I (FB.o.ad aB FB.o.lt);clear aB LC Gb La FB
   go_wp2_with fail
   clear fJ Sy
   refine (XD y Iv.o p qP.o (qy.o.ej (hf:=oT)) Wn (nW qy.o oT) nH.o).mono ?_
   rintro e Pa ⟨rfl,aB⟩
   rw [DS.o.1,DS.o.2]
   have abn:=I (Ub.o.ad aB Ub.o.lt);clear Ub;have Uh:=I (qy.o.aK aB);have aoL:=I (ai vn.o aB);have aod:=I (nH.o.ad aB);have aaw:=I (we.o.ad aB we.o.lt);clear aB qy vn nH we;have a':=aaw.o.ca;have Ck:=aaw.o.lt;have fJ:=abn.o.cb;have Sy:=abn.o.lt
   go_wp2
   go_ret
   exact⟨rfl,aoL.o⟩
set_option maxHeartbeats 4000000
theorem ayT (os:Os) {H:Type} (enc:TypeId×Value->H):∃places,DataW.whole enc Tryz.prog ((World.laidAll Tryz.prog os Rows.fnReplayRow.laid).forCall (λ_ _=>0) ⟨#[],#[()],[]⟩).memory Tryz.f6.params.toList Rows.fnReplaySpec.vars false (#[()]:Array Value).toList 8= some ([.nil],[],places):=
 aGg PV
theorem ayR (os:Os):laidMet Tryz.prog Rows.fnReplayRow.laid ((World.laidAll Tryz.prog os Rows.fnReplayRow.laid).forCall (λ_ _=>0) ⟨#[],#[()],[]⟩).memory:=
 laidMet_laidAll _ PV PV
theorem ayO (os:Os) (started:os.Started) (H:Type) (enc:TypeId×Value->H) (F:Stop.Interp):
  ReturnsInHanded {} Tryz.checked os 6 .any ((OpenSpec.ofChange Rows.fnReplaySpec).preRow enc Tryz.prog Tryz.f6 Rows.fnReplayRow.domain false Rows.fnReplayRow.laid) (((OpenSpec.ofChange Rows.fnReplaySpec).at F).post enc Tryz.prog Tryz.f6 false true false false):=by
 obtain⟨places,av⟩:=ayT os enc
 refine Vd (C:=Tryz.checked) (rt:=4) aHP started PV Tryz.func6
  (witness_row_atRef (enc:=enc) (C:=Tryz.checked) false (World.laidAll Tryz.prog os Rows.fnReplayRow.laid) #[()] (World.laidAll_os _ _ _) PV PV PV (OpenSpec.preRow_of_cond 8 av PV (λk ax=>by cases ax) PV (ayR os)))
  aHO (by rw [Tryz.params6];intro t cJ;simp at cJ;rcases cJ with rfl;all_goals exact⟨by kernel_rfl,of_decide_eq_true PV⟩) rfl Tryz.underlying4 PV
  (by rw [Tryz.params6];intro l g aT cy;match l,g,aT,cy with | [d0],[],_,_=>rfl) ?_
 intro W base args pg p br lM px bl
 rw [Tryz.params6] at bl px
 obtain⟨v0,d0,rfl,rfl,h0⟩:=trodAll_one bl
 obtain⟨abX,agC,acy,rfl⟩:=okWide_slice Tryz.underlying35 (px 0 35 v0 rfl rfl)
 obtain⟨adF,MA⟩:=h0
 obtain⟨aal,acx,cs,Ei,agx,Md⟩:=aGb Ac 1 WG Tryz.underlying35 UX (λ_ _ _ h=>aGc h) MA
 simp [Value.cells] at Ei
 obtain⟨rfl,rfl,rfl⟩:=Ei
 exact awQ _ _ cs W Md ⟨aId rfl br,Vk rfl br,aHA lM⟩
set_option maxHeartbeats 4000000
theorem ayL:joinedFacts Tryz.pinned.checked.prog 6 Tryz.f6 (OpenSpec.ofChange Rows.fnReplaySpec).bare Rows.fnReplayRow= true:=by
 unfold joinedFacts
 iterate 23 (refine (Xa _ _).mpr ⟨?_,?_⟩)
 all_goals as_aux_lemma=>kernel_rfl
theorem aii:Tryz.pinned.checked.prog.funcNamed Rows.fnReplayRow.func= some 6:=PV
theorem ayN:Tryz.f6.isInstance Tryz.pinned.checked.prog Rows.fnReplayRow.origin Rows.fnReplayRow.targs:=of_decide_eq_true (by as_aux_lemma=>kernel_rfl)
theorem ayW:Tryz.f6.isWrapper Tryz.pinned.checked.prog Rows.fnReplayRow.wrapper Rows.fnReplayRow.mainSum:=by unfold Func.isWrapper;first | (rw [XX ZY];kernel_rfl) | (rw [XU ZY];exact⟨rfl,rfl⟩)
theorem ayU:Rows.FnReplaySaid:=
 OpenClaim.holds_of_cond 6 Tryz.f6 rfl rfl rfl rfl rfl rfl rfl ⟨rfl,rfl,rfl,rfl,rfl⟩ rfl rfl rfl rfl rfl aii Tryz.func6 ayL
  ayN ayW
  (λos started H enc _ F=>by rw [OpenClaim.pre_eq_preRow];exact ayO os started H enc F)
theorem ayP:Rows.fnReplayCard.stood.looks= Tryz.pinned.checked.prog.looks []:=PV
theorem ayS (f:FuncId) (fn:Func) (hf:Tryz.pinned.checked.prog.funcNamed Rows.fnReplayRow.func= some f) (GI:Tryz.pinned.checked.prog.funcs[f]? =some fn):
  Rows.fnReplayCard.stood.looks= Tryz.pinned.checked.prog.looks []/\∀(j:Nat) t,fn.params[j]? =some t->Tryz.pinned.checked.prog.wantsStandIn t= false:=by
 obtain rfl:f= 6:=Wx (aii.symm.trans hf) |>.symm
 obtain rfl:fn= Tryz.f6:=(Wx (Tryz.func6.symm.trans GI)).symm
 refine⟨ayP,λj t cJ=>?_⟩
 have my:Tryz.f6.params.toList.all (λt=>!Tryz.prog.wantsStandIn t)= true:=by as_aux_lemma=>kernel_rfl
 have hm:=YN.1 my t (Array.mem_toList_iff.2 (Array.mem_of_getElem? cJ))
 exact (YJ _).mp hm
theorem ayV:Rows.fnReplayRow.wfByText (OpenSpec.ofChange Rows.fnReplaySpec)= true:=PV
theorem ayQ:Tryz.pinned.checked.prog.mainIs= some (Rows.fnReplayCard.stood.harness.1,Rows.fnReplayCard.stood.harness.2.toList):=PV
theorem ayM:false= Rows.fnReplayRow.goesBy Tryz.pinned.checked.prog:=PV
theorem replay_holds:Rows.FnReplayCardSaid:=
 Claim7.holds_tied_plain_at .later [] _ _ _ _ ayU (λ_ h=>by cases h) ayV (λ_ h=>by cases h) fnReplay_row_tie rfl ⟨rfl,rfl⟩ ayQ rfl ayS ayM
#print axioms replay_holds
end Go.Proofs.YtlaaemmmbodaaaaGreatDoor
