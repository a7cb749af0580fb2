/- Parts. -/
import Derived.Test.YtlaaemmmbodaaaaGreatDoorFx9
set_option maxHeartbeats 16000000
set_option maxRecDepth 100000
set_option linter.all false
open Go Go.RowKit Go.Proofs.YtlaaemmmbodaaaaGreatDoor
variable {ah aI W:World} {A ak al:QR} {xs ws:List Int} {B N g k c2 c3:Nat} {e:TypeId} {cs:List UInt8} {vs:List Value} {tu se sp:Int} {ae:List aW} {u:Prop}
namespace Go.Proofs.YtlaaemmmbodaaaaGreatDoor
theorem cg (h:u:=by have:=aG.size;simp;omega):u:=h
structure Me (lo bo:Nat) (w:World) (A:Option Addr) (c:Nat) (xs:List Int):Prop where
 ej:aX 1 cE w A xs
 nil:A= none->xs= []/\c= 0
 aim:∀eH,A= some eH->0 < xs.length->lo<=eH.block/\eH.block < bo
theorem Me.kept {lo bo:Nat} {w:World} {c:Nat} (h:Me lo bo w A c xs) {row:Option Nat} (cy:w.grownBy ah row) (bu:∀k,row= some k->k < lo\/bo<=k):Me lo bo ah A c xs:=by
 refine⟨?_,h.nil,h.aim⟩
 by_cases bq:0 < xs.length
 .exact h.ej.grown cy (λeH de e=>by
   have h1:=h.aim eH de bq
   rcases bu _ e.symm with h2 | h2 <;> omega)
 .have:xs= []:=YD.1 KK
  subst this;exact aX.nil
theorem Me.of {w:World} {c:Nat} (h:bn B e 1 cE w (A xs c) xs):Me B w w A c xs:=
 ⟨h.ej,h.tK,λeH de _=>h.lt eH.block (by rw [de];rfl)⟩
theorem nR {w bm:World} {p:Nat} {row:Option Nat} (h:w.grownBy bm (some p)) (k:bm.grownBy aI row) (bu:∀g,row= some g->w.heap.size<=g):w.grownBy aI (some p):=
 ⟨k.os.trans h.os,k.tape.trans h.tape,k.output.trans h.output,Xr h.size k.size,λi bo ew=>
  (k.block i (YW bo h.size) (λe=>by have:=bu i e.symm;omega)).trans (h.block i bo ew)⟩
structure Two (B:Nat) (e:TypeId) (w:World) (y n:Value) (ys nC:List Int):Prop where
 aHK:bn B e 1 cE w y ys
 on:bn B e 1 cE w n nC
 ne:qA y n
section
variable {B:Nat} {e:TypeId} {w ah:World} {y n:Value} {ys nC:List Int}
theorem Two.kept (h:Two B e w y n ys nC) {p:Nat} (cy:w.grownBy ah (some p)) (aS:p < B):Two B e ah y n ys nC:=
 ⟨h.aHK.kept cy (λk ax e=>by have:=(h.aHK.lt k ax).1;have:=Wx e;omega),h.on.kept cy (λk ax e=>by have:=(h.on.lt k ax).1;have:=Wx e;omega),h.ne⟩
theorem Two.alloc (h:Two B e w y n ys nC) (o:Obj):Two B e (w.alloc o) y n ys nC:=⟨h.aHK.alloc o,h.on.alloc o,h.ne⟩
end
theorem gX.row {w:World} {p:Nat} {c:Nat} (h:gX w p A c cs N) {row:Option Nat} (cy:w.grownBy ah row) (bu:∀k,row= some k->p < k):gX ah p A c cs N:=by
 obtain⟨⟨i,s,bz,h0,h1⟩,bB,pv⟩:=h
 refine⟨⟨i,s,(cy.block p bz.lt (λe=>by have:=bu p e.symm;omega)).trans bz,h0,h1⟩,?_,pv⟩
 by_cases bq:0 < cs.length
 .exact bB.grown cy (λeH de e=>by have h1:=pv eH de bq;have h2:=bu _ e.symm;omega)
 .have:cs= []:=YD.1 KK
  subst this;exact aX.nil
theorem kW {w0 w:World} {p:Nat}  (h:er w g k vs W) (aG:w0.grownBy w (some p)) (cy:w0.heap.size<=g:=by omega):w0.grownBy W (some p):=nR aG h.eC (λq e=>by have:=Wx e;omega)
theorem bn.eh {T:Type} {sz:Nat} {f:T->List Value}  {w:World} {v:Value} {xs:List T}   (h:bn B e sz f w v xs) (s:er w g k vs W) (ew:∀q,v.ownBlock= some q->¬q= g:=by assumption):bn B e sz f W v xs:=h.cS s ew
theorem kV {w:World} {p:Nat}  {c:Nat}   (h:er w g k vs W) (aA:gX w p A c cs N) (cy:p < g:=by omega):gX W p A c cs N:=aA.row h.eC (λq e=>by have:=Wx e;omega)
theorem acu (w:World) (xs:List ByteArray) (hm:xs.length<=maxLen):aX 1 hh (w.alloc (.cells (xs.flatMap hh).toArray 9)) (some ⟨w,0,none⟩) xs:=(bn.Ou (B:=w) (cap:=xs.length) (ay.new w 9 _) (XZ _) (XZ _) hm (by simp [nQ jP]) (λi x av j u hu=>by simpa using Ek jP xs i x av j u hu) jP).ej (hf:=jP)
theorem akd (p:Nat) (A:QR) (c:Nat) (cs:List UInt8) (cK:cs) (N:Nat) (bU:N<=800000) (w:World) (aA:gX w p A c cs N):
 Rd 92 #[.pointer (some ⟨p,0,none⟩)] w λe ah=>∃s:ByteArray,e= .returned s/\s.size<=7/\Stepped w ah p A c cs (N + 2):=by
 go_in
 have aS:=aA.lt;have aG:=ht w (some p);have br:=acu w [(⟨#[109,97,105,110]⟩ :VU),(⟨#[116,97,98,108,101]⟩ :VU),(⟨#[97,100,106,111,117,114,110]⟩ :VU),(⟨#[97,109,101,110,100]⟩ :VU),(⟨#[114,101,99,101,115,115]⟩ :VU),(⟨#[114,101,102,101,114]⟩ :VU),(⟨#[108,105,109,105,116]⟩ :VU),(⟨#[99,97,108,108]⟩ :VU),(⟨#[97]⟩ :VU),(⟨#[98,121,108,97,119,115]⟩ :VU)] Yk
 replace br:=I br
 go_wp2_with fail
 refine (Kc Wn Wn cK KK (aA.aK ao) br.o (λeH h _=>by cases h;show w.heap.size≠p;omega)).mono ?_
 rintro e bm ⟨s,rfl,aP,ot⟩
 have fI:w.grownBy bm (some p):=bx (bL ao _) ot.2;replace aA:=ot.1;replace aG:=bx aG fI
 go_wp2
 go_ret
 have gd:s.size<=7:=by
  simp only [Xl,YT,or_false] at aP
  rcases aP with h | h | h | h | h | h | h | h | h | h <;> (subst h;decide)
 exact⟨s,rfl,gd,aA,aG⟩
theorem apF (w:World) (xs:List Int) (hm:xs.length<=maxLen):aX 1 cE (w.alloc (.cells (xs.flatMap cE).toArray 3)) (some ⟨w,0,none⟩) xs:=(bn.Ou (B:=w) (cap:=xs.length) (ay.new w 3 _) (XZ _) (XZ _) hm (by simp [nQ fR]) (λi x av j u hu=>by simpa using Ek fR xs i x av j u hu) fR).ej (hf:=fR)
theorem pd (w:World):Below w w w:=Wt _ _
theorem pQ (xs:List Int) (lo bo:Int) (av:∀x ∈ xs,lo<=x/\x<=bo) (h1:1<=xs.length) (h2:xs.length<=1000) {p:Nat} {c:Nat} (cK:cs) (bU:N<=900000) {w:World} (aA:gX w p A c cs N):
 Rd 75 #[.pointer (some ⟨p,0,none⟩),.slice w xs xs] (w.alloc (.cells (xs.flatMap cE).toArray 3)) λe ah=>∃y:Int,e= .returned y/\(lo<=y/\y<=bo)/\Stepped (w.alloc (.cells (xs.flatMap cE).toArray 3)) ah p A c cs (N + 2):=
 (api _ _ xs h1 h2 p A c cs cK N bU _ (aA.aK (bP _ _)) (apF w xs Xz) (λeH h _=>by cases h;have:=aA.lt;show w.heap.size≠p;omega)).mono λ_ _ ⟨s,h,aP,bJ⟩=>⟨s,h,av s aP,bJ⟩
theorem aHH (xs:List ByteArray) (z:Nat) (av:∀x ∈ xs,x.size<=z) (h1:1<=xs.length) (h2:xs.length<=1000) {p:Nat} {c:Nat} (cK:cs) (bU:N<=900000) {w:World} (aA:gX w p A c cs N):
 Rd 95 #[.pointer (some ⟨p,0,none⟩),.slice w xs xs] (w.alloc (.cells (xs.flatMap hh).toArray 9)) λe ah=>∃y:ByteArray,e= .returned y/\y.size<=z/\Stepped (w.alloc (.cells (xs.flatMap hh).toArray 9)) ah p A c cs (N + 2):=
 (Kc h1 h2 cK bU (aA.aK (bP _ _)) (acu w xs Xz) (λeH h _=>by cases h;have:=aA.lt;show w.heap.size≠p;omega)).mono λ_ _ ⟨s,h,aP,bJ⟩=>⟨s,h,av s aP,bJ⟩
theorem Xk {w b V:World} {p:Nat} {A:Option Addr} {c:Nat} {M:Nat} [Nonempty (PLift (Below b b V))] (j:Stepped V aI p A c cs M) (h:w.grownBy b (some p)):b.grownBy aI (some p)/\gX aI p A c cs M/\b.heap.size<=aI.heap.size/\w.grownBy aI (some p):=by
 have g:b.grownBy aI (some p):=bx (bL ao _) j.2
 exact⟨g,j.1,g.size,bx h g⟩
theorem YR {w b V aI:World} {p:Nat} {A:Option Addr} {c:Nat} {cs:List UInt8} {M:Nat} [Nonempty (PLift (Below b b V))] (j:Below V V aI) (k:gX b p A c cs M) (h:w.grownBy b (some p)):Below b b aI/\b.grownBy aI (some p)/\gX aI p A c cs M/\b.heap.size<=aI.heap.size/\w.grownBy aI (some p):=by
 have a:Below b b aI:=ai ao j
 have g:b.grownBy aI (some p):=bL a _
 exact⟨a,g,k.aK a,g.size,bx h g⟩
theorem akz (h:u:=by
 rintro e bm ⟨y,rfl,sJ,ot⟩
 obtain⟨fI,aA,nY,aG⟩:=Xk ot aG
 go_wp2
 go_ret
 exact⟨y,rfl,by omega,aA,aG⟩):u:=h
theorem RS (p:Nat) (A:QR) (c:Nat) (cs:List UInt8) (cK:cs) (N:Nat) (bU:N<=800000) (w:World) (aA:gX w p A c cs N):
 Rd 159 #[.pointer (some ⟨p,0,none⟩)] w λe ah=>∃y:Int,e= .returned y/\(0<=y/\y<=1000)/\Stepped w ah p A c cs (N + 2):=by
 go_in
 have aG:=ht w (some p)
 go_wp2_with fail
 refine (pQ [1,2,3,4,5,99,1,2,3,0,100] (0) 100 WG WG WG cK KK (aA.aK (pd _))).mono ?_
 exact akz
theorem ajP (p:Nat) (A:QR) (c:Nat) (cs:List UInt8) (cK:cs) (N:Nat) (bU:N<=800000) (w:World) (aA:gX w p A c cs N):
 Rd 289 #[.pointer (some ⟨p,0,none⟩)] w λe ah=>∃y:Int,e= .returned y/\(0<=y/\y<=1000)/\Stepped w ah p A c cs (N + 2):=by
 go_in
 have aG:=ht w (some p)
 go_wp2_with fail
 refine (pQ [0,1,2,3,5,9,10,20,40,999,1000] (0) 1000 WG WG WG cK KK (aA.aK (pd _))).mono ?_
 exact akz
theorem ais {p:Nat} {c:Nat} (cK:cs) (bU:N<=700000) {w:World} (aA:gX w p A c cs N):
 Rd 211 #[.pointer (some ⟨p,0,none⟩)] w λe ah=>∃r:aM,e= .returned (.agg (aM.cells r).toArray)/\r.name.size<=12/\Stepped w ah p A c cs (N + 30):=by
 go_in
 have aS:=aA.lt;have aG:=ht w (some p)
 go_upto_region 1 with fail
 refine Xi λbm bD J=>?_
 replace aA:=aA.aK bD;replace aG:=bx aG (bL bD (some p));have Gf:=J.lt;obtain⟨z0,bF,z2,z3,z4,z5,ek⟩:=J.ij
 go_wp2_with fail
 refine (iI 12 p A c cK (N + 0) KK KK _ (aA.aK ao)).mono ?_
 rintro e aI ⟨dM,rfl,⟨EC,_,rW⟩,jF⟩
 clear z0 bF z2 z3 z4 z5 ek;obtain⟨eI,aA,sj,aG⟩:=Xk jF aG;replace J:=J.bV eI;obtain⟨z0,bF,z2,z3,z4,z5,ek⟩:=J.ij;replace rW:=rW KK
 go_wp2_with fail
 refine (akd p A c cs cK (N + 2) KK _ (aA.aK ao)).mono ?_
 rintro e bw ⟨nm,rfl,aet,mi⟩
 clear z0 bF z2 z3 z4 z5 ek;obtain⟨hH,aA,uV,aG⟩:=Xk mi aG;replace J:=J.bV hH;obtain⟨z0,bF,z2,z3,z4,z5,ek⟩:=J.ij
 go_wp2_with fail
 refine (iI 10 p A c cK (N + 4) KK KK _ (aA.aK ao)).mono ?_
 rintro e bH ⟨rk,rfl,⟨asI,_,aez⟩,mL⟩
 clear z0 bF z2 z3 z4 z5 ek;obtain⟨ed,aA,yj,aG⟩:=Xk mL aG;replace J:=J.bV ed;obtain⟨z0,bF,z2,z3,z4,z5,ek⟩:=J.ij
 go_wp2_with fail
 refine (uR 2 p A c cs cK (N + 6) KK KK _ (aA.aK ao)).mono ?_
 rintro e cO ⟨dT,rfl,jw⟩
 clear z0 bF z2 z3 z4 z5 ek;obtain⟨fw,aA,ti,aG⟩:=Xk jw aG;replace J:=J.bV fw;obtain⟨z0,bF,z2,z3,z4,z5,ek⟩:=J.ij
 go_wp2_with fail
 refine (uR 2 p A c cs cK (N + 8) KK KK _ (aA.aK ao)).mono ?_
 rintro e dk ⟨hq,rfl,jd⟩
 clear z0 bF z2 z3 z4 z5 ek;obtain⟨fx,aA,uW,aG⟩:=Xk jd aG;replace J:=J.bV fx;obtain⟨z0,bF,z2,z3,z4,z5,ek⟩:=J.ij
 go_wp2_with fail
 refine (uR 2 p A c cs cK (N + 10) KK KK _ (aA.aK ao)).mono ?_
 rintro e fS ⟨am,rfl,pk⟩
 clear z0 bF z2 z3 z4 z5 ek;obtain⟨kt,aA,Dy,aG⟩:=Xk pk aG;replace J:=J.bV kt;obtain⟨z0,bF,z2,z3,z4,z5,ek⟩:=J.ij
 go_wp2_with fail
 refine (iI 3 p A c cK (N + 12) KK KK _ (aA.aK ao)).mono ?_
 rintro e du ⟨r2,rfl,⟨QZ,_,xP⟩,mM⟩
 clear z0 bF z2 z3 z4 z5 ek;obtain⟨gy,aA,yk,aG⟩:=Xk mM aG;replace J:=J.bV gy;obtain⟨z0,bF,z2,z3,z4,z5,ek⟩:=J.ij;replace xP:=xP KK
 obtain⟨id,hid⟩ :∃x,x= 1 + dM:=⟨_,rfl⟩
 obtain⟨dz,Bb⟩ :∃x,x= 1 + r2:=⟨_,rfl⟩
 go_upto_region 2 with fail
 rw [<- hid,<- Bb]
 clear hid Bb
 replace aet:nm.size<=12:=KK
 refine Xi λpG eJ br=>?_
 replace aA:=aA.aK eJ;replace aG:=bx aG (bL eJ (some p));clear z0 bF z2 z3 z4 z5 ek;replace J:=J.bV (bL eJ (some p));obtain⟨z0,bF,z2,z3,z4,z5,ek⟩:=J.ij;have eG:=br.ij
 go_wp2_with fail
 refine (iI 24 p A c cK (N + 14) KK KK _ (aA.aK ao)).mono ?_
 rintro e fH ⟨r,rfl,⟨vw,_,nv⟩,jc⟩
 clear z0 bF z2 z3 z4 z5 ek;have ds:pG.grownBy fH (some p):=bx (bL ao _) jc.2;replace aA:=jc.1;replace aG:=bx aG ds;replace J:=J.bV ds;replace br:=br.bV ds;obtain⟨z0,bF,z2,z3,z4,z5,ek⟩:=J.ij;replace eG:=br.ij;replace nv:=nv KK
 rcases (show r= 0\/r= 1\/r= 2\/r= 3\/3 < r by omega) with rfl | rfl | rfl | rfl | JD
 case' inl=>
  go_wp2_with fail
  refine (pQ [0,20,21] (0) 21 WG WG WG cK KK (aA.aK (pd _))).mono ?_
  rintro e ib ⟨id,rfl,aDE,lu⟩
  clear z0 bF z2 z3 z4 z5 ek;have fN:fH.grownBy ib (some p):=bx (bL ao _) lu.2;replace aA:=lu.1;replace aG:=bx aG fN;replace J:=J.bV fN;replace br:=br.bV fN;obtain⟨z0,bF,z2,z3,z4,z5,ek⟩:=J.ij;replace eG:=br.ij;have yT:=br.frozen 0
  go_upto_region 11 with fail
  clear yT;clear z0 bF z2 z3 z4 z5 ek;clear eG;replace aG:w.grownBy (World.setCell ib ⟨du,0,none⟩ (.int .i64 id)) (some p):=(il aG (g:=du) KK 0 (.int .i64 id));replace aA:=(aA.store (g:=du) KK 0 (.int .i64 id));replace J:=J.nf (fZ (j:=0) (ht ib (some du)) (.int .i64 id)) KK;replace br:ay (World.setCell ib ⟨du,0,none⟩ (.int .i64 id)) du 89 #[id,nm,rk,dT,hq,am,dz]:=(br.ey 0 (.int .i64 id))
  generalize World.setCell ib ⟨du,0,none⟩ (.int .i64 id)= ly at *
  obtain⟨z0,bF,z2,z3,z4,z5,ek⟩:=J.ij;have eG:=br.ij;replace aA:=aA.mono (M:=N + 30) KK
 case' inr.inl=>
  go_wp2_with fail
  refine (aHH [(⟨#[]⟩ :VU),(⟨#[97,98,99,100,101,102,103,104,105,106]⟩ :VU),(⟨#[97,98,99,100,101,102,103,104,105,106,107]⟩ :VU),(⟨#[65]⟩ :VU),(⟨#[97,32,98]⟩ :VU)] 12 WG WG WG cK KK (aA.aK (pd _))).mono ?_
  rintro e ib ⟨nm,rfl,aet,lu⟩
  clear z0 bF z2 z3 z4 z5 ek;have fN:fH.grownBy ib (some p):=bx (bL ao _) lu.2;replace aA:=lu.1;replace aG:=bx aG fN;replace J:=J.bV fN;replace br:=br.bV fN;obtain⟨z0,bF,z2,z3,z4,z5,ek⟩:=J.ij;replace eG:=br.ij;have Gs:=br.frozen 1
  go_upto_region 11 with fail
  clear Gs;clear z0 bF z2 z3 z4 z5 ek;clear eG;replace aG:w.grownBy (World.setCell ib ⟨du,1,none⟩ (.string nm)) (some p):=(il aG (g:=du) KK 1 (.string nm));replace aA:=(aA.store (g:=du) KK 1 (.string nm));replace J:=J.nf (fZ (j:=1) (ht ib (some du)) (.string nm)) KK;replace br:ay (World.setCell ib ⟨du,1,none⟩ (.string nm)) du 89 #[id,nm,rk,dT,hq,am,dz]:=(br.ey 1 (.string nm))
  generalize World.setCell ib ⟨du,1,none⟩ (.string nm)= ly at *
  obtain⟨z0,bF,z2,z3,z4,z5,ek⟩:=J.ij;have eG:=br.ij;replace aA:=aA.mono (M:=N + 30) KK
 case' inr.inr.inl=>
  go_wp2_with fail
  refine (pQ [-1,9,10] (-1) 10 WG WG WG cK KK (aA.aK (pd _))).mono ?_
  rintro e ib ⟨rk,rfl,asI,lu⟩
  clear z0 bF z2 z3 z4 z5 ek;have fN:fH.grownBy ib (some p):=bx (bL ao _) lu.2;replace aA:=lu.1;replace aG:=bx aG fN;replace J:=J.bV fN;replace br:=br.bV fN;obtain⟨z0,bF,z2,z3,z4,z5,ek⟩:=J.ij;replace eG:=br.ij;have sC:=br.frozen 2
  go_upto_region 11 with fail
  clear sC;clear z0 bF z2 z3 z4 z5 ek;clear eG;replace aG:w.grownBy (World.setCell ib ⟨du,2,none⟩ (.int .i64 rk)) (some p):=(il aG (g:=du) KK 2 (.int .i64 rk));replace aA:=(aA.store (g:=du) KK 2 (.int .i64 rk));replace J:=J.nf (fZ (j:=2) (ht ib (some du)) (.int .i64 rk)) KK;replace br:ay (World.setCell ib ⟨du,2,none⟩ (.int .i64 rk)) du 89 #[id,nm,rk,dT,hq,am,dz]:=(br.ey 2 (.int .i64 rk))
  generalize World.setCell ib ⟨du,2,none⟩ (.int .i64 rk)= ly at *
  obtain⟨z0,bF,z2,z3,z4,z5,ek⟩:=J.ij;have eG:=br.ij;replace aA:=aA.mono (M:=N + 30) KK
 case' inr.inr.inr.inl=>
  go_wp2_with fail
  refine (pQ [0,4] (0) 4 WG WG WG cK KK (aA.aK (pd _))).mono ?_
  rintro e ib ⟨dz,rfl,aDH,lu⟩
  clear z0 bF z2 z3 z4 z5 ek;have fN:fH.grownBy ib (some p):=bx (bL ao _) lu.2;replace aA:=lu.1;replace aG:=bx aG fN;replace J:=J.bV fN;replace br:=br.bV fN;obtain⟨z0,bF,z2,z3,z4,z5,ek⟩:=J.ij;replace eG:=br.ij;have arb:=br.frozen 6
  go_upto_region 11 with fail
  clear arb;clear z0 bF z2 z3 z4 z5 ek;clear eG;replace aG:w.grownBy (World.setCell ib ⟨du,6,none⟩ (.int .i64 dz)) (some p):=(il aG (g:=du) KK 6 (.int .i64 dz));replace aA:=(aA.store (g:=du) KK 6 (.int .i64 dz));replace J:=J.nf (fZ (j:=6) (ht ib (some du)) (.int .i64 dz)) KK;replace br:ay (World.setCell ib ⟨du,6,none⟩ (.int .i64 dz)) du 89 #[id,nm,rk,dT,hq,am,dz]:=(br.ey 6 (.int .i64 dz))
  generalize World.setCell ib ⟨du,6,none⟩ (.int .i64 dz)= ly at *
  obtain⟨z0,bF,z2,z3,z4,z5,ek⟩:=J.ij;have eG:=br.ij;replace aA:=aA.mono (M:=N + 30) KK
 case' inr.inr.inr.inr=>
  have g0:(r == 0)= false:=Xb.2 KK;have g1:(r == 1)= false:=Xb.2 KK;have g2:(r == 2)= false:=Xb.2 KK;have g3:(r == 3)= false:=Xb.2 KK
  go_upto_region 11 with fail
  replace aA:=aA.mono (M:=N + 30) KK
  generalize fH= ly at *
 all_goals
  have eg:=J.Jh
  go_wp2
  clear z0 bF z2 z3 z4 z5 ek;clear eG;replace aG:w.grownBy (World.setCell (World.setCell (World.setCell (World.setCell (World.setCell (World.setCell (World.setCell ly ⟨w,0,none⟩ (.int .i64 id)) ⟨w,1,none⟩ (.string nm)) ⟨w,2,none⟩ (.int .i64 rk)) ⟨w,3,none⟩ (.bool dT)) ⟨w,4,none⟩ (.bool hq)) ⟨w,5,none⟩ (.bool am)) ⟨w,6,none⟩ (.int .i64 dz)) (some p):=(il (il (il (il (il (il (il aG (g:=w) KK 0 (.int .i64 id)) (g:=w) KK 1 (.string nm)) (g:=w) KK 2 (.int .i64 rk)) (g:=w) KK 3 (.bool dT)) (g:=w) KK 4 (.bool hq)) (g:=w) KK 5 (.bool am)) (g:=w) KK 6 (.int .i64 dz))
  replace aA:=(((((((aA.store (g:=w) KK 0 (.int .i64 id)).store (g:=w) KK 1 (.string nm)).store (g:=w) KK 2 (.int .i64 rk)).store (g:=w) KK 3 (.bool dT)).store (g:=w) KK 4 (.bool hq)).store (g:=w) KK 5 (.bool am)).store (g:=w) KK 6 (.int .i64 dz));replace J:ay (World.setCell (World.setCell (World.setCell (World.setCell (World.setCell (World.setCell (World.setCell ly ⟨w,0,none⟩ (.int .i64 id)) ⟨w,1,none⟩ (.string nm)) ⟨w,2,none⟩ (.int .i64 rk)) ⟨w,3,none⟩ (.bool dT)) ⟨w,4,none⟩ (.bool hq)) ⟨w,5,none⟩ (.bool am)) ⟨w,6,none⟩ (.int .i64 dz)) w 89 #[id,nm,rk,dT,hq,am,dz]:=(((((((J.ey 0 (.int .i64 id)).ey 1 (.string nm)).ey 2 (.int .i64 rk)).ey 3 (.bool dT)).ey 4 (.bool hq)).ey 5 (.bool am)).ey 6 (.int .i64 dz))
  generalize World.setCell (World.setCell (World.setCell (World.setCell (World.setCell (World.setCell (World.setCell ly ⟨w,0,none⟩ (.int .i64 id)) ⟨w,1,none⟩ (.string nm)) ⟨w,2,none⟩ (.int .i64 rk)) ⟨w,3,none⟩ (.bool dT)) ⟨w,4,none⟩ (.bool hq)) ⟨w,5,none⟩ (.bool am)) ⟨w,6,none⟩ (.int .i64 dz)= cP at *
  have z0:=J.ij
  refine XY (v:= .agg #[id,nm,rk,dT,hq,am,dz]) (by simp [results,Tryz.results211,go_sem,z0]) rfl ?_
  refine⟨⟨id,nm,rk,dT,hq,am,dz,by unfold maxLen;omega⟩,rfl,by assumption,aA,aG⟩
theorem Mp {L:QR} {lc:Nat} {xs:List aM} (av:xs.length<=1000) (p:Nat) (A:QR) (c:Nat) (cK:cs) (N:Nat) (bU:N<=800000) {w:World} (aA:gX w p A c cs N) (R:aX 7 aM.cells w L xs) (br:∀eH,L= some eH->0 < xs.length->eH.block≠p):
 Rd 158 #[.pointer (some ⟨p,0,none⟩),L xs lc] w λe ah=>∃y:Int,e= .returned y/\Stepped w ah p A c cs (N + 4):=by
 replace R:=I R
 by_cases h0:xs.length= 0
 .obtain rfl:=YD.1 h0
  clear h0
  go_in
  have aG:=ht w (some p)
  go_wp2_with fail
  refine (iI 22 p A c cK (N + 0) KK KK _ (aA.aK ao)).mono ?_
  rintro e bm ⟨y,rfl,⟨sJ,_,dC⟩,ot⟩
  have fI:w.grownBy bm (some p):=bx (bL ao _) ot.2;replace aA:=ot.1;replace aG:=bx aG fI
  go_wp2
  go_ret
  exact⟨y,rfl,aA.mono KK,aG⟩
 .have g0:((xs.length:Int) == 0)= false:=Xb.2 KK
  go_in
  have aG:=ht w (some p)
  go_wp2_with fail
  refine (uR 8 p A c cs cK (N + 0) KK KK _ (aA.aK ao)).mono ?_
  rintro e bm ⟨b,rfl,ot⟩
  have fI:w.grownBy bm (some p):=bx (bL ao _) ot.2;replace aA:=ot.1;replace aG:=bx aG fI
  cases b
  .have vI:((xs.length:Nat):Int)<=1000000000:=KK
   go_wp2_with fail
   refine (iI (xs.length:Int) p A c cK (N + 2) KK KK _ (aA.aK ao)).mono ?_
   rintro e aI ⟨r,rfl,⟨pX,gR,nk⟩,jF⟩
   have eI:bm.grownBy aI (some p):=bx (bL ao _) jF.2;replace aA:=jF.1;replace aG:=bx aG eI
   have bu:r < xs.length:=by
    by_cases h1:(1:Int) < xs.length
    .exact nk h1
    .rw [gR KK];omega
   obtain⟨k,rfl⟩ :∃k:Nat,r= k:=⟨r.toNat,by omega⟩
   have ax:k < xs.length:=KK
   obtain⟨b,off,x,rfl,eN,zK,bO⟩:=(mE R.o aG br).at_ (Wt _ _) ax
   have f0:=bO 0 _ rfl (aD.self _)
   simp only [XW,aD.self] at f0
   clear zK bO gR nk
   go_wp2
   go_ret
   exact⟨x.id,rfl,aA.mono KK,aG⟩
  .go_wp2_with fail
   refine (iI 22 p A c cK (N + 2) KK KK _ (aA.aK ao)).mono ?_
   rintro e aI ⟨y,rfl,⟨sJ,_,dC⟩,jF⟩
   have eI:bm.grownBy aI (some p):=bx (bL ao _) jF.2;replace aA:=jF.1;replace aG:=bx aG eI
   go_wp2
   go_ret
   exact⟨y,rfl,aA.mono KK,aG⟩
theorem aBD (p:Nat) (A:QR) (c:Nat) (cs:List UInt8) (cK:cs) (N:Nat) (bU:N<=700000) (w:World) (aA:gX w p A c cs N):
 Rd 237 #[.pointer (some ⟨p,0,none⟩)] w λe ah=>∃iQ no ab:Int,e= .returned (.agg #[iQ,no,ab])/\Stepped w ah p A c cs (N + 20):=by
 go_in
 have aS:=aA.lt;have aG:=ht w (some p)
 go_upto_region 1 with fail
 refine Xi λbm bD J=>?_
 replace aA:=aA.aK bD;replace aG:=bx aG (bL bD (some p));have Gf:=J.lt;have af:=J.cb
 go_wp2_with fail
 refine (ajP p A c cs cK N KK _ (aA.aK ao)).mono ?_
 rintro e aI ⟨iQ,rfl,aIq,jF⟩
 obtain⟨eI,aA,sj,aG⟩:=Xk jF aG;replace J:=J.bV eI;replace af:=J.cb
 go_wp2_with fail
 refine (ajP p A c cs cK (N + 2) KK _ (aA.aK ao)).mono ?_
 rintro e bw ⟨no,rfl,QX,mi⟩
 obtain⟨hH,aA,uV,aG⟩:=Xk mi aG;replace J:=J.bV hH;replace af:=J.cb
 go_wp2_with fail
 refine (pQ [0,0,1,7,1000] (0) 1000 WG WG WG cK KK (aA.aK (pd _))).mono ?_
 rintro e bH ⟨ab,rfl,aIp,mL⟩
 obtain⟨ed,aA,yj,aG⟩:=Xk mL aG;replace J:=J.bV ed;replace af:=J.cb
 go_upto_region 2 with fail
 clear aIq aIp;refine Xi λpG eM br=>?_
 replace aA:=aA.aK eM;replace aG:=bx aG (bL eM (some p));replace J:=J.bV (bL eM (some p));replace af:=J.cb
 have gC:=br.cb
 go_wp2_with fail
 refine (iI 6 p A c cK (N + 6) KK KK _ (aA.aK ao)).mono ?_
 rintro e dk ⟨r,rfl,⟨vw,_,nv⟩,jd⟩
 have fx:pG.grownBy dk (some p):=bx (bL ao _) jd.2;replace aA:=jd.1;replace aG:=bx aG fx;replace J:=J.bV fx;replace br:=br.bV fx;replace af:=J.cb
 replace gC:=br.cb
 replace nv:=nv KK
 rcases (show r= 0\/r= 1\/r= 2\/2 < r by omega) with rfl | rfl | rfl | JD
 case' inl=>
  have yT:=br.frozen 0
  go_upto_region 9 with fail
  clear yT;clear af;clear gC;replace aG:w.grownBy (World.setCell dk ⟨bH,0,none⟩ (.int .i64 no)) (some p):=(il aG (g:=bH) KK 0 (.int .i64 no));replace aA:=(aA.store (g:=bH) KK 0 (.int .i64 no));replace J:=J.nf (fZ (j:=0) (ht dk (some bH)) (.int .i64 no)) KK;replace br:ay (World.setCell dk ⟨bH,0,none⟩ (.int .i64 no)) bH 146 #[no,no,ab]:=(br.ey 0 (.int .i64 no))
  generalize World.setCell dk ⟨bH,0,none⟩ (.int .i64 no)= ly at *
  obtain⟨iQ,uL⟩ :∃x,x= no:=⟨_,rfl⟩
  replace br:ay ly bH 146 #[iQ,no,ab]:=uL ▸ br;clear uL QX
 case' inr.inl=>
  obtain⟨iQ,uL⟩ :∃x,x= if (1000:Int) < 2 * no then 1000 else 2 * no:=⟨_,rfl⟩
  go_upto_region 6 with fail
  go_wp2_with fail
  refine (XL iQ uL _).mono ?_
  rintro e w0 ⟨rfl,h0⟩
  rw [h0]
  clear h0 w0;clear uL;have yT:=br.frozen 0
  go_upto_region 9 with fail
  clear yT;clear af;clear gC;replace aG:w.grownBy (World.setCell dk ⟨bH,0,none⟩ (.int .i64 iQ)) (some p):=(il aG (g:=bH) KK 0 (.int .i64 iQ));replace aA:=(aA.store (g:=bH) KK 0 (.int .i64 iQ));replace J:=J.nf (fZ (j:=0) (ht dk (some bH)) (.int .i64 iQ)) KK;replace br:ay (World.setCell dk ⟨bH,0,none⟩ (.int .i64 iQ)) bH 146 #[iQ,no,ab]:=(br.ey 0 (.int .i64 iQ))
  generalize World.setCell dk ⟨bH,0,none⟩ (.int .i64 iQ)= ly at *
  clear QX
 case' inr.inr.inl=>
  have Gs:=br.frozen 1
  go_upto_region 9 with fail
  clear Gs QX
  obtain⟨no,ha⟩ :∃x,x= (0:Int):=⟨_,rfl⟩
  rw [<- ha]
  clear af;clear gC;replace aG:w.grownBy (World.setCell dk ⟨bH,1,none⟩ (.int .i64 no)) (some p):=(il aG (g:=bH) KK 1 (.int .i64 no));replace aA:=(aA.store (g:=bH) KK 1 (.int .i64 no));replace J:=J.nf (fZ (j:=1) (ht dk (some bH)) (.int .i64 no)) KK;replace br:ay (World.setCell dk ⟨bH,1,none⟩ (.int .i64 no)) bH 146 #[iQ,no,ab]:=(br.ey 1 (.int .i64 no))
  generalize World.setCell dk ⟨bH,1,none⟩ (.int .i64 no)= ly at *
  clear ha
 case' inr.inr.inr=>
  have g0:(r == 0)= false:=Xb.2 KK;have g1:(r == 1)= false:=Xb.2 KK;have g2:(r == 2)= false:=Xb.2 KK
  go_upto_region 9 with fail
  generalize dk= ly at *
  clear g0 g1 g2 JD QX
 all_goals
  go_wp2_with fail
  refine (iI 24 p A c cK (N + 8) KK KK _ (aA.aK ao)).mono ?_
  rintro e fS ⟨v,rfl,⟨hW,_,Jv⟩,pk⟩
  have kt:ly.grownBy fS (some p):=bx (bL ao _) pk.2;replace aA:=pk.1;replace aG:=bx aG kt;replace J:=J.bV kt;replace br:=br.bV kt;replace af:=J.cb
  replace gC:=br.cb
  replace Jv:=Jv KK
  rcases (show v= 0\/v= 1\/1 < v by omega) with rfl | rfl | JD
  case' inl=>
   go_wp2_with fail
   refine (pQ [-1,1001] (-1) 1001 WG WG WG cK KK (aA.aK (pd _))).mono ?_
   rintro e du ⟨iQ,rfl,aIq,mM⟩
   have gy:fS.grownBy du (some p):=bx (bL ao _) mM.2;replace aA:=mM.1;replace aG:=bx aG gy;replace J:=J.bV gy;replace br:=br.bV gy;replace af:=J.cb
   replace gC:=br.cb
   have yT:=br.frozen 0
   go_upto_region 14 with fail
   clear yT;clear af;clear gC;replace aG:w.grownBy (World.setCell du ⟨bH,0,none⟩ (.int .i64 iQ)) (some p):=(il aG (g:=bH) KK 0 (.int .i64 iQ));replace aA:=(aA.store (g:=bH) KK 0 (.int .i64 iQ));replace J:=J.nf (fZ (j:=0) (ht du (some bH)) (.int .i64 iQ)) KK;replace br:ay (World.setCell du ⟨bH,0,none⟩ (.int .i64 iQ)) bH 146 #[iQ,no,ab]:=(br.ey 0 (.int .i64 iQ))
   generalize World.setCell du ⟨bH,0,none⟩ (.int .i64 iQ)= yq at *
   have af:=J.cb
   have gC:=br.cb
   replace aA:=aA.mono (M:=N + 20) KK
  case' inr.inl=>
   go_wp2_with fail
   refine (pQ [-1,1001] (-1) 1001 WG WG WG cK KK (aA.aK (pd _))).mono ?_
   rintro e du ⟨ab,rfl,aIp,mM⟩
   have gy:fS.grownBy du (some p):=bx (bL ao _) mM.2;replace aA:=mM.1;replace aG:=bx aG gy;replace J:=J.bV gy;replace br:=br.bV gy;replace af:=J.cb
   replace gC:=br.cb
   have sC:=br.frozen 2
   go_upto_region 14 with fail
   clear sC;clear af;clear gC;replace aG:w.grownBy (World.setCell du ⟨bH,2,none⟩ (.int .i64 ab)) (some p):=(il aG (g:=bH) KK 2 (.int .i64 ab));replace aA:=(aA.store (g:=bH) KK 2 (.int .i64 ab));replace J:=J.nf (fZ (j:=2) (ht du (some bH)) (.int .i64 ab)) KK;replace br:ay (World.setCell du ⟨bH,2,none⟩ (.int .i64 ab)) bH 146 #[iQ,no,ab]:=(br.ey 2 (.int .i64 ab))
   generalize World.setCell du ⟨bH,2,none⟩ (.int .i64 ab)= yq at *
   have af:=J.cb
   have gC:=br.cb
   replace aA:=aA.mono (M:=N + 20) KK
  case' inr.inr=>
   have g0:(v == 0)= false:=Xb.2 KK;have g1:(v == 1)= false:=Xb.2 KK
   go_upto_region 14 with fail
   replace aA:=aA.mono (M:=N + 20) KK
   generalize fS= yq at *
   clear g0 g1 JD
  all_goals
   have eg:=J.kH
   go_wp2
   clear af;clear gC;replace aG:w.grownBy (World.setCell (World.setCell (World.setCell yq ⟨w,0,none⟩ (.int .i64 iQ)) ⟨w,1,none⟩ (.int .i64 no)) ⟨w,2,none⟩ (.int .i64 ab)) (some p):=(il (il (il aG (g:=w) KK 0 (.int .i64 iQ)) (g:=w) KK 1 (.int .i64 no)) (g:=w) KK 2 (.int .i64 ab))
   replace aA:=(((aA.store (g:=w) KK 0 (.int .i64 iQ)).store (g:=w) KK 1 (.int .i64 no)).store (g:=w) KK 2 (.int .i64 ab));replace J:ay (World.setCell (World.setCell (World.setCell yq ⟨w,0,none⟩ (.int .i64 iQ)) ⟨w,1,none⟩ (.int .i64 no)) ⟨w,2,none⟩ (.int .i64 ab)) w 146 #[iQ,no,ab]:=(((J.ey 0 (.int .i64 iQ)).ey 1 (.int .i64 no)).ey 2 (.int .i64 ab))
   replace br:=br.nf (fZ (j:=2) (fZ (j:=1) (fZ (j:=0) (ht yq (some w)) (.int .i64 iQ)) (.int .i64 no)) (.int .i64 ab)) KK
   generalize World.setCell (World.setCell (World.setCell yq ⟨w,0,none⟩ (.int .i64 iQ)) ⟨w,1,none⟩ (.int .i64 no)) ⟨w,2,none⟩ (.int .i64 ab)= cP at *
   have af:=J.cb
   exact hV ⟨iQ,no,ab,rfl,aA,aG⟩ (by simp [results,Tryz.results237,go_sem,af])
structure PW (p:Nat) (aq au:Option Addr) (rs:List aM) (qs:List aZ):Prop where
 a0:∀eH,aq= some eH->0 < rs.length->eH.block≠p
 a1:∀eH,au= some eH->0 < qs.length->eH.block≠p
theorem abZ {aq au aF:QR} {c0 aw c4:Nat} {rs:List aM} {qs:List aZ} {os:List Out} (h0:rs.length<=1000) (h1:qs.length<=1000) {p:Nat} {c:Nat} (cK:cs) (bU:N<=600000) {w:World} (aA:gX w p A c cs N) (bk:aX 7 aM.cells w aq rs) (bg:aX 3 aZ.cells w au qs) (Q:PW p aq au rs qs):
 Rd 155 #[.pointer (some ⟨p,0,none⟩),.agg #[aq rs c0,au qs aw,tu,se,sp,ak ws c2,al ae c3,aF os c4]] w λe ah=>∃lj jK qt iQ no ab:Int,e= .returned (.agg #[lj,jK,qt,iQ,no,ab])/\Stepped w ah p A c cs (N + 60):=by
 have gu:=I bk;have mI:=I bg;have eS:=I Q;have gi:=I (Of rs qs);clear bk bg Q
 go_in
 have aS:=aA.lt;have aG:=ht w (some p)
 go_upto_region 1 with fail
 have bD:Below w w (World.alloc (World.alloc w (.cells #[aq rs c0,au qs aw,tu,se,sp,ak ws c2,al ae c3,aF os c4] 44)) (.cells #[(0:Int),(0:Int),(0:Int),(0:Int),(0:Int),(0:Int)] 148)):=IU w _ _
 have aC:ay (World.alloc (World.alloc w (.cells #[aq rs c0,au qs aw,tu,se,sp,ak ws c2,al ae c3,aF os c4] 44)) (.cells #[(0:Int),(0:Int),(0:Int),(0:Int),(0:Int),(0:Int)] 148)) w 44 #[aq rs c0,au qs aw,tu,se,sp,ak ws c2,al ae c3,aF os c4]:=by repeat (first | exact ay.new _ _ _ | exact ay.HB _ _ _ _ | exact ay.JZ _ _ _ _ _ | exact ay.Ok _ _ _ _ _ _ | refine ay.alloc ?_ _)
 have J:ay (World.alloc (World.alloc w (.cells #[aq rs c0,au qs aw,tu,se,sp,ak ws c2,al ae c3,aF os c4] 44)) (.cells #[(0:Int),(0:Int),(0:Int),(0:Int),(0:Int),(0:Int)] 148)) (w.heap.size + 1) 148 #[(0:Int),(0:Int),(0:Int),(0:Int),(0:Int),(0:Int)]:=by repeat (first | exact ay.new _ _ _ | exact ay.HB _ _ _ _ | exact ay.JZ _ _ _ _ _ | exact ay.Ok _ _ _ _ _ _ | refine ay.alloc ?_ _)
 generalize World.alloc (World.alloc w (.cells #[aq rs c0,au qs aw,tu,se,sp,ak ws c2,al ae c3,aF os c4] 44)) (.cells #[(0:Int),(0:Int),(0:Int),(0:Int),(0:Int),(0:Int)] 148)= bm at *
 replace aA:=aA.aK bD;replace aG:=bx aG (bL bD (some p));have nY:=bD.size;have abJ:=aC.lt;have dI:=aC.aH;have Gf:=J.lt;have af:=J.cX
 go_wp2_with fail
 refine (pQ [1,1,2,2,3,3,4,4,5,6,7,7,8,9] (1) 9 WG WG WG cK KK (aA.aK (pd _))).mono ?_
 rintro e aI ⟨lj,rfl,asE,jF⟩
 clear dI;clear af;obtain⟨eI,aA,sj,aG⟩:=Xk jF aG;replace aC:=aC.bV eI;replace J:=J.bV eI;have dI:=aC.aH;have af:=J.cX
 go_wp2_with fail
 refine (iI 5 p A c cK (N + 2) KK KK _ (aA.aK ao)).mono ?_
 rintro e bw ⟨dM,rfl,⟨EC,_,rW⟩,mi⟩
 clear dI;clear af;obtain⟨hH,aA,uV,aG⟩:=Xk mi aG;replace aC:=aC.bV hH;replace J:=J.bV hH;have dI:=aC.aH;have af:=J.cX;replace rW:=rW KK
 obtain⟨jK,lg⟩ :∃x,x= 1 + dM:=⟨_,rfl⟩
 go_upto_region 2 with fail
 rw [<- lg]
 clear lg EC rW;refine Xi λpG db br=>?_
 replace aA:=aA.aK db;replace aG:=bx aG (bL db (some p));clear dI;replace aC:=aC.bV (bL db (some p));have dI:=aC.aH;clear af;replace J:=J.bV (bL db (some p));have af:=J.cX;have yj:=db.size;have aIw:=br.lt;have eG:=br.cX;clear eG
 obtain⟨qt,CV⟩ :∃x:Int,x= 0:=⟨_,rfl⟩
 obtain⟨iQ,uL⟩ :∃x:Int,x= 0:=⟨_,rfl⟩
 obtain⟨no,ha⟩ :∃x:Int,x= 0:=⟨_,rfl⟩
 obtain⟨ab,EB⟩ :∃x:Int,x= 0:=⟨_,rfl⟩
 replace br:ay pG bw 148 #[lj,jK,qt,iQ,no,ab]:=by rw [CV,uL,ha,EB];exact br
 clear CV uL ha EB;have eG:=br.cX
 rcases (show (lj= 1/\ee rs qs= false)\/(lj= 1/\ee rs qs= true/\¬0 < (gD rs qs).length)\/(lj= 1/\ee rs qs= true/\0 < (gD rs qs).length)\/lj= 5\/lj= 7\/(lj≠1/\lj≠5/\lj≠7) by
  by_cases e1:lj= 1
  .cases ee rs qs <;> by_cases e2:0 < (gD rs qs).length <;> simp [e1,e2]
  .by_cases e5:lj= 5
   .simp [e5]
   .by_cases e7:lj= 7 <;> simp [e1,e5,e7]) with ⟨e1,cy⟩ | ⟨e1,cy,aT⟩ | ⟨e1,cy,aT⟩ | e1 | e1 | ⟨e1,e5,e7⟩
 case' inl=>
  have g1:(lj == 1)= true:=Xx.2 e1;replace cy:=I cy;clear e1
  go_wp2_with fail
  refine (Mp h0 p A c cK (N + 4) KK (aA.aK ao) (mE gu.o aG eS.o.a0) eS.o.a0).mono ?_
  rintro e cO ⟨qt,rfl,jw⟩
  clear dI;clear af;clear eG;obtain⟨fw,aA,ti,aG⟩:=Xk jw aG;replace aC:=aC.bV fw;replace J:=J.bV fw;replace br:=br.bV fw;have dI:=aC.aH;have af:=J.cX;have eG:=br.cX;have sC:=br.frozen 2;have jt:=aC.lt;have eE:=J.lt
  have ie:=br.lt
  go_upto_region 5 with fail
  clear sC jt eE ie;clear dI af eG
  refine kL 2 λuY tj=>?_
  replace aG:=kW tj aG;replace aA:=kV tj aA;replace aC:=tj.dj aC;replace J:=tj.dj J;replace br:=tj.Kg br;have dI:=aC.aH;have af:=J.cX;have eG:=br.cX
  go_wp2_with fail
  refine (nz aq c0 rs KK au aw qs KK _ cy.o _ (mE gu.o aG eS.o.a0) (mE mI.o aG eS.o.a1)).mono ?_
  rintro e dk ⟨rfl,jd⟩
  clear dI;clear af;clear eG;obtain⟨iH,fx,aA,uW,aG⟩:=YR jd aA aG;replace aC:=aC.bV fx;replace J:=J.bV fx;replace br:=br.bV fx;have dI:=aC.aH;have af:=J.cX;have eG:=br.cX
  go_upto_region 13 with fail
  replace aA:=aA.mono (M:=N + 30) KK
  generalize dk= ly at *
  clear g1
 case' inr.inl=>
  have g1:(lj == 1)= true:=Xx.2 e1;replace cy:=I cy;clear e1;have hp:=I aT;clear aT
  go_wp2_with fail
  refine (Mp h0 p A c cK (N + 4) KK (aA.aK ao) (mE gu.o aG eS.o.a0) eS.o.a0).mono ?_
  rintro e cO ⟨qt,rfl,jw⟩
  clear dI;clear af;clear eG;obtain⟨fw,aA,ti,aG⟩:=Xk jw aG;replace aC:=aC.bV fw;replace J:=J.bV fw;replace br:=br.bV fw;have dI:=aC.aH;have af:=J.cX;have eG:=br.cX;have sC:=br.frozen 2;have jt:=aC.lt;have eE:=J.lt
  have ie:=br.lt
  go_upto_region 5 with fail
  clear sC jt eE ie;clear dI af eG
  refine kL 2 λuY tj=>?_
  replace aG:=kW tj aG;replace aA:=kV tj aA;replace aC:=tj.dj aC;replace J:=tj.dj J;replace br:=tj.Kg br;have dI:=aC.aH;have af:=J.cX;have eG:=br.cX
  go_wp2_with fail
  refine (nz aq c0 rs KK au aw qs KK _ cy.o _ (mE gu.o aG eS.o.a0) (mE mI.o aG eS.o.a1)).mono ?_
  rintro e dk ⟨rfl,jd⟩
  clear dI;clear af;clear eG;obtain⟨iH,fx,aA,uW,aG⟩:=YR jd aA aG;replace aC:=aC.bV fx;replace J:=J.bV fx;replace br:=br.bV fx;have dI:=aC.aH;have af:=J.cX;have eG:=br.cX;have ajI:=aG.size
  go_wp2_with fail
  refine (Hs aq c0 rs KK au aw qs KK cy.o _ (mE gu.o aG eS.o.a0) (mE mI.o aG eS.o.a1)).mono ?_
  rintro e fS ⟨Y,y,rfl,aV,pk⟩
  clear dI;clear af;clear eG;obtain⟨gv,kt,aA,Dy,aG⟩:=YR pk aA aG;replace aC:=aC.bV kt;replace J:=J.bV kt;replace br:=br.bV kt;have dI:=aC.aH;have af:=J.cX;have eG:=br.cX;have aT:=hp.o
  have iS:¬(0:Int) < ((gD rs qs).length:Int):=KK
  have pr:decide ((0:Int) < ((gD rs qs).length:Int))= false:=Xe iS;clear aV aT
  go_upto_region 13 with fail
  replace aA:=aA.mono (M:=N + 30) KK
  generalize fS= ly at *
  clear iS pr g1
 case' inr.inr.inl=>
  have g1:(lj == 1)= true:=Xx.2 e1;replace cy:=I cy;clear e1;have hp:=I aT;clear aT
  go_wp2_with fail
  refine (Mp h0 p A c cK (N + 4) KK (aA.aK ao) (mE gu.o aG eS.o.a0) eS.o.a0).mono ?_
  rintro e cO ⟨qt,rfl,jw⟩
  clear dI;clear af;clear eG;obtain⟨fw,aA,ti,aG⟩:=Xk jw aG;replace aC:=aC.bV fw;replace J:=J.bV fw;replace br:=br.bV fw;have dI:=aC.aH;have af:=J.cX;have eG:=br.cX;have sC:=br.frozen 2;have jt:=aC.lt;have eE:=J.lt
  have ie:=br.lt
  go_upto_region 5 with fail
  clear sC jt eE ie;clear dI af eG
  refine kL 2 λuY tj=>?_
  replace aG:=kW tj aG;replace aA:=kV tj aA;replace aC:=tj.dj aC;replace J:=tj.dj J;replace br:=tj.Kg br;have dI:=aC.aH;have af:=J.cX;have eG:=br.cX
  go_wp2_with fail
  refine (nz aq c0 rs KK au aw qs KK _ cy.o _ (mE gu.o aG eS.o.a0) (mE mI.o aG eS.o.a1)).mono ?_
  rintro e dk ⟨rfl,jd⟩
  clear dI;clear af;clear eG;obtain⟨iH,fx,aA,uW,aG⟩:=YR jd aA aG;replace aC:=aC.bV fx;replace J:=J.bV fx;replace br:=br.bV fx;have dI:=aC.aH;have af:=J.cX;have eG:=br.cX;have ajI:=aG.size
  go_wp2_with fail
  refine (Hs aq c0 rs KK au aw qs KK cy.o _ (mE gu.o aG eS.o.a0) (mE mI.o aG eS.o.a1)).mono ?_
  rintro e fS ⟨Y,y,rfl,aV,pk⟩
  clear dI;clear af;clear eG;obtain⟨gv,kt,aA,Dy,aG⟩:=YR pk aA aG;replace aC:=aC.bV kt;replace J:=J.bV kt;replace br:=br.bV kt;have dI:=aC.aH;have af:=J.cX;have eG:=br.cX;have aT:=hp.o
  have hm:=gi.o
  have iS:(0:Int) < ((gD rs qs).length:Int):=KK
  have pr:decide ((0:Int) < ((gD rs qs).length:Int))= true:=Xh iS
  have Rq:((gD rs qs).length:Int)<=1000000000:=KK
  replace aV:=aV.base (B':=w) KK
  go_wp2_with fail
  refine (iI ((gD rs qs).length:Int) p A c cK (N + 8) KK Rq _ (aA.aK ao)).mono ?_
  rintro e du ⟨r,rfl,⟨pX,gR,nk⟩,mM⟩
  clear dI;clear af;clear eG;obtain⟨gy,aA,yk,aG⟩:=Xk mM aG;replace aC:=aC.bV gy;replace J:=J.bV gy;replace br:=br.bV gy;replace aV:=aV.dm gy
  have dI:=aC.aH;have af:=J.cX;have eG:=br.cX
  have bu:r < (gD rs qs).length:=by
   by_cases h1:(1:Int) < (gD rs qs).length
   .exact nk h1
   .rw [gR KK];omega
  obtain⟨k,rfl⟩ :∃k:Nat,r= k:=⟨r.toNat,by omega⟩
  have ax:k < (gD rs qs).length:=KK
  obtain⟨b,off,qt,rfl,eN,zK,bO⟩:=(aV.ej fR).at_ (Wt _ _) ax
  have f0:=bO 0 _ rfl (aD.self _)
  simp only [XW,aD.self,Xw] at f0
  clear zK bO gR nk aV;have sC:=br.frozen 2;have jt:=aC.lt;have eE:=J.lt;have ie:=br.lt
  go_upto_region 13 with fail
  clear sC jt eE ie;clear dI af eG
  refine kL 2 λly ea=>?_
  replace aG:=kW ea aG;replace aA:=kV ea aA;replace aC:=ea.dj aC;replace J:=ea.dj J;replace br:=ea.Kg br;have dI:=aC.aH;have af:=J.cX;have eG:=br.cX;clear f0 iS pr Rq aT hm g1;replace aA:=aA.mono (M:=N + 30) KK
 case' inr.inr.inr.inl=>
  have g1:(lj == 1)= false:=Xb.2 KK;have g5:(lj == 5)= true:=Xx.2 e1
  go_wp2_with fail
  refine (pQ [1,10,60,3600] (1) 3600 WG WG WG cK KK (aA.aK (pd _))).mono ?_
  rintro e cO ⟨qt,rfl,asK,jw⟩
  clear dI;clear af;clear eG;obtain⟨fw,aA,ti,aG⟩:=Xk jw aG;replace aC:=aC.bV fw;replace J:=J.bV fw;replace br:=br.bV fw;have dI:=aC.aH;have af:=J.cX;have eG:=br.cX;have sC:=br.frozen 2;have jt:=aC.lt;have eE:=J.lt
  have ie:=br.lt
  go_upto_region 13 with fail
  clear sC jt eE ie;clear dI af eG
  refine kL 2 λly ea=>?_
  replace aG:=kW ea aG;replace aA:=kV ea aA;replace aC:=ea.dj aC;replace J:=ea.dj J;replace br:=ea.Kg br;have dI:=aC.aH;have af:=J.cX;have eG:=br.cX;replace aA:=aA.mono (M:=N + 30) KK;clear g1 g5 e1
 case' inr.inr.inr.inr.inl=>
  have g1:(lj == 1)= false:=Xb.2 KK;have g5:(lj == 5)= false:=Xb.2 KK;have g7:(lj == 7)= true:=Xx.2 e1
  go_wp2_with fail
  refine (aBD p A c cs cK (N + 4) KK _ (aA.aK ao)).mono ?_
  rintro e cO ⟨iQ,no,ab,rfl,jw⟩
  clear dI;clear af;clear eG;obtain⟨fw,aA,ti,aG⟩:=Xk jw aG;replace aC:=aC.bV fw;replace J:=J.bV fw;replace br:=br.bV fw;have dI:=aC.aH;have af:=J.cX;have eG:=br.cX;have aqY:=br.frozen 3;have aqZ:=br.frozen 4;have ara:=br.frozen 5
  have jt:=aC.lt;have eE:=J.lt;have ie:=br.lt
  go_upto_region 13 with fail
  clear aqY aqZ ara jt eE ie;clear dI af eG
  refine ra 3 λly ea=>?_
  replace aG:=kW ea aG;replace aA:=kV ea aA;replace aC:=ea.dj aC;replace J:=ea.dj J;replace br:=ea.ayf br;have dI:=aC.aH;have af:=J.cX;have eG:=br.cX;replace aA:=aA.mono (M:=N + 30) KK;clear g1 g5 g7 e1
 case' inr.inr.inr.inr.inr=>
  have g1:(lj == 1)= false:=Xb.2 KK;have g5:(lj == 5)= false:=Xb.2 KK;have g7:(lj == 7)= false:=Xb.2 KK
  go_upto_region 13 with fail
  replace aA:=aA.mono (M:=N + 30) KK
  generalize pG= ly at *
  clear g1 g5 g7 e1 e5 e7
 all_goals
  go_wp2_with fail
  refine (iI 24 p A c cK (N + 30) KK KK _ (aA.aK ao)).mono ?_
  rintro e eB ⟨v,rfl,⟨hW,_,Jv⟩,kg⟩
  clear dI;clear af;clear eG;obtain⟨en,aA,xt,aG⟩:=Xk kg aG;replace aC:=aC.bV en;replace J:=J.bV en;replace br:=br.bV en;have dI:=aC.aH;have af:=J.cX;have eG:=br.cX;replace Jv:=Jv KK
  rcases (show v= 0\/v= 1\/v= 2\/2 < v by omega) with rfl | rfl | rfl | JD
  case' inl=>
   go_wp2_with fail
   refine (pQ [0,10] (0) 10 WG WG WG cK KK (aA.aK (pd _))).mono ?_
   rintro e fH ⟨lj,rfl,asE,jc⟩
   clear dI;clear af;clear eG;obtain⟨ds,aA,th,aG⟩:=Xk jc aG;replace aC:=aC.bV ds;replace J:=J.bV ds;replace br:=br.bV ds;have dI:=aC.aH;have af:=J.cX;have eG:=br.cX;have yT:=br.frozen 0;have jt:=aC.lt
   have eE:=J.lt;have ie:=br.lt
   go_upto_region 20 with fail
   clear yT jt eE ie;clear dI af eG
   refine kL 0 λyq kn=>?_
   replace aG:=kW kn aG;replace aA:=kV kn aA;replace aC:=kn.dj aC;replace J:=kn.dj J;replace br:=kn.ayc br;have dI:=aC.aH;have af:=J.cX;have eG:=br.cX;replace aA:=aA.mono (M:=N + 60) KK
  case' inr.inl=>
   go_wp2_with fail
   refine (pQ [0,100] (0) 100 WG WG WG cK KK (aA.aK (pd _))).mono ?_
   rintro e fH ⟨jK,rfl,aDG,jc⟩
   clear dI;clear af;clear eG;obtain⟨ds,aA,th,aG⟩:=Xk jc aG;replace aC:=aC.bV ds;replace J:=J.bV ds;replace br:=br.bV ds;have dI:=aC.aH;have af:=J.cX;have eG:=br.cX;have Gs:=br.frozen 1;have jt:=aC.lt
   have eE:=J.lt;have ie:=br.lt
   go_upto_region 20 with fail
   clear Gs jt eE ie;clear dI af eG
   refine kL 1 λyq kn=>?_
   replace aG:=kW kn aG;replace aA:=kV kn aA;replace aC:=kn.dj aC;replace J:=kn.dj J;replace br:=kn.aye br;have dI:=aC.aH;have af:=J.cX;have eG:=br.cX;replace aA:=aA.mono (M:=N + 60) KK
  case' inr.inr.inl=>
   go_wp2_with fail
   refine (pQ [0,21,3601] (0) 3601 WG WG WG cK KK (aA.aK (pd _))).mono ?_
   rintro e fH ⟨qt,rfl,asK,jc⟩
   clear dI;clear af;clear eG;obtain⟨ds,aA,th,aG⟩:=Xk jc aG;replace aC:=aC.bV ds;replace J:=J.bV ds;replace br:=br.bV ds;have dI:=aC.aH;have af:=J.cX;have eG:=br.cX;have sC:=br.frozen 2;have jt:=aC.lt
   have eE:=J.lt;have ie:=br.lt
   go_upto_region 20 with fail
   clear sC jt eE ie;clear dI af eG
   refine kL 2 λyq kn=>?_
   replace aG:=kW kn aG;replace aA:=kV kn aA;replace aC:=kn.dj aC;replace J:=kn.dj J;replace br:=kn.Kg br;have dI:=aC.aH;have af:=J.cX;have eG:=br.cX;replace aA:=aA.mono (M:=N + 60) KK
  case' inr.inr.inr=>
   have g0:(v == 0)= false:=Xb.2 KK;have g1:(v == 1)= false:=Xb.2 KK;have g2:(v == 2)= false:=Xb.2 KK
   go_upto_region 20 with fail
   replace aA:=aA.mono (M:=N + 60) KK
   generalize eB= yq at *
   clear g0 g1 g2 JD
  all_goals
   have eg:=J.wL;have jt:=aC.lt;have eE:=J.lt;have ie:=br.lt
   go_wp2
   clear dI af eG
   refine xr 0 λcP aE=>?_
   replace aG:=kW aE aG;replace aA:=kV aE aA;replace aC:=aE.dj aC;replace J:=aE.wy J;replace br:=aE.dj br;have dI:=aC.aH;have af:=J.cX;have eG:=br.cX
   exact hV ⟨lj,jK,qt,iQ,no,ab,rfl,aA,aG⟩ (by simp [results,Tryz.results155,go_sem,af])
theorem aie (w:World) (id:Int) (nm:VU) (rk:Int) (dT hq am:Bool) (dz:Int) (hm:nm.size<=maxLen) (e:TypeId):aX 7 aM.cells (w.alloc (.cells #[id,nm,rk,dT,hq,am,dz] e)) (some ⟨w,0,none⟩) [(⟨id,nm,rk,dT,hq,am,dz,hm⟩ :aM)]:=by
 have h:=(bn.built (B:=w) (f:=aM.cells) w [(⟨id,nm,rk,dT,hq,am,dz,hm⟩ :aM)] e (XZ _) Yk ji).ej (hf:=ji)
 simpa [aM.cells] using h
theorem azl (p:Nat) (A:QR) (c:Nat) (cs:List UInt8) (cK:cs) (N:Nat) (bU:N<=500000) (w:World) (aA:gX w p A c cs N):
 Rd 130 #[.pointer (some ⟨p,0,none⟩)] w λe ah=>∃(xs:List aM) (g y:Nat),e= .returned (g xs y)/\xs.length<=12/\(∀t ∈ xs,t.name.size<=12)/\bn w 89 7 aM.cells ah (g xs y) xs/\Stepped w ah p A c cs (N + 600):=by
 obtain⟨i0,bo,dP,dZ,dV⟩:=Xo JK
 go_in
 have aS:=aA.lt;have aG:=ht w (some p);have aV:=bn.made (sz:=7) (f:=aM.cells) w (XZ _) 89
 go_wp2_with fail
 refine (iI 7 p A c cK N KK KK _ (aA.aK ao)).mono ?_
 rintro e bm ⟨r,rfl,⟨pX,_,gR⟩,ot⟩
 have fI:w.grownBy bm (some p):=bx (bL ao _) ot.2;replace aA:=ot.1;replace aG:=bx aG fI;have nk:=gR KK;replace aV:=aV.kept ot.2 (λk ax e=>by have:=(aV.lt k ax).1;have:=Wx e;omega);clear gR
 obtain⟨m0,rfl⟩ :∃m:Nat,r= m:=⟨r.toNat,by omega⟩
 go_wp2
 go_loopw [3,4] (λv i wr=>∃(m:Nat) (xs:List aM) (g y:Nat),v= .slice g xs y/\i= .int .i64 (m:Int)/\xs.length + m<=6/\(∀t ∈ xs,t.name.size<=12)/\bn w 89 7 aM.cells wr (g xs y) xs/\gX wr p A c cs (N + 2 + 40 * (6 - m))/\w.grownBy wr (some p)) (λ_ i _=>(intOf i).toNat)
 case atStart=>exact⟨m0,[],_,0,rfl,rfl,by simp;omega,by simp,aV,aA.mono KK,aG⟩
 case round=>
  clear aA aV aG
  obtain⟨m,xs,g,y,rfl,rfl,hm,bq,aV,aA,aG⟩:=hrel
  have gj:=I bq;clear bq
  obtain⟨_,_,he,sK,_,_⟩:=aV.form ji
  injection he with asX asY aeI
  rw [<- aeI] at sK
  clear asX asY aeI
  by_cases bC:0 < m
  .have zu:(m:Int) - 1= ((m - 1:Nat):Int):=KK
   go_wp2_with fail
   refine (ais cK KK (aA.aK ao)).mono ?_
   rintro e aI ⟨⟨id,nm,rk,dT,hq,am,dz,fo⟩,rfl,sR,jF⟩
   have eI:wr.grownBy aI (some p):=bx (bL ao _) jF.2;replace aA:=jF.1;replace aG:=bx aG eI;replace sR:nm.size<=12:=sR;have DR:=I sR;clear sR;replace aV:=aV.kept jF.2 (λk ax e=>by have:=(aV.lt k ax).1;have:=Wx e;omega);have aIR:=aG.size
   go_wp2_with fail
   refine (apf g 0 y xs KK sK id nm rk dT hq am dz fo _ (aV.ej ji)).mono ?_
   rintro e bw ⟨ys,g2,hU,v,rfl,Bk,afC,ng,mi⟩
   have bG:Below aI aI bw:=ai ao mi;have hH:aI.grownBy bw (some p):=bL bG _;replace aA:=aA.aK bG;replace aG:=bx aG hH;have aoM:=I afC;clear afC
   cases v
   .go_wp2
    go_roundw
    case rel=>exact⟨m - 1,xs,g,y,rfl,by rw [<- zu],by omega,gj.o,aV.aK mi,aA.mono KK,aG⟩
    case measure=>simp [intOf];omega
   .go_wp2
    go_roundw
    case rel=>exact⟨m - 1,ys,g2,hU,rfl,by rw [<- zu],by omega,λt cJ=>by
     rcases aoM.o t cJ with h | h
     .rw [h];exact DR.o
     .exact gj.o t h,ng.base aIR,aA.mono KK,aG⟩
    case measure=>simp [intOf];omega
  .obtain rfl:m= 0:=KK
   go_wp2_with fail
   refine (iI 24 p A c cK (N + 2 + 40 * (6 - 0)) KK KK _ (aA.aK ao)).mono ?_
   rintro e bH ⟨q,rfl,⟨vv,_,hO⟩,mL⟩
   have ed:wr.grownBy bH (some p):=bx (bL ao _) mL.2;replace aA:=mL.1;replace aG:=bx aG ed;replace hO:=hO KK;replace aV:=aV.kept mL.2 (λk ax e=>by have:=(aV.lt k ax).1;have:=Wx e;omega)
   rcases (show q= 0\/q= 1\/1 < q by omega) with rfl | rfl | aj
   .go_wp2_with fail
    refine (ais cK KK (aA.aK ao)).mono ?_
    rintro e cO ⟨⟨id,nm,rk,dT,hq,am,dz,fo⟩,rfl,sR,jw⟩
    have fw:bH.grownBy cO (some p):=bx (bL ao _) jw.2;replace aA:=jw.1;replace aG:=bx aG fw;replace aV:=aV.kept jw.2 (λk ax e=>by have:=(aV.lt k ax).1;have:=Wx e;omega);replace sR:nm.size<=12:=sR
    simp only [aM.cells]
    go_wp2_with ((at_builtin;refine ke rfl _ _ 29 rfl w 89 i0 _ 7 48 Tryz.underlying29 bo dP dZ dV rfl WG aM.cells ji OJ _ xs rfl (aV.alloc _) ⟨cO,0,none⟩ 1 ⟨id,nm,rk,dT,hq,am,dz,fo⟩ rfl (aie _ _ _ _ _ _ _ _ _ _) Xz KK cg ?_;intro HX pH jQ hP sH;clear sH))
    have uw:=(aA.aK (bP _ _)).row hP (λk ax=>by have:=(aV.lt k ax).1;omega);have rL:=nR (bx aG (bL (bP _ _) _)) hP (λk ax=>(aV.lt k ax).1)
    obtain⟨g4,pI,rfl⟩:=sf jQ Wn
    go_wp2
    go_ret
    exact⟨_,g4,pI,rfl,by simp;omega,λt cJ=>by
     rcases YC.1 cJ with h | h
     .exact gj.o t h
     .simp at h;subst h;exact sR,jQ,uw.mono KK,rL⟩
   .replace hm:=I hm
    go_wp2
    go_loopw [3,7] (λv i wr=>∃(k:Nat) (xs:List aM) (g y:Nat),v= .slice g xs y/\i= .int .i64 (k:Int)/\k<=10/\xs.length<=12/\(∀t ∈ xs,t.name.size<=12)/\bn w 89 7 aM.cells wr (g xs y) xs/\gX wr p A c cs (N + 250 + 8 * k)/\w.grownBy wr (some p)) (λ_ i _=>10 - (intOf i).toNat)
    case atStart=>exact⟨0,xs,g,y,rfl,rfl,by omega,by have:=hm.o;omega,gj.o,aV,aA.mono KK,aG⟩
    case round=>
     clear aA aV aG hm sK
     obtain⟨k,xs,g,y,rfl,rfl,ax,aT,bq,aV,aA,aG⟩:=hrel
     replace gj:=I bq;clear bq
     go_wp2_with fail
     refine (iI 2 p A c cK (N + 250 + 8 * k) KK KK _ (aA.aK ao)).mono ?_
     rintro e cO ⟨r,rfl,⟨pX,_,gR⟩,jw⟩
     have fw:wr.grownBy cO (some p):=bx (bL ao _) jw.2;replace aA:=jw.1;replace aG:=bx aG fw;have nk:=gR KK;replace aV:=aV.kept jw.2 (λk ax e=>by have:=(aV.lt k ax).1;have:=Wx e;omega)
     by_cases bC:(xs.length:Int) < 8 + r/\k < 10
     .obtain⟨bC,aEc⟩:=bC
      have pr:decide ((k:Int) < 10)= true:=Xh KK
      go_upto_region 15 with fail
      refine nZ (λ_=>True) [([0,1,2,3,7,8,9],4),([],5),([6,10,11],12),([],13)] [14] PV PV trivial ?_
      replace aV:=aV.aK (Wt cO cO).drew;replace aA:=aA.aK (Wt _ _).drew;replace aG:=bx aG (bL (Wt cO cO).drew (some p))
      generalize cO.drew= wd at *
      haveI:Nonempty (cM (λ_=>True)):=⟨⟨w,trivial⟩⟩
      refine gA λff da=>?_
      refine Zf ?_
      repeat go_big_quiet_step (fail)
      refine VF ?_
      refine XV ?_
      go_wp2
      refine gb (trivial) (da _ _ ?_)
      refine gA λff da=>?_
      refine Xn ?_
      refine VF ?_
      refine XV ?_
      go_wp2_with fail
      refine (aHH [(⟨#[97]⟩ :VU),(⟨#[98]⟩ :VU)] 1 WG WG WG cK KK (aA.aK (pd _))).mono ?_
      rintro e dk ⟨s,rfl,asJ,jd⟩
      have fx:wd.grownBy dk (some p):=bx (bL ao _) jd.2;replace aA:=jd.1;replace aG:=bx aG fx
      go_wp2
      refine gb (trivial) (da _ _ ?_)
      refine gA λff da=>?_
      refine YI ?_
      repeat go_big_quiet_step (fail)
      refine VF ?_
      refine XV ?_
      have qn:((⟨#[120]⟩ :VU) ++ s ++ (⟨#[97,98,99,100,101,102,103,104]⟩ :VU).extract 0 (k % 8)).size<=12:=by
       rw [YU,YU,ByteArray.size_extract]
       have h1:(⟨#[120]⟩ :VU).size= 1:=rfl
       omega
      generalize (⟨#[120]⟩ :VU) ++ s ++ (⟨#[97,98,99,100,101,102,103,104]⟩ :VU).extract 0 (k % 8)= nm at *
      have qO:nm.size<=maxLen:=by unfold maxLen;omega
      replace aV:=aV.kept fx (λk ax e=>by have:=(aV.lt k ax).1;have:=Wx e;omega)
      go_wp2
      refine gb (trivial) (da _ _ ?_)
      refine gA λff da=>?_
      refine Xn ?_
      refine VF ?_
      refine XV ?_
      go_wp2_with ((at_builtin;refine ke rfl _ _ 29 rfl w 89 i0 _ 7 48 Tryz.underlying29 bo dP dZ dV rfl WG aM.cells ji OJ _ xs rfl (aV.alloc _) ⟨dk,0,none⟩ 1 ⟨11 + (k:Int),nm,3,false,false,false,1,qO⟩ rfl (aie _ _ _ _ _ _ _ _ _ _) Xz KK cg ?_;intro HX pH jQ hP sH;clear sH))
      have uw:=(aA.aK (bP _ _)).row hP (λk ax=>by have:=(aV.lt k ax).1;omega);have rL:=nR (bx aG (bL (bP _ _) _)) hP (λk ax=>(aV.lt k ax).1)
      obtain⟨g4,pI,rfl⟩:=sf jQ Wn
      refine gb (trivial) (da _ _ ?_)
      refine ky ?_
      refine Xp ?_
      repeat go_big_quiet_step (fail)
      refine VF ?_
      go_wp2
      go_roundw
      case rel=>exact⟨k + 1,_,g4,pI,rfl,by go_num,by omega,by simp;omega,λt cJ=>by
       rcases YC.1 cJ with h | h
       .exact gj.o t h
       .simp at h;subst h;exact qn,jQ,uw.mono KK,rL⟩
      case measure=>simp [intOf];omega
     .by_cases qM:(xs.length:Int) < 8 + r
      .have pr:decide ((k:Int) < 10)= false:=Xe KK
       have tE:¬k < 10:=KK
       go_wp2
       go_ret
       exact⟨xs,g,y,rfl,by omega,gj.o,aV,aA.mono KK,aG⟩
      .have iS:decide ((xs.length:Int) < 8 + r)= false:=Xe qM
       go_wp2
       go_ret
       exact⟨xs,g,y,rfl,by omega,gj.o,aV,aA.mono KK,aG⟩
   .have g0:(q == 0)= false:=Xb.2 KK
    have g1:(q == 1)= false:=Xb.2 KK
    go_wp2
    go_ret
    exact⟨xs,g,y,rfl,by omega,gj.o,aV,aA.mono KK,aG⟩
theorem aBm {Q:World->Prop} {n c:Nat} {w:World} {xs:List aM} {id:Int} {nm:VU} {rk:Int} {dT hq am:Bool} {dz:Int} {fo:nm.size<=maxLen} (v:Int) (aV:bn B 89 7 aM.cells w (g n c) xs) (av:xs[k]? =some ⟨id,nm,rk,dT,hq,am,dz,fo⟩)
 (h:∀W,w.grownBy W (some g)->bn B 89 7 aM.cells W (g n c) (xs.set k ⟨id,nm,v,dT,hq,am,dz,fo⟩)->Q W):Q (((((((w.setCell ⟨g,k * 7,none⟩ (.int .i64 id)).setCell ⟨g,k * 7 + 1,none⟩ (.string nm)).setCell ⟨g,k * 7 + 2,none⟩ (.int .i64 v)).setCell ⟨g,k * 7 + 3,none⟩ (.bool dT)).setCell ⟨g,k * 7 + 4,none⟩ (.bool hq)).setCell ⟨g,k * 7 + 5,none⟩ (.bool am)).setCell ⟨g,k * 7 + 6,none⟩ (.int .i64 dz)):=by
 have ax:=(Xg.1 av).1;have h0:=vP aV ji av (i:=0) WG (y:=⟨id,nm,rk,dT,hq,am,dz,fo⟩) (u:= .int .i64 id) rfl
 rw [Dv av] at h0
 have h1:=vP h0 ji av (i:=1) WG (y:=⟨id,nm,rk,dT,hq,am,dz,fo⟩) (u:= .string nm) rfl
 rw [Dv av] at h1
 have h2:=vP h1 ji av (i:=2) WG (y:=⟨id,nm,v,dT,hq,am,dz,fo⟩) (u:= .int .i64 v) rfl;have hy:(xs.set k (⟨id,nm,v,dT,hq,am,dz,fo⟩ :aM))[k]? =some ⟨id,nm,v,dT,hq,am,dz,fo⟩:=List.getElem?_set_self ax;have h3:=vP h2 ji hy (i:=3) WG (y:=⟨id,nm,v,dT,hq,am,dz,fo⟩) (u:= .bool dT) rfl
 rw [Dv hy] at h3
 have h4:=vP h3 ji hy (i:=4) WG (y:=⟨id,nm,v,dT,hq,am,dz,fo⟩) (u:= .bool hq) rfl
 rw [Dv hy] at h4
 have h5:=vP h4 ji hy (i:=5) WG (y:=⟨id,nm,v,dT,hq,am,dz,fo⟩) (u:= .bool am) rfl
 rw [Dv hy] at h5
 have h6:=vP h5 ji hy (i:=6) WG (y:=⟨id,nm,v,dT,hq,am,dz,fo⟩) (u:= .int .i64 dz) rfl
 rw [Dv hy] at h6
 exact h _ (fZ (fZ (fZ (fZ (fZ (fZ (fZ (ht w (some g)) _) _) _) _) _) _) _) h6
theorem alO (h:u:=by
 go_wp2
 go_ret
 have xR:=Ao.o
 subst xR
 exact⟨xs,g,y,rfl,aT,gj.o,aV,aA.mono KK,aG⟩):u:=h
theorem agy (p:Nat) (A:QR) (c:Nat) (cs:List UInt8) (cK:cs) (N:Nat) (bU:N<=400000) (w:World) (aA:gX w p A c cs N):
 Rd 74 #[.pointer (some ⟨p,0,none⟩)] w λe ah=>∃(xs:List aM) (g y:Nat),e= .returned (g xs y)/\xs.length<=12/\(∀t ∈ xs,t.name.size<=12)/\bn w 89 7 aM.cells ah (g xs y) xs/\Stepped w ah p A c cs (N + 700):=by
 go_in
 have aS:=aA.lt;have aG:=ht w (some p)
 go_wp2_with fail
 refine (azl p A c cs cK N KK _ (aA.aK ao)).mono ?_
 rintro e bm ⟨xs,g,y,rfl,aT,bq,aV,ot⟩
 have fI:w.grownBy bm (some p):=bx (bL ao _) ot.2;replace aA:=ot.1;replace aG:=bx aG fI
 obtain⟨n,xR⟩ :∃n,n= xs.length:=⟨_,rfl⟩
 rw [<- xR] at aV aT
 rw [<- xR]
 have Ao:=I xR.symm;have gj:=I bq;clear xR bq
 go_wp2
 go_loopw [4] (λi wr=>∃(k:Nat) (xs:List aM),i= .int .i64 (k:Int)/\k<=n/\Hid (xs.length= n)/\(∀t ∈ xs,t.name.size<=12)/\bn w 89 7 aM.cells wr (g n y) xs/\gX wr p A c cs (N + 610 + 4 * k)/\w.grownBy wr (some p)) (λi _=>n - (intOf i).toNat)
 case atStart=>exact⟨0,xs,rfl,Xd _,Ao,gj.o,aV,aA.mono KK,aG⟩
 case round=>
  clear aA aV aG Ao
  obtain⟨k,xs,rfl,ax,Ao,bq,aV,aA,aG⟩:=hrel
  replace gj:=I bq;clear bq
  by_cases bC:k < n
  .have uI:decide ((k:Int) < (n:Int))= true:=Xh KK
   go_wp2_with fail
   refine (uR 2 p A c cs cK (N + 610 + 4 * k) KK KK _ (aA.aK ao)).mono ?_
   rintro e aI ⟨b,rfl,jF⟩
   have eI:wr.grownBy aI (some p):=bx (bL ao _) jF.2;replace aA:=jF.1;replace aG:=bx aG eI;replace aV:=aV.dm eI
   cases b
   .exact alO
   .have wW:k < xs.length:=by have:=Ao.o;omega
    obtain⟨⟨id,nm,rk,dT,hq,am,dz,fo⟩,av⟩ :∃x,xs[k]? =some x:=⟨_,Xj wW⟩
    have ho:=me aV ji av (i:=0) (u:= .int .i64 id) rfl;have q1:=me aV ji av (i:=1) (u:= .string nm) rfl;have gM:=me aV ji av (i:=2) (u:= .int .i64 rk) rfl;have nn:=me aV ji av (i:=3) (u:= .bool dT) rfl;have Dp:=me aV ji av (i:=4) (u:= .bool hq) rfl;have sg:=me aV ji av (i:=5) (u:= .bool am) rfl
    have aHS:=me aV ji av (i:=6) (u:= .int .i64 dz) rfl
    simp only [XW] at ho
    have fV:=I av;clear av
    go_upto_region 6 with fail
    clear ho q1 gM nn Dp sg aHS;have Jy:=aV.lt g rfl;refine Xi λFq bG bz=>?_
    replace aA:=aA.aK bG;replace aG:=bx aG (bL bG (some p));replace aV:=aV.dm (bL bG (some p));have df:=bz.ij
    obtain⟨v,az⟩ :∃v,v= if (9:Int) < (k:Int) then 9 else (k:Int):=⟨_,rfl⟩
    go_wp2_with fail
    refine (XL v az _).mono ?_
    rintro e w0 ⟨rfl,h0⟩
    rw [h0]
    clear h0 w0;clear az;have Vn:=bz.frozen 2
    have aHC:∀q,(Value.slice g n y).ownBlock= some q->¬q= aI.heap.size:=λq bt=>by have h1:g= q:=Wx bt;omega
    go_upto_region 7 with fail
    clear Vn;clear df;replace aG:w.grownBy (World.setCell Fq ⟨aI,2,none⟩ (.int .i64 v)) (some p):=(il aG (g:=aI) KK 2 (.int .i64 v));replace aA:=(aA.store (g:=aI) KK 2 (.int .i64 v));replace bz:ay (World.setCell Fq ⟨aI,2,none⟩ (.int .i64 v)) aI 89 #[id,nm,.int .i64 v,dT,hq,am,dz]:=(bz.ey 2 (.int .i64 v))
    replace aV:=aV.kept (fZ (j:=2) (ht Fq (some aI)) (.int .i64 v)) (λk ax e=>by have h1:=(aV.lt k ax);have h2:k= aI.heap.size:=(Wx e);first | omega | exact absurd h2 (aHC k ax))
    generalize World.setCell Fq ⟨aI,2,none⟩ (.int .i64 v)= ajS at *
    have df:=bz.ij;have av:=fV.o;have ho:=me aV ji av (i:=0) (u:= .int .i64 id) rfl;have q1:=me aV ji av (i:=1) (u:= .string nm) rfl;have gM:=me aV ji av (i:=2) (u:= .int .i64 rk) rfl;have nn:=me aV ji av (i:=3) (u:= .bool dT) rfl;have Dp:=me aV ji av (i:=4) (u:= .bool hq) rfl;have sg:=me aV ji av (i:=5) (u:= .bool am) rfl
    have aHS:=me aV ji av (i:=6) (u:= .int .i64 dz) rfl;have fC:=vO aV ji wW (i:=0) WG;have dM:=vO aV ji wW (i:=1) WG;have r2:=vO aV ji wW (i:=2) WG;have gS:=vO aV ji wW (i:=3) WG;have ll:=vO aV ji wW (i:=4) WG;have aHV:=vO aV ji wW (i:=5) WG
    have aHW:=vO aV ji wW (i:=6) WG
    simp only [XW] at ho fC
    clear av
    go_upto_region 4 with fail
    clear df ho q1 gM nn Dp sg aHS fC dM r2 gS ll aHV aHW
    refine aBm v aV fV.o λW GK ng=>?_
    replace aA:=aA.row GK (λq e=>by have:=Wx e;omega);replace aG:=nR aG GK (λq e=>by have:=Wx e;omega);clear bz
    go_wp2
    go_roundw
    case rel=>exact⟨k + 1,_,by go_num,by omega,I (by rw [List.length_set];exact Ao.o),λt cJ=>by
     rcases List.mem_or_eq_of_mem_set cJ with h | h
     .exact gj.o t h
     .subst h;have h9:nm.size<=12:=gj.o _ (YE fV.o);exact h9,ng,aA.mono KK,aG⟩
    case measure=>simp [intOf];omega
  .have uI:decide ((k:Int) < (n:Int))= false:=Xe KK
   have oO:¬k < n:=bC
   exact alO
theorem aid (w:World) (r m:Int) (s:Bool) (e:TypeId):aX 3 aZ.cells (w.alloc (.cells #[r,m,s] e)) (some ⟨w,0,none⟩) [(⟨r,m,s⟩ :aZ)]:=by
 have h:=(bn.built (B:=w) (f:=aZ.cells) w [(⟨r,m,s⟩ :aZ)] e (XZ _) Yk iT).ej (hf:=iT)
 simpa [aZ.cells] using h
theorem axt (rs:List aM) (qs:List aZ) (id m:Int):(jz (kU rs qs id m)).length<=qs.length + 1:=by
 unfold kU jz;split <;> simp
theorem aAO (rs:List aM) (qs:List aZ) (m:Int):(jz (ln rs qs m)).length<=qs.length:=by
 have h:(Fi qs).length<=qs.length:=by
  unfold Fi
  split
  .rename_i q bt
   have:=(Xg.1 bt).1
   rw [Xu,YA];simp;omega
  .exact XZ _
 unfold ln jz;split <;> simp [h]
theorem axW (L:QR) (lc:Nat) (rs:List aM) (av:rs.length<=1000) (p:Nat) (A:QR) (c:Nat) (cs:List UInt8) (cK:cs) (N:Nat) (bU:N<=400000) (w:World) (aA:gX w p A c cs N) (R:aX 7 aM.cells w L rs) (br:∀eH,L= some eH->0 < rs.length->eH.block≠p):
 Rd 156 #[.pointer (some ⟨p,0,none⟩),L rs lc] w λe ah=>∃(qs:List aZ) (Y:QR) (y:Nat),e= .returned (Y qs y)/\qs.length<=7/\bn w 115 3 aZ.cells ah (Y qs y) qs/\Stepped w ah p A c cs (N + 200):=by
 obtain⟨i0,bo,dP,dZ,dV⟩:=Xo xd
 replace R:=I R;replace br:=I br
 go_in
 have aS:=aA.lt;have aG:=ht w (some p);have aV:=bn.made (sz:=3) (f:=aZ.cells) w (XZ _) 115
 go_wp2_with fail
 refine (iI 6 p A c cK N KK KK _ (aA.aK ao)).mono ?_
 rintro e bm ⟨r,rfl,⟨pX,_,gR⟩,ot⟩
 have fI:w.grownBy bm (some p):=bx (bL ao _) ot.2;replace aA:=ot.1;replace aG:=bx aG fI;have nk:=gR KK;replace aV:=aV.kept ot.2 (λk ax e=>by have:=(aV.lt k ax).1;have:=Wx e;omega);clear gR
 obtain⟨m0,rfl⟩ :∃m:Nat,r= m:=⟨r.toNat,by omega⟩
 go_wp2
 go_loopw [5,6] (λv i wr=>∃(m:Nat) (qs:List aZ) (Y:QR) (y:Nat),v= .slice Y qs y/\i= .int .i64 (m:Int)/\qs.length + m<=6/\bn w 115 3 aZ.cells wr (Y qs y) qs/\gX wr p A c cs (N + 2 + 20 * (6 - m))/\w.grownBy wr (some p)) (λ_ i _=>(intOf i).toNat)
 case atStart=>exact⟨m0,[],_,0,rfl,rfl,by simp;omega,aV,aA.mono KK,aG⟩
 case round=>
  clear aA aV aG
  obtain⟨m,qs,Y,y,rfl,rfl,hm,aV,aA,aG⟩:=hrel
  rcases (show (0 < m/\ee rs qs= true/\0 < (gD rs qs).length)\/(0 < m/\ee rs qs= true/\¬0 < (gD rs qs).length)\/(0 < m/\ee rs qs= false)\/¬0 < m by
   by_cases h:0 < m
   .cases ee rs qs <;> by_cases e2:0 < (gD rs qs).length <;> simp [h,e2]
   .simp [h]) with ⟨bC,cy,hy⟩ | ⟨bC,cy,hy⟩ | ⟨bC,cy⟩ | bC
  case' inl=>
   replace cy:=I cy
   go_wp2_with fail
   refine (nz L lc rs KK Y y qs KK _ cy.o _ (mE R.o aG br.o) (aV.ej iT)).mono ?_
   rintro e aI ⟨rfl,jF⟩
   have aQ:Below wr wr aI:=ai ao jF;have eI:wr.grownBy aI (some p):=bL aQ _;replace aA:=aA.aK aQ;replace aG:=bx aG eI;replace aV:=aV.aK jF;replace hy:=I hy;have aBx:=aG.size
   go_wp2_with fail
   refine (Hs L lc rs KK Y y qs KK cy.o _ (mE R.o aG br.o) (aV.ej iT)).mono ?_
   rintro e bw ⟨aoR,axv,rfl,aC,mi⟩
   have bG:Below aI aI bw:=ai ao mi;have hH:aI.grownBy bw (some p):=bL bG _;replace aA:=aA.aK bG;replace aG:=bx aG hH;replace aV:=aV.aK mi;have Bk:=hy.o;have jm:=Of rs qs
   obtain⟨nm,qn⟩ :∃n,n= (gD rs qs).length:=⟨_,rfl⟩
   obtain⟨g,axw,tz⟩:=sf aC Bk
   rw [tz] at aC
   rw [tz]
   clear tz
   rw [<- qn] at aC Bk jm
   rw [<- qn]
   replace qn:=I qn;have WZ:((nm:Int) == 0)= false:=Xb.2 KK
   go_upto_region 7 with fail
   obtain⟨dx,et⟩ :∃X:World->Prop,∀V,X V↔bn w 3 1 cE V (g nm axw) (gD rs qs):=⟨_,λ_=>Xt⟩
   have cH:=I et;clear et;replace aC:=aC.base (B':=w) KK;replace aC:=aC.aK (Wt bw bw).drew;replace aV:=aV.aK (Wt bw bw).drew
   refine nZ dx [([0,1,2,3,4,9],5),([],6),([7,8],10),([11],12)] [13,14,15,16] PV PV ((cH.o _).2 aC) ?_
   haveI:Nonempty (cM dx):=⟨⟨_,(cH.o _).2 aC⟩⟩
   replace aA:=aA.aK (Wt _ _).drew;replace aG:=bx aG (bL (Wt bw bw).drew (some p))
   generalize bw.drew= wd at *
   refine gA λff da=>?_
   refine Yn ?_
   repeat go_big_quiet_step (fail)
   refine VF ?_
   refine XV ?_
   go_wp2
   refine gb ((cH.o _).2 aC) (da _ _ ?_)
   refine gA λff da=>?_
   refine Xn ?_
   refine VF ?_
   refine XV ?_
   have qO:(nm:Int)<=1000000000:=KK
   go_wp2_with fail
   refine (iI (nm:Int) p A c cK (N + 2 + 20 * (6 - m)) KK qO _ (aA.aK ao)).mono ?_
   rintro e bH ⟨r,rfl,⟨pX,gR,nk⟩,mL⟩
   have ed:wd.grownBy bH (some p):=bx (bL ao _) mL.2;replace aA:=mL.1;replace aG:=bx aG ed;replace aV:=aV.kept ed (λk ax e=>by have:=(aV.lt k ax).1;have:=Wx e;omega);replace aC:=aC.kept ed (λk ax e=>by have:=(aC.lt k ax).1;have:=Wx e;omega)
   have bu:r < nm:=by
    by_cases h1:(1:Int) < nm
    .exact nk h1
    .rw [gR KK];omega
   obtain⟨k,rfl⟩ :∃k:Nat,r= k:=⟨r.toNat,by omega⟩
   obtain⟨id,hid⟩ :∃x,(gD rs qs)[k]? =some x:=⟨_,Xj (by have:=qn.o;omega)⟩
   have f0:=λK:cM dx=>me ((cH.o _).1 K.holds) fR hid (i:=0) (u:= .int .i64 id) rfl
   simp only [XW,Xw] at f0
   clear hid gR nk
   go_wp2
   refine gb ((cH.o _).2 aC) (da _ _ ?_)
   refine gA λff da=>?_
   refine YB ?_
   repeat go_big_quiet_step (fail)
   refine VF ?_
   refine XV ?_
   replace aV:=aV
   go_wp2_with fail
   refine (iI 5 p A c cK (N + 2 + 20 * (6 - m) + 2) KK KK _ (aA.aK ao)).mono ?_
   rintro e cO ⟨r2,rfl,⟨tI,_,qQ⟩,jw⟩
   have fw:bH.grownBy cO (some p):=bx (bL ao _) jw.2;replace aA:=jw.1;replace aG:=bx aG fw;have pY:=qQ KK;replace aV:=aV.kept fw (λk ax e=>by have:=(aV.lt k ax).1;have:=Wx e;omega);replace aC:=aC.kept fw (λk ax e=>by have:=(aC.lt k ax).1;have:=Wx e;omega);clear qQ f0
   go_wp2
   refine gb ((cH.o _).2 aC) (da _ _ ?_)
   refine gA λff da=>?_
   refine Xp ?_
   repeat go_big_quiet_step (fail)
   refine VF ?_
   refine XV ?_
   have aBy:=aG.size
   go_wp2_with fail
   refine (aGr L lc rs KK Y y qs KK aV.tK id (1 + r2) _ (mE R.o aG br.o) (aV.ej iT)).mono ?_
   rintro e dk ⟨Z,z,rfl,eA,jd⟩
   have iH:Below cO cO dk:=ai ao jd;have fx:cO.grownBy dk (some p):=bL iH _;replace aA:=aA.aK iH;replace aG:=bx aG fx;replace aC:=aC.aK jd;have vD:=axt rs qs id (1 + r2)
   obtain⟨ps,qP⟩ :∃ps,ps= jz (kU rs qs id (1 + r2)):=⟨_,rfl⟩
   rw [<- qP] at eA vD
   rw [<- qP]
   generalize (kU rs qs id (1 + r2)).isSome= jK at *
   clear qP;replace aV:=eA.base (B':=w) aBy;clear eA;have PE:=I vD;clear vD
   go_wp2
   refine gb ((cH.o _).2 aC) (da _ _ ?_)
   refine ky ?_
   refine Yo ?_
   repeat go_big_quiet_step (fail)
   refine VF ?_
   clear aC
   have atS:ps:=by have:=PE.o;omega
   have aBz:=aG.size
   go_wp2_with fail
   refine (aHz L lc rs KK Z z ps atS aV.tK 6 _ (mE R.o aG br.o) (aV.ej iT)).mono ?_
   rintro e fS ⟨apa,z2,rfl,eA,pk⟩
   have gv:Below dk dk fS:=ai ao pk;have kt:dk.grownBy fS (some p):=bL gv _;replace aA:=aA.aK gv;replace aG:=bx aG kt;replace aV:=aV.aK pk;have vD:=aAO rs ps 6
   obtain⟨axZ,qP⟩ :∃l,l= jz (ln rs ps 6):=⟨_,rfl⟩
   rw [<- qP] at eA vD
   rw [<- qP]
   generalize (ln rs ps 6).isSome= rG at *
   clear qP;replace eA:=eA.base (B':=w) aBz;have aoD:=I vD;clear vD
   have ki:(m:Int) - 1= ((m - 1:Nat):Int):=KK
   clear WZ
   cases rG
   .go_wp2
    go_roundw
    case rel=>exact⟨m - 1,ps,Z,z,rfl,by rw [<- ki],by have:=PE.o;omega,aV,aA.mono KK,aG⟩
    case measure=>simp [intOf];omega
   .go_wp2_with fail
    refine (uR 4 p A c cs cK (N + 2 + 20 * (6 - m) + 2 + 2) KK KK _ (aA.aK ao)).mono ?_
    rintro e du ⟨b,rfl,mM⟩
    have gy:fS.grownBy du (some p):=bx (bL ao _) mM.2;replace aA:=mM.1;replace aG:=bx aG gy;replace aV:=aV.kept gy (λk ax e=>by have:=(aV.lt k ax).1;have:=Wx e;omega);replace eA:=eA.kept gy (λk ax e=>by have:=(eA.lt k ax).1;have:=Wx e;omega)
    cases b
    .go_wp2
     go_roundw
     case rel=>exact⟨m - 1,axZ,apa,z2,rfl,by rw [<- ki],by have:=PE.o;have:=aoD.o;omega,eA,aA.mono KK,aG⟩
     case measure=>simp [intOf];omega
    .go_wp2
     go_roundw
     case rel=>exact⟨m - 1,ps,Z,z,rfl,by rw [<- ki],by have:=PE.o;omega,aV,aA.mono KK,aG⟩
     case measure=>simp [intOf];omega
  case' inr.inl=>
   replace cy:=I cy
   go_wp2_with fail
   refine (nz L lc rs KK Y y qs KK _ cy.o _ (mE R.o aG br.o) (aV.ej iT)).mono ?_
   rintro e eB ⟨rfl,kg⟩
   have eJ:Below wr wr eB:=ai ao kg;have en:wr.grownBy eB (some p):=bL eJ _;replace aA:=aA.aK eJ;replace aG:=bx aG en;replace aV:=aV.aK kg;replace hy:=I hy
   go_wp2_with fail
   refine (Hs L lc rs KK Y y qs KK cy.o _ (mE R.o aG br.o) (aV.ej iT)).mono ?_
   rintro e fH ⟨aoR,axv,rfl,aC,jc⟩
   have mA:Below eB eB fH:=ai ao jc;have ds:eB.grownBy fH (some p):=bL mA _;replace aA:=aA.aK mA;replace aG:=bx aG ds;replace aV:=aV.aK jc
   have Bk:(gD rs qs).length= 0:=by have:=hy.o;omega
   have WZ:(((gD rs qs).length:Int) == 0)= true:=Xx.2 KK;clear aC
   go_upto_region 11 with fail
   replace aA:=aA.mono (M:=N + 130) KK
   generalize fH= ic at *
   clear WZ
  case' inr.inr.inl=>
   replace cy:=I cy
   go_wp2_with fail
   refine (nz L lc rs KK Y y qs KK _ cy.o _ (mE R.o aG br.o) (aV.ej iT)).mono ?_
   rintro e ib ⟨rfl,lu⟩
   have lv:Below wr wr ib:=ai ao lu;have fN:wr.grownBy ib (some p):=bL lv _;replace aA:=aA.aK lv;replace aG:=bx aG fN;replace aV:=aV.aK lu
   go_upto_region 11 with fail
   replace aA:=aA.mono (M:=N + 130) KK
   generalize ib= ic at *
  case' inr.inr.inr=>
   go_upto_region 11 with fail
   replace aA:=aA.mono (M:=N + 130) KK
   generalize wr= ic at *
  all_goals
   clear bC
   go_wp2_with fail
   refine (iI 24 p A c cK (N + 130) KK KK _ (aA.aK ao)).mono ?_
   rintro e yo ⟨q,rfl,⟨vv,_,hO⟩,ze⟩
   have ox:ic.grownBy yo (some p):=bx (bL ao _) ze.2;replace aA:=ze.1;replace aG:=bx aG ox;replace hO:=hO KK;replace aV:=aV.kept ox (λk ax e=>by have:=(aV.lt k ax).1;have:=Wx e;omega)
   rcases (show q= 0\/q= 1\/1 < q by omega) with rfl | rfl | aj
   .go_wp2_with fail
    refine (Mp av p A c cK (N + 132) KK (aA.aK ao) (mE R.o aG br.o) br.o).mono ?_
    rintro e BD ⟨azg,rfl,Ex⟩
    have sL:yo.grownBy BD (some p):=bx (bL ao _) Ex.2;replace aA:=Ex.1;replace aG:=bx aG sL;replace aV:=aV.kept sL (λk ax e=>by have:=(aV.lt k ax).1;have:=Wx e;omega)
    go_wp2_with fail
    refine (RS p A c cs cK (N + 140) KK _ (aA.mono KK)).mono ?_
    rintro e KG ⟨JV,rfl,_,QP⟩
    have AY:BD.grownBy KG (some p):=bx (bL ao _) QP.2;replace aA:=QP.1;replace aG:=bx aG AY;replace aV:=aV.kept AY (λk ax e=>by have:=(aV.lt k ax).1;have:=Wx e;omega)
    go_wp2_with fail
    refine (uR 2 p A c cs cK (N + 142) KK KK _ (aA.aK ao)).mono ?_
    rintro e ajR ⟨b,rfl,aej⟩
    have aIo:KG.grownBy ajR (some p):=bx (bL ao _) aej.2;replace aA:=aej.1;replace aG:=bx aG aIo;replace aV:=aV.kept aIo (λk ax e=>by have:=(aV.lt k ax).1;have:=Wx e;omega)
    go_wp2_with ((at_builtin;refine ke rfl _ _ 37 rfl w 115 i0 _ 3 24 Tryz.underlying37 bo dP dZ dV rfl WG aZ.cells iT vQ _ qs rfl (aV.alloc _) ⟨ajR,0,none⟩ 1 ⟨azg,JV,b⟩ rfl (aid _ _ _ _ _) Xz KK cg ?_;intro HX pH jQ hP sH;clear sH))
    have uw:=(aA.aK (bP _ _)).row hP (λk ax=>by have:=(aV.lt k ax).1;omega);have rL:=nR (bx aG (bL (bP _ _) _)) hP (λk ax=>(aV.lt k ax).1)
    obtain⟨g4,pI,rfl⟩:=sf jQ Wn
    go_wp2
    go_ret
    exact⟨_,_,pI,rfl,by simp;omega,jQ,uw.mono KK,rL⟩
   .go_wp2_with ((at_builtin;refine ke rfl _ _ 37 rfl w 115 i0 _ 3 24 Tryz.underlying37 bo dP dZ dV rfl WG aZ.cells iT vQ _ qs rfl (aV.alloc _) ⟨yo,0,none⟩ 1 ⟨20,1,false⟩ rfl (aid _ _ _ _ _) Xz KK cg ?_;intro HX pH jQ hP sH;clear sH))
    have uw:=(aA.aK (bP _ _)).row hP (λk ax=>by have:=(aV.lt k ax).1;omega);have rL:=nR (bx aG (bL (bP _ _) _)) hP (λk ax=>(aV.lt k ax).1)
    obtain⟨g4,pI,rfl⟩:=sf jQ Wn
    go_wp2
    go_ret
    exact⟨_,_,pI,rfl,by simp;omega,jQ,uw.mono KK,rL⟩
   .have g0:(q == 0)= false:=Xb.2 KK
    have g1:(q == 1)= false:=Xb.2 KK
    go_wp2
    go_ret
    exact⟨qs,Y,y,rfl,by omega,aV,aA.mono KK,aG⟩
theorem aAZ (f:fp) (n:Int):(lp f n).ae.length<=f.ae.length + 2:=by
 unfold lp oV Aa
 split
 .exact Xr (HT _ _) (Nat.succ_le_succ (HT _ _))
 .exact Nat.le_succ_of_le (HT _ _)
theorem acV (h2:ws) (h3:ae) (n2:ak= none->ws= []/\c2= 0) (n3:al= none->ae= []/\c3= 0) (cL:ws.length<=c2) (dS:ae.length<=c3) {m:Int} {w:World} (bp:aX 1 cE w ak ws) (bj:aX 3 aW.cells w al ae):
 Rd 238 #[.agg #[tu,se,sp,ak ws c2,al ae c3],m] w λe ah=>∃(dX dW dU:Int) (cq:List Int) (cw:List aW) (aU:QR) (d2:Nat) (bd:QR) (d3:Nat) (b:Bool),e= .returned (.tuple #[.agg #[dX,dW,dU,aU cq d2,bd cw d3],b])/\cq.length<=ws.length + 1/\cw.length<=ae.length + 2/\kq w ah aU d2 bd d3 cq cw/\Below w w ah:=by
 cases az:qf ⟨tu,se,sp,ws,ae⟩ m
 .exact (aiA tu se sp ak c2 ws al c3 ae h2 h3 n2 n3 cL dS m az w bp bj).mono λ_ _ ⟨h,aB⟩=>⟨0,0,0,[],[],none,0,none,0,false,h,by simp,by simp,MC,aB⟩
 .exact (aiB tu se sp ak c2 ws al c3 ae h2 h3 n2 n3 cL dS m az w bp bj).mono λ_ _ ⟨aU,d2,bd,d3,h,aV,aB⟩=>⟨tu,se,sp,_,_,aU,d2,bd,d3,true,h,by simp,by omega,aV,aB⟩
theorem acW (tu se sp:Int) (ak:QR) (c2:Nat) (ws:List Int) (al:QR) (c3:Nat) (ae:List aW) (h2:ws) (h3:ae) (n2:ak= none->ws= []/\c2= 0) (n3:al= none->ae= []/\c3= 0) (cL:ws.length<=c2) (dS:ae.length<=c3) (w:World) (bp:aX 1 cE w ak ws) (bj:aX 3 aW.cells w al ae):
 Rd 239 #[.agg #[tu,se,sp,ak ws c2,al ae c3]] w λe ah=>∃(dX dW dU fJ:Int) (cq:List Int) (cw:List aW) (aU:QR) (d2:Nat) (bd:QR) (d3:Nat) (b:Bool),e= .returned (.tuple #[.agg #[dX,dW,dU,aU cq d2,bd cw d3],fJ,b])/\cq.length<=ws.length + 1/\cw.length<=ae.length + 2/\kq w ah aU d2 bd d3 cq cw/\Below w w ah:=by
 cases az:oB ⟨tu,se,sp,ws,ae⟩
 .exact (aiP tu se sp ak c2 ws al c3 ae h2 h3 n2 n3 cL dS az w bp bj).mono λ_ _ ⟨h,aB⟩=>⟨0,0,0,0,[],[],none,0,none,0,false,h,by simp,by simp,MC,aB⟩
 .obtain⟨m,hm,_⟩:=Sk (f:=⟨tu,se,sp,ws,ae⟩) Zj
  exact (aiQ tu se sp ak c2 ws al c3 ae h2 h3 n2 n3 cL dS az m hm w bp bj).mono λ_ _ ⟨aU,d2,bd,d3,h,aV,aB⟩=>⟨tu,se,m,m,_,_,aU,d2,bd,d3,true,h,by have:=List.length_filter_le (λx=>!(x == m)) ws;omega,by omega,aV,aB⟩
theorem aqo (tu se sp:Int) (ak:QR) (c2:Nat) (ws:List Int) (al:QR) (c3:Nat) (ae:List aW) (h2:ws) (h3:ae) (n2:ak= none->ws= []/\c2= 0) (n3:al= none->ae= []/\c3= 0) (cL:ws.length<=c2) (dS:ae.length<=c3) (m:Int) (w:World) (bp:aX 1 cE w ak ws) (bj:aX 3 aW.cells w al ae):
 Rd 240 #[.agg #[tu,se,sp,ak ws c2,al ae c3],m] w λe ah=>∃(dX dW dU fJ:Int) (cq:List Int) (cw:List aW) (aU:QR) (d2:Nat) (bd:QR) (d3:Nat) (b:Bool),e= .returned (.tuple #[.agg #[dX,dW,dU,aU cq d2,bd cw d3],fJ,b])/\cq.length<=ws.length + 1/\cw.length<=ae.length + 2/\kq w ah aU d2 bd d3 cq cw/\Below w w ah:=by
 cases az:qq ⟨tu,se,sp,ws,ae⟩ m
 .exact (aiR tu se sp ak c2 ws al c3 ae h2 h3 n2 n3 cL dS m az w bp bj).mono λ_ _ ⟨h,aB⟩=>⟨0,0,0,0,[],[],none,0,none,0,false,h,by simp,by simp,MC,aB⟩
 .exact (aiS tu se sp ak c2 ws al c3 ae h2 h3 n2 n3 cL dS m az w bp bj).mono λ_ _ ⟨aU,d2,bd,d3,h,aV,aB⟩=>⟨tu,se,_,_,_,_,aU,d2,bd,d3,true,h,by omega,aAZ _ _,aV,aB⟩
theorem aqp (tu se sp:Int) (ak:QR) (c2:Nat) (ws:List Int) (al:QR) (c3:Nat) (ae:List aW) (h2:ws) (h3:ae) (n2:ak= none->ws= []/\c2= 0) (n3:al= none->ae= []/\c3= 0) (cL:ws.length<=c2) (dS:ae.length<=c3) (w:World) (bp:aX 1 cE w ak ws) (bj:aX 3 aW.cells w al ae):
 Rd 241 #[.agg #[tu,se,sp,ak ws c2,al ae c3]] w λe ah=>∃(dX dW dU:Int) (cq:List Int) (cw:List aW) (aU:QR) (d2:Nat) (bd:QR) (d3:Nat) (b:Bool),e= .returned (.tuple #[.agg #[dX,dW,dU,aU cq d2,bd cw d3],b])/\cq.length<=ws.length + 1/\cw.length<=ae.length + 2/\kq w ah aU d2 bd d3 cq cw/\Below w w ah:=by
 cases az:oH ⟨tu,se,sp,ws,ae⟩
 .exact (aiV tu se sp ak c2 ws al c3 ae h2 h3 n2 n3 cL dS az w bp bj).mono λ_ _ ⟨h,aB⟩=>⟨0,0,0,[],[],none,0,none,0,false,h,by simp,by simp,MC,aB⟩
 .exact (aiW tu se sp ak c2 ws al c3 ae h2 h3 n2 n3 cL dS az w bp bj).mono λ_ _ ⟨aU,d2,bd,d3,h,aV,aB⟩=>⟨tu,se,0,_,_,aU,d2,bd,d3,true,h,by omega,Nat.le_succ_of_le (HT _ _),aV,aB⟩
theorem aqn (tu se:Int) (w:World):Rd 134 #[tu,se] w λe ah=>∃(dX dW:Int) (b:Bool),e= .returned (.tuple #[.agg #[dX,dW,(0:Int),(),()],b])/\Below w w ah:=by
 cases h:xf tu se
 .exact (aiM tu se h w).mono λ_ _ ⟨h,aB⟩=>⟨0,0,false,h,aB⟩
 .exact (aGt tu se h w).mono λ_ _ ⟨h,aB⟩=>⟨tu,se,true,h,aB⟩
end Go.Proofs.YtlaaemmmbodaaaaGreatDoor
