/- Parts. -/
import Derived.Test.YtlaaemmmbodaaaaGreatDoorRs1
set_option maxHeartbeats 16000000
set_option maxRecDepth 100000
set_option linter.unnecessarySimpa false
set_option linter.unusedSimpArgs false
set_option linter.unusedVariables false
namespace Go.Proofs.YtlaaemmmbodaaaaGreatDoor
open Go.RowKit Go.G9
def zq (q:Int):List Value:=[.int .i64 (q),.int .i64 (q + 1),.int .i64 (q + 1 + 1)]
theorem anP (q:Int):(zq q).length= 3:=rfl
theorem Rs {p:Prop} (h:p:=by
 obtain rfl:k= xs.length:=by omega
 go_wp2
 go_ret
 refine⟨wy (by have:=dc.out;omega),?_,hx.out⟩
 have h:=aX.De (B:=B) (xs:=gF m 3 xs.length) gA bp (by rw [wk];exact mG) jQ eV.out (fun i x ay=>cD.out i x (by have:=(List.getElem?_eq_some_iff.1 ay).1;rwa [wk] at this) ay)
 rw [wk] at h
 exact h):p:=h
theorem anf (B:Nat) (A:Option Addr) (c:Nat) (xs:List aK) (bd:xs.length≤1048576) (m:Int) (h0:0 < m) (h1:m≤100000000) (w:World) (bR:aX B 214 3 aK.cells w (.slice A xs c) xs):
 Calls Tryz.prog 227 #[.slice A xs c,m] w fun e ah=>e= .returned (.int .i64 (m + 3 * xs.length))∧aX B 214 3 zq ah (.slice A xs c) (gF m 3 xs.length)∧w.grownBy ah (Value.slice A xs c).ownBlock:=by
 by_cases cb:xs.length= 0
 ·have kW:xs= []:=List.length_eq_zero_iff.1 cb
  subst kW
  clear cb;have fz:aX B 214 3 zq w (.slice A 0 c) (gF m 3 0):=bR.empty
  exact DN
 obtain⟨g,cap,uq,uZ,bp,hl,mG,jQ,hM⟩:=bR.block (by omega)
 injection uZ with va _ vb
 subst va vb
 have tR:=J hM;have pw:=J hl;clear hM hl bR cb
 go_in
 go_wp2
 go_loopw [1,5] (fun qV i wr=>∃(k:Nat) (q:Int) (cs:Array Value),k≤xs.length∧i= .int .i64 k∧qV= .int .i64 q∧q= m + 3 * k∧aC wr g 214 cs∧cs.size= c * 3∧ku 3 zq (gF m 3 xs.length) k cs∧w.grownBy wr (some g)) (fun _ i _=>xs.length - (intOf i).toNat)
 case atStart=>exact⟨0,m,uq,Nat.zero_le _,rfl,rfl,by simp,pw.out,tR.out,ku.zero,qe _ _⟩
 case round=>
  obtain⟨k,q,cs,ax,rfl,rfl,bf,gA,eW,aj,ck⟩:=hrel
  have av:0 < q:=by omega
  have ao:q≤200000000:=by omega
  have dc:=J bf;have eV:=J eW;have cD:=J aj;have hx:=J ck;clear bf eW aj ck
  by_cases bn:k < xs.length
  ·have ay:(gF m 3 xs.length)[k]? =some q:=by rw [AV bn,dc.out]
   have cg:=J ay;clear ay
   obtain⟨v0,c0⟩:=gA.some_ (k * 3) (by have dM:=eV.out;omega)
   have z0:=gA.frozen (k * 3)
   obtain⟨v1,au⟩:=gA.some_ (k * 3 + 1) (by have dM:=eV.out;omega)
   have ch:=gA.frozen (k * 3 + 1)
   obtain⟨v2,c2⟩:=gA.some_ (k * 3 + 2) (by have dM:=eV.out;omega)
   have z2:=gA.frozen (k * 3 + 2)
   go_wp2
   go_roundw
   case rel=>
    have ji:Go.G9.gq cs (k * 3) [.int .i64 (q),.int .i64 (q + 1),.int .i64 (q + 1 + 1)]= Go.G9.gq cs (k * 3) (zq q):=by first | exact Go.G9.Dw cs _ _ _ | rfl
    refine⟨k + 1,_,Go.G9.gq cs (k * 3) [.int .i64 (q),.int .i64 (q + 1),.int .i64 (q + 1 + 1)],by omega,by go_num,rfl,by have:=dc.out;omega,?_,?_,?_,(kO (kO (kO hx.out _) _) _)⟩
    ·exact aC.gq (k * 3) [.int .i64 (q),.int .i64 (q + 1),.int .i64 (q + 1 + 1)] gA
    ·rw [ji,oO,eV.out]
    ·rw [ji];have h:=cD.out.put cg.out (by rw [eV.out,anP];omega);exact h
   case measure=>simp [intOf];omega
  ·exact Rs
def Bd (q:Int):List Value:=[.int .i64 (q),.int .i64 (q + 1),.bool ((q + 1 + 1) % 3 == 0)]
theorem anN (q:Int):(Bd q).length= 3:=rfl
theorem acu {p:Prop} (h:p:=by
 exact aC.gq (k * 3) [.int .i64 (q),.int .i64 (q + 1),.bool ((q + 1 + 1) % 3 == 0)] gA):p:=h
theorem anc (B:Nat) (A:Option Addr) (c:Nat) (xs:List aN) (bd:xs.length≤1048576) (m:Int) (h0:0 < m) (h1:m≤100000000) (w:World) (bR:aX B 115 3 aN.cells w (.slice A xs c) xs):
 Calls Tryz.prog 146 #[.slice A xs c,m] w fun e ah=>e= .returned (.int .i64 (m + 3 * xs.length))∧aX B 115 3 Bd ah (.slice A xs c) (gF m 3 xs.length)∧w.grownBy ah (Value.slice A xs c).ownBlock:=by
 by_cases cb:xs.length= 0
 ·have kW:xs= []:=List.length_eq_zero_iff.1 cb
  subst kW
  clear cb;have fz:aX B 115 3 Bd w (.slice A 0 c) (gF m 3 0):=bR.empty
  exact DN
 obtain⟨g,cap,uq,uZ,bp,hl,mG,jQ,hM⟩:=bR.block (by omega)
 injection uZ with va _ vb
 subst va vb
 have tR:=J hM;have pw:=J hl;clear hM hl bR cb
 go_in
 go_wp2
 go_loopw [1,5] (fun qV i wr=>∃(k:Nat) (q:Int) (cs:Array Value),k≤xs.length∧i= .int .i64 k∧qV= .int .i64 q∧q= m + 3 * k∧aC wr g 115 cs∧cs.size= c * 3∧ku 3 Bd (gF m 3 xs.length) k cs∧w.grownBy wr (some g)) (fun _ i _=>xs.length - (intOf i).toNat)
 case atStart=>exact⟨0,m,uq,Nat.zero_le _,rfl,rfl,by simp,pw.out,tR.out,ku.zero,qe _ _⟩
 case round=>
  obtain⟨k,q,cs,ax,rfl,rfl,bf,gA,eW,aj,ck⟩:=hrel
  have av:0 < q:=by omega
  have ao:q≤200000000:=by omega
  have dc:=J bf;have eV:=J eW;have cD:=J aj;have hx:=J ck;clear bf eW aj ck
  by_cases bn:k < xs.length
  ·have ay:(gF m 3 xs.length)[k]? =some q:=by rw [AV bn,dc.out]
   have cg:=J ay;clear ay
   obtain⟨v0,c0⟩:=gA.some_ (k * 3) (by have dM:=eV.out;omega)
   have z0:=gA.frozen (k * 3)
   obtain⟨v1,au⟩:=gA.some_ (k * 3 + 1) (by have dM:=eV.out;omega)
   have ch:=gA.frozen (k * 3 + 1)
   obtain⟨v2,c2⟩:=gA.some_ (k * 3 + 2) (by have dM:=eV.out;omega)
   have z2:=gA.frozen (k * 3 + 2)
   go_wp2
   go_roundw
   case rel=>
    have ji:Go.G9.gq cs (k * 3) [.int .i64 (q),.int .i64 (q + 1),.bool ((q + 1 + 1) % 3 == 0)]= Go.G9.gq cs (k * 3) (Bd q):=by first | exact Go.G9.Dw cs _ _ _ | rfl
    refine⟨k + 1,_,Go.G9.gq cs (k * 3) [.int .i64 (q),.int .i64 (q + 1),.bool ((q + 1 + 1) % 3 == 0)],by omega,by go_num,rfl,by have:=dc.out;omega,?_,?_,?_,(kO (kO (kO hx.out _) _) _)⟩
    ·exact acu
    ·rw [ji,oO,eV.out]
    ·rw [ji];have h:=cD.out.put cg.out (by rw [eV.out,anN];omega);exact h
   case measure=>simp [intOf];omega
  ·exact Rs
def Bc (q:Int):List Value:=[.int .i64 (q),.int .i64 (q + 1),.bool ((q + 1 + 1) % 3 == 0)]
theorem anM (q:Int):(Bc q).length= 3:=rfl
theorem anb (B:Nat) (A:Option Addr) (c:Nat) (xs:List Out) (bd:xs.length≤1048576) (m:Int) (h0:0 < m) (h1:m≤100000000) (w:World) (bR:aX B 163 3 Out.cells w (.slice A xs c) xs):
 Calls Tryz.prog 148 #[.slice A xs c,m] w fun e ah=>e= .returned (.int .i64 (m + 3 * xs.length))∧aX B 163 3 Bc ah (.slice A xs c) (gF m 3 xs.length)∧w.grownBy ah (Value.slice A xs c).ownBlock:=by
 by_cases cb:xs.length= 0
 ·have kW:xs= []:=List.length_eq_zero_iff.1 cb
  subst kW
  clear cb;have fz:aX B 163 3 Bc w (.slice A 0 c) (gF m 3 0):=bR.empty
  exact DN
 obtain⟨g,cap,uq,uZ,bp,hl,mG,jQ,hM⟩:=bR.block (by omega)
 injection uZ with va _ vb
 subst va vb
 have tR:=J hM;have pw:=J hl;clear hM hl bR cb
 go_in
 go_wp2
 go_loopw [1,5] (fun qV i wr=>∃(k:Nat) (q:Int) (cs:Array Value),k≤xs.length∧i= .int .i64 k∧qV= .int .i64 q∧q= m + 3 * k∧aC wr g 163 cs∧cs.size= c * 3∧ku 3 Bc (gF m 3 xs.length) k cs∧w.grownBy wr (some g)) (fun _ i _=>xs.length - (intOf i).toNat)
 case atStart=>exact⟨0,m,uq,Nat.zero_le _,rfl,rfl,by simp,pw.out,tR.out,ku.zero,qe _ _⟩
 case round=>
  obtain⟨k,q,cs,ax,rfl,rfl,bf,gA,eW,aj,ck⟩:=hrel
  have av:0 < q:=by omega
  have ao:q≤200000000:=by omega
  have dc:=J bf;have eV:=J eW;have cD:=J aj;have hx:=J ck;clear bf eW aj ck
  by_cases bn:k < xs.length
  ·have ay:(gF m 3 xs.length)[k]? =some q:=by rw [AV bn,dc.out]
   have cg:=J ay;clear ay
   obtain⟨v0,c0⟩:=gA.some_ (k * 3) (by have dM:=eV.out;omega)
   have z0:=gA.frozen (k * 3)
   obtain⟨v1,au⟩:=gA.some_ (k * 3 + 1) (by have dM:=eV.out;omega)
   have ch:=gA.frozen (k * 3 + 1)
   obtain⟨v2,c2⟩:=gA.some_ (k * 3 + 2) (by have dM:=eV.out;omega)
   have z2:=gA.frozen (k * 3 + 2)
   go_wp2
   go_roundw
   case rel=>
    have ji:Go.G9.gq cs (k * 3) [.int .i64 (q),.int .i64 (q + 1),.bool ((q + 1 + 1) % 3 == 0)]= Go.G9.gq cs (k * 3) (Bc q):=by first | exact Go.G9.Dw cs _ _ _ | rfl
    refine⟨k + 1,_,Go.G9.gq cs (k * 3) [.int .i64 (q),.int .i64 (q + 1),.bool ((q + 1 + 1) % 3 == 0)],by omega,by go_num,rfl,by have:=dc.out;omega,?_,?_,?_,(kO (kO (kO hx.out _) _) _)⟩
    ·exact acu
    ·rw [ji,oO,eV.out]
    ·rw [ji];have h:=cD.out.put cg.out (by rw [eV.out,anM];omega);exact h
   case measure=>simp [intOf];omega
  ·exact Rs
open Go.RowKit Go.G9
def Be (q:Int):List Value:=[.int .i64 (q),.string (vj (q + 1).toNat),.int .i64 (q + 1 + 1),.bool ((q + 1 + 1 + 1) % 3 == 0),.bool ((q + 1 + 1 + 1 + 1) % 3 == 0),.bool ((q + 1 + 1 + 1 + 1 + 1) % 3 == 0),.int .i64 (q + 1 + 1 + 1 + 1 + 1 + 1)]
theorem anO (q:Int):(Be q).length= 7:=rfl
theorem ane (B:Nat) (A:Option Addr) (c:Nat) (xs:List aM) (bd:xs.length≤1048576) (m:Int) (h0:0 < m) (h1:m≤100000000) (w:World) (bR:aX B 89 7 aM.cells w (.slice A xs c) xs):
 Calls Tryz.prog 145 #[.slice A xs c,m] w fun e ah=>e= .returned (.int .i64 (m + 7 * xs.length))∧aX B 89 7 Be ah (.slice A xs c) (gF m 7 xs.length)∧w.grownBy ah (Value.slice A xs c).ownBlock:=by
 by_cases cb:xs.length= 0
 ·have kW:xs= []:=List.length_eq_zero_iff.1 cb
  subst kW
  clear cb;have fz:aX B 89 7 Be w (.slice A 0 c) (gF m 7 0):=bR.empty
  exact DN
 obtain⟨g,cap,uq,uZ,bp,hl,mG,jQ,hM⟩:=bR.block (by omega)
 injection uZ with va _ vb
 subst va vb
 have tR:=J hM;have pw:=J hl;clear hM hl bR cb
 go_in
 go_wp2
 go_loopw [1,5] (fun qV i wr=>∃(k:Nat) (q:Int) (cs:Array Value),k≤xs.length∧i= .int .i64 k∧qV= .int .i64 q∧q= m + 7 * k∧aC wr g 89 cs∧cs.size= c * 7∧ku 7 Be (gF m 7 xs.length) k cs∧w.grownBy wr (some g)) (fun _ i _=>xs.length - (intOf i).toNat)
 case atStart=>exact⟨0,m,uq,Nat.zero_le _,rfl,rfl,by simp,pw.out,tR.out,ku.zero,qe _ _⟩
 case round=>
  obtain⟨k,q,cs,ax,rfl,rfl,bf,gA,eW,aj,ck⟩:=hrel
  have av:0 < q:=by omega
  have ao:q≤200000000:=by omega
  have dc:=J bf;have eV:=J eW;have cD:=J aj;have hx:=J ck;clear bf eW aj ck
  by_cases bn:k < xs.length
  ·have dU:=gA.lt
   have ay:(gF m 7 xs.length)[k]? =some q:=by rw [AV bn,dc.out]
   have cg:=J ay;clear ay
   obtain⟨v0,c0⟩:=gA.some_ (k * 7) (by have dM:=eV.out;omega)
   have z0:=gA.frozen (k * 7)
   obtain⟨v1,au⟩:=gA.some_ (k * 7 + 1) (by have dM:=eV.out;omega)
   have ch:=gA.frozen (k * 7 + 1)
   obtain⟨v2,c2⟩:=gA.some_ (k * 7 + 2) (by have dM:=eV.out;omega)
   have z2:=gA.frozen (k * 7 + 2)
   obtain⟨v3,c3⟩:=gA.some_ (k * 7 + 3) (by have dM:=eV.out;omega)
   have z3:=gA.frozen (k * 7 + 3)
   obtain⟨v4,c4⟩:=gA.some_ (k * 7 + 4) (by have dM:=eV.out;omega)
   have z4:=gA.frozen (k * 7 + 4)
   obtain⟨v5,c5⟩:=gA.some_ (k * 7 + 5) (by have dM:=eV.out;omega)
   have z5:=gA.frozen (k * 7 + 5)
   obtain⟨v6,rr⟩:=gA.some_ (k * 7 + 6) (by have dM:=eV.out;omega)
   have fl:=gA.frozen (k * 7 + 6)
   go_wp2_with fail
   refine (Px (q + 1) (by omega) (by omega) _).mono ?_
   rintro e bg ⟨rfl,bE⟩
   have oE:aC bg g 89 (Go.G9.gq cs (k * 7) [.int .i64 (q)]):=(aC.gq (k * 7) [.int .i64 (q)] gA).U bE (by simpa using dU);clear c0 z0 au ch c2 z2 c3 z3 c4 z4 c5 z5 rr fl;have NS:g < bg.heap.size:=oE.lt;replace dU:=NS
   obtain⟨v1,au⟩:=oE.some_ (k * 7 + 1) (by have dM:=eV.out;(try simp only [oO]);omega)
   have ch:=oE.frozen (k * 7 + 1)
   obtain⟨v2,c2⟩:=oE.some_ (k * 7 + 2) (by have dM:=eV.out;(try simp only [oO]);omega)
   have z2:=oE.frozen (k * 7 + 2)
   obtain⟨v3,c3⟩:=oE.some_ (k * 7 + 3) (by have dM:=eV.out;(try simp only [oO]);omega)
   have z3:=oE.frozen (k * 7 + 3)
   obtain⟨v4,c4⟩:=oE.some_ (k * 7 + 4) (by have dM:=eV.out;(try simp only [oO]);omega)
   have z4:=oE.frozen (k * 7 + 4)
   obtain⟨v5,c5⟩:=oE.some_ (k * 7 + 5) (by have dM:=eV.out;(try simp only [oO]);omega)
   have z5:=oE.frozen (k * 7 + 5)
   obtain⟨v6,rr⟩:=oE.some_ (k * 7 + 6) (by have dM:=eV.out;(try simp only [oO]);omega)
   have fl:=oE.frozen (k * 7 + 6)
   go_wp2
   go_roundw
   case rel=>
    have ji:Go.G9.gq (Go.G9.gq cs (k * 7) [.int .i64 (q)]) (k * 7 + 1) [.string (vj (q + 1).toNat),.int .i64 (q + 1 + 1),.bool ((q + 1 + 1 + 1) % 3 == 0),.bool ((q + 1 + 1 + 1 + 1) % 3 == 0),.bool ((q + 1 + 1 + 1 + 1 + 1) % 3 == 0),.int .i64 (q + 1 + 1 + 1 + 1 + 1 + 1)]= Go.G9.gq cs (k * 7) (Be q):=by first | exact Go.G9.Dw cs _ _ _ | rfl
    refine⟨k + 1,_,Go.G9.gq (Go.G9.gq cs (k * 7) [.int .i64 (q)]) (k * 7 + 1) [.string (vj (q + 1).toNat),.int .i64 (q + 1 + 1),.bool ((q + 1 + 1 + 1) % 3 == 0),.bool ((q + 1 + 1 + 1 + 1) % 3 == 0),.bool ((q + 1 + 1 + 1 + 1 + 1) % 3 == 0),.int .i64 (q + 1 + 1 + 1 + 1 + 1 + 1)],by omega,by go_num,rfl,by have:=dc.out;omega,?_,?_,?_,(kO (kO (kO (kO (kO (kO (pC (kO hx.out _) (lz bE _)) _) _) _) _) _) _)⟩
    ·exact aC.gq (k * 7 + 1) [.string (vj (q + 1).toNat),.int .i64 (q + 1 + 1),.bool ((q + 1 + 1 + 1) % 3 == 0),.bool ((q + 1 + 1 + 1 + 1) % 3 == 0),.bool ((q + 1 + 1 + 1 + 1 + 1) % 3 == 0),.int .i64 (q + 1 + 1 + 1 + 1 + 1 + 1)] oE
    ·rw [ji,oO,eV.out]
    ·rw [ji];have h:=cD.out.put cg.out (by rw [eV.out,anO];omega);exact h
   case measure=>simp [intOf];omega
  ·obtain rfl:k= xs.length:=by omega
   go_wp2
   go_ret
   refine⟨wy (by have:=dc.out;omega),?_,hx.out⟩
   have h:=aX.De (B:=B) (xs:=gF m 7 xs.length) gA bp (by rw [wk];exact mG) jQ eV.out (fun i x ay=>cD.out i x (by have:=(List.getElem?_eq_some_iff.1 ay).1;rwa [wk] at this) ay)
   rw [wk] at h
   exact h
open Go.RowKit Go.G9
theorem afG {T:Type} {p:T→Bool} {xs:List T} {k:Nat} (h:hI (fun i=>!jg p xs i) k= true):(xs.take k).any p= false:=by
 cases aG:(xs.take k).any p with
 | false=>rfl
 | true=>
  obtain⟨x,ay,aR⟩:=List.any_eq_true.1 aG
  obtain⟨m,hm⟩:=List.mem_iff_getElem?.1 ay
  rw [List.getElem?_take] at hm
  split at hm
  ·rename_i bn
   have:=oV.1 h m bn
   simp [jg,hm,aR] at this
  ·cases hm
theorem afH {T:Type} {p:T→Bool} {xs:List T} {k m:Nat} {x:T} (hm:m < k) (ay:xs[m]? =some x) (aR:p x= true):(xs.take k).any p= true:=
 List.any_eq_true.2 ⟨x,List.mem_iff_getElem?.2 ⟨m,by rw [List.getElem?_take,if_pos hm];exact ay⟩,aR⟩
theorem Qf {T:Type} {sz:Nat} {f:T→List Value} {w:World} {A:Option Addr} {xs:List T} (h:aJ sz f w A xs) (k:Nat):aJ sz f w A (xs.take k):=by
 intro bd
 have zb:0 < xs.length:=by simp at bd;omega
 obtain⟨b,off,h1,h2,h3⟩:=h zb
 exact⟨b,off,h1,h2,fun i x ay j u hu=>h3 i x (by rw [List.getElem?_take] at ay;split at ay;exact ay;cases ay) j u hu⟩
theorem Bo {xs:List aM} {j:Nat} {x y:aM} (ay:xs[j + 1]? =some x) (hy:xs[j]? =some y):rU xs (j + 1)= (rT x && (decide (y.id < x.id) && !(xs.take (j + 1)).any (fun z=>z.name.toList == x.name.toList))):=by
 simp only [rU,ay,hy]
theorem aoR (nm:ByteArray) (g:Nat) (x:aM) (W:World) (ck:W.cell? ⟨g,1,none⟩ =some (.string nm)) (aT:g < W.heap.size):
 Calls Tryz.prog 214 (#[.agg #[x.id,x.name,x.gH,x.second,x.lN,x.mr,x.hv]] ++ #[.pointer (some ⟨g,0,none⟩)]) W fun e ah=>e= .returned (.bool (x.name.toList == nm.toList))∧Below W W ah:=by
 cases aE:x.name.toList == nm.toList
 all_goals
  go_in
  go_wp2
  go_ret
  exact⟨rfl,ca _ _⟩
theorem abX {p:Prop} (h:p:=by
 obtain rfl:k= xs.length:=by omega
 go_wp2
 go_ret
 exact⟨ep (by rw [kq,cJ.out];simp;omega),aE⟩):p:=h
theorem GZ (A:Option Addr) (c:Nat) (xs:List aM) (bd:xs.length≤1048576) (aG:xs.length≤c) (v:Bool) (az:kq xs= v) (w:World) (bN:aJ 7 aM.cells w A xs):
 Calls Tryz.prog 133 #[.slice A xs c] w fun e ah=>e= .returned v∧Below w w ah:=by
 subst az
 go_in
 go_wp2
 go_loopw [7] (fun i wr=>∃k:Nat,k≤xs.length∧i= .int .i64 k∧hI (rU xs) k= true∧Below w w wr) (fun i _=>xs.length - (intOf i).toNat)
 case atStart=>exact⟨0,Nat.zero_le _,rfl,rfl,Below.refl _ _⟩
 case round=>
  obtain⟨k,ax,rfl,aT,aE⟩:=hrel
  have cJ:=J aT;clear aT
  by_cases bn:k < xs.length
  ·have Ap:(k:Int)≤(c:Int):=by omega
   have NC:=bN.U aE
   obtain⟨b,off,x,rfl,dU,ay,bq⟩:=bN.at_ aE bn
   obtain⟨id,nm,rk,af,fy,am,ee,aZ⟩:=x
   have nv:=fun j=>boxed wr #[id,nm,rk,af,fy,am,ee] 89 j
   have n0:=nv 0 _ rfl;have n1:=nv 1 _ rfl;have n2:=nv 2 _ rfl;have n3:=nv 3 _ rfl;have n4:=nv 4 _ rfl;have n5:=nv 5 _ rfl;have n6:=nv 6 _ rfl;clear nv
   obtain⟨d,bS⟩ :∃d,(xs.take k).any (fun z=>z.name.toList == nm.toList)= d:=⟨_,rfl⟩
   have zQ:Hid (∀W MD,Below (wr.alloc (.cells #[id,nm,rk,af,fy,am,ee] 89)).heap.size (wr.alloc (.cells #[id,nm,rk,af,fy,am,ee] 89)) W→
     Calls Tryz.prog 213 #[.slice (some ⟨b,off,none⟩) k MD,.func (.func 214) #[] #[.pointer (some ⟨wr.heap.size,0,none⟩)]] W fun e ah=>e= .returned (.bool d)∧Below W W ah):=J fun W MD bK=>by
    have qO:(xs.take k).length= k:=by rw [List.length_take];omega
    have bp:=aC.U (aC.new wr 89 #[id,nm,rk,af,fy,am,ee]) bK (by simp);have h:=agq (some ⟨b,off,none⟩) MD (xs.take k) (by omega) 214 #[.pointer (some ⟨wr.heap.size,0,none⟩)] (Bp Tryz.func214 (by kernel_rfl) (by kernel_rfl)) (fun z=>z.name.toList == nm.toList) d bS W ((Qf NC k).U (ai (ca _ _) bK)) (fun x _ V ic=>aoR nm wr.heap.size x V ((bp.to ic).cell 1) (bp.to ic).lt)
    rw [qO] at h;exact h
   have fD:=J bS;clear bS NC
   cases k with
   | zero=>
    have aiO:d= false:=by rw [← fD.out];rfl
    subst aiO
    have f0:=bq 0 _ rfl;have f1:=bq 1 _ rfl;have f2:=bq 2 _ rfl;have f3:=bq 3 _ rfl;have f4:=bq 4 _ rfl;have f5:=bq 5 _ rfl;have f6:=bq 6 _ rfl
    simp only [Nat.zero_mul,Nat.add_zero] at f0
    simp only [Nat.zero_mul] at f1
    simp only [Nat.zero_mul] at f2
    simp only [Nat.zero_mul] at f3
    simp only [Nat.zero_mul] at f4
    simp only [Nat.zero_mul] at f5
    simp only [Nat.zero_mul] at f6
    have g0:=f0 (aB.self _);have g1:=f1 (aB.self _);have g2:=f2 (aB.self _);have g3:=f3 (aB.self _);have g4:=f4 (aB.self _);have g5:=f5 (aB.self _);have g6:=f6 (aB.self _)
    simp only [aB.self] at g0
    simp only [aB.self] at g1
    simp only [aB.self] at g2
    simp only [aB.self] at g3
    simp only [aB.self] at g4
    simp only [aB.self] at g5
    simp only [aB.self] at g6
    have cg:=J ay;clear ay bq
    cases az:rT ⟨id,nm,rk,af,fy,am,ee,aZ⟩
    all_goals
     have bD:=J az
     go_wp2
     refine eC (by kernel_rfl) (by kernel_rfl) ?_
     repeat (go_big_quiet_step ((first | (go_at_call 212;exact aB.call _ (Nat.le_refl _) (JR ⟨id,nm,rk,af,fy,am,ee,aZ⟩ _ bD.out _)) | (go_at_call 213;exact aB.call _ (Nat.le_refl _) (zQ.out _ _ (aB.U _))))))
     refine wpQuiet_nil ?_
     intro K
     go_wp2
    ·go_ret
     exact⟨ep (by rw [kq,uj bn (by simp [rU,cg.out,az])];rfl),ai aE (ai (ca _ _) K.U)⟩
    ·go_roundw
     case rel=>exact⟨1,by omega,by go_num,np cJ.out (by simp [rU,cg.out,az]),ai aE (ai (ca _ _) K.U)⟩
     case measure=>simp [intOf];omega
   | succ j=>
    obtain⟨cE,rO,y,gy,_,hy,dh⟩:=bN.at_ aE (k:=j) (by omega)
    simp only [Option.some.injEq,Addr.mk.injEq,and_true] at gy
    obtain⟨rfl,rfl⟩:=gy
    obtain⟨tN,DH,DK,ys,zE,oq,DI,DJ⟩:=y
    have f0:=bq 0 _ rfl;have f1:=bq 1 _ rfl;have f2:=bq 2 _ rfl;have f3:=bq 3 _ rfl;have f4:=bq 4 _ rfl;have f5:=bq 5 _ rfl;have f6:=bq 6 _ rfl
    simp only [Nat.add_zero] at f0
    have g0:=f0 (aB.self _);have g1:=f1 (aB.self _);have g2:=f2 (aB.self _);have g3:=f3 (aB.self _);have g4:=f4 (aB.self _);have g5:=f5 (aB.self _);have g6:=f6 (aB.self _)
    simp only [aB.self] at g0
    simp only [aB.self] at g1
    simp only [aB.self] at g2
    simp only [aB.self] at g3
    simp only [aB.self] at g4
    simp only [aB.self] at g5
    simp only [aB.self] at g6
    have kK:=dh 0 _ rfl
    simp only [Nat.add_zero] at kK
    have asf:=fun K:aB (wr.alloc _).heap.size (wr.alloc (.cells #[id,nm,rk,af,fy,am,ee] 89))=>kK (K.drop (ca _ _))
    simp only [aB.drop] at asf
    have cg:=J ay;clear ay bq;have iv:=J hy;clear hy dh kK
    cases az:rT ⟨id,nm,rk,af,fy,am,ee,aZ⟩
    ·have bD:=J az
     go_wp2
     refine eC (by kernel_rfl) (by kernel_rfl) ?_
     repeat (go_big_quiet_step ((first | (go_at_call 212;exact aB.call _ (Nat.le_refl _) (JR ⟨id,nm,rk,af,fy,am,ee,aZ⟩ _ bD.out _)) | (go_at_call 213;exact aB.call _ (Nat.le_refl _) (zQ.out _ _ (aB.U _))))))
     refine wpQuiet_nil ?_
     intro K
     go_wp2
     go_ret
     exact⟨ep (by rw [kq,uj bn (by simp [rU,cg.out,iv.out,az])];rfl),ai aE (ai (ca _ _) K.U)⟩
    ·have bD:=J az
     by_cases hid:tN < id
     ·have hle:decide (id≤tN)= false:=decide_eq_false (by omega)
      cases d
      all_goals
       go_wp2
       refine eC (by kernel_rfl) (by kernel_rfl) ?_
       repeat (go_big_quiet_step ((first | (go_at_call 212;exact aB.call _ (Nat.le_refl _) (JR ⟨id,nm,rk,af,fy,am,ee,aZ⟩ _ bD.out _)) | (go_at_call 213;exact aB.call _ (Nat.le_refl _) (zQ.out _ _ (aB.U _))))))
       refine wpQuiet_nil ?_
       intro K
       go_wp2
      ·go_roundw
       case rel=>exact⟨j + 1 + 1,by omega,by go_num,np cJ.out (by rw [Bo cg.out iv.out,az,fD.out,decide_eq_true (show (aM.id ⟨tN,DH,DK,ys,zE,oq,DI,DJ⟩) < (aM.id ⟨id,nm,rk,af,fy,am,ee,aZ⟩) from hid)];rfl),ai aE (ai (ca _ _) K.U)⟩
       case measure=>simp [intOf];omega
      ·go_ret
       exact⟨ep (by rw [kq,uj bn (by rw [Bo cg.out iv.out,az,fD.out,decide_eq_true (show (aM.id ⟨tN,DH,DK,ys,zE,oq,DI,DJ⟩) < (aM.id ⟨id,nm,rk,af,fy,am,ee,aZ⟩) from hid)];rfl)];rfl),ai aE (ai (ca _ _) K.U)⟩
     ·go_wp2
      refine eC (by kernel_rfl) (by kernel_rfl) ?_
      repeat (go_big_quiet_step ((first | (go_at_call 212;exact aB.call _ (Nat.le_refl _) (JR ⟨id,nm,rk,af,fy,am,ee,aZ⟩ _ bD.out _)) | (go_at_call 213;exact aB.call _ (Nat.le_refl _) (zQ.out _ _ (aB.U _))))))
      refine wpQuiet_nil ?_
      intro K
      go_wp2
      go_ret
      exact⟨ep (by rw [kq,uj bn (by rw [Bo cg.out iv.out,az,decide_eq_false (show¬(aM.id ⟨tN,DH,DK,ys,zE,oq,DI,DJ⟩) < (aM.id ⟨id,nm,rk,af,fy,am,ee,aZ⟩) from by show¬(tN < id);omega)];rfl)];rfl),ai aE (ai (ca _ _) K.U)⟩
  ·exact abX
open Go.RowKit Go.G9
theorem JO {T:Type} (p:T→Bool):∀xs:List T,(xs.findIdx? p= none∧xs.find? p= none)∨∃(k:Nat) (x:T),xs.findIdx? p= some k∧xs[k]? =some x∧xs.find? p= some x
 | []=> .inl ⟨rfl,rfl⟩
 | y ::ys=>by
  cases aR:p y
  ·rcases JO p ys with ⟨h1,h2⟩ | ⟨k,x,h1,h2,h3⟩
   ·left;simp [List.findIdx?_cons,aR,h1,h2]
   ·right;exact⟨k + 1,x,by simp [List.findIdx?_cons,aR,h1],by simpa using h2,by simp [aR,h3]⟩
  ·right;exact⟨0,y,by simp [List.findIdx?_cons,aR],rfl,by simp [aR]⟩
theorem rG {T:Type} {p:T→Bool} {xs:List T} {x:T} (h:xs.find? p= some x):∃k:Nat,oJ p xs= k∧xs[k]? =some x:=by
 rcases JO p xs with ⟨h1,h2⟩ | ⟨k,y,h1,h2,h3⟩
 ·rw [h2] at h;cases h
 ·rw [h3] at h;cases h;exact⟨k,by simp [oJ,h1],h2⟩
theorem CP {T:Type} {p:T→Bool} {xs:List T} (h:xs.find? p= none):oJ p xs= -1:=by
 rcases JO p xs with ⟨h1,h2⟩ | ⟨k,y,h1,h2,h3⟩
 ·simp [oJ,h1]
 ·rw [h3] at h;cases h
def hA (rs:List aM) (id:Int):Option aM:=rs.find? (fun r=>r.id == id)
def eH (n:Int):Bool:=fc n 1 99
def kn (r:aM) (q:aN):Bool:=r.second && !q.sec
theorem iN (n:Int) (v:Bool) (az:eH n= v) (w:World):Calls Tryz.prog 123 #[n] w fun e ah=>e= .returned v∧ah= w:=by
 go_in
 go_wp2_with (go_at_call 79;refine (je _ _ _ _ az _).mono ?_;rintro e ah ⟨rfl,rfl⟩)
 go_ret
 exact⟨rfl,rfl⟩
theorem iA (n:Int) (v:Bool) (az:eH n= v) (w:World):Calls Tryz.prog 162 #[n] w fun e ah=>e= .returned v∧ah= w:=by
 go_in
 go_wp2_with (go_at_call 186;refine (jv _ _ _ _ az _).mono ?_;rintro e ah ⟨rfl,rfl⟩)
 go_ret
 exact⟨rfl,rfl⟩
theorem qY (A:Option Addr) (c:Nat) (rs:List aM) (bd:rs.length≤1048576) (q:aN) (r:aM) (bz:hA rs q.fU= some r) (w:World) (bN:aJ 7 aM.cells w A rs):
 Calls Tryz.prog 69 #[.slice A rs c,.agg #[q.fU,q.mover,q.sec]] w fun e ah=>e= .returned (.agg #[r.id,r.name,r.gH,r.second,r.lN,r.mr,r.hv])∧Below w w ah:=by
 obtain⟨k,hi,ax⟩:=rG bz
 have bn:k < rs.length:=(List.getElem?_eq_some_iff.1 ax).1;have hP:=J hi;clear hi bz
 go_in
 go_upto_region 1 with fail
 refine fp fun arP av ej ae=>?_
 replace bN:=bN.U av;have I:=av;have fA:=ej.cK;obtain⟨z0,ch,z2,z3,z4,z5,fl⟩:=ae.qC
 go_wp2_with fail
 refine (Ds A c rs bd q.fU _ hP.out _ (bN.U aw)).mono ?_
 rintro e aQ ⟨rfl,aP⟩
 have ao:=be arP aP;replace I:=ai I ao;replace bN:=bN.U ao;clear fA;replace ae:=ae.to ao;clear z0 ch z2 z3 z4 z5 fl;obtain⟨z0,ch,z2,z3,z4,z5,fl⟩:=ae.qC
 obtain⟨b,off,fS,rfl,dU,ay,bq⟩:=bN.at_ (Below.refl _ _) bn
 obtain rfl:r= fS:=Option.some.inj (ax.symm.trans ay)
 have f0:=bq 0 _ rfl;have f1:=bq 1 _ rfl;have f2:=bq 2 _ rfl;have f3:=bq 3 _ rfl;have f4:=bq 4 _ rfl;have f5:=bq 5 _ rfl;have f6:=bq 6 _ rfl
 simp only [Nat.add_zero] at f0
 have g0:=f0 (aB.self _);have g1:=f1 (aB.self _);have g2:=f2 (aB.self _);have g3:=f3 (aB.self _);have g4:=f4 (aB.self _);have g5:=f5 (aB.self _);have g6:=f6 (aB.self _)
 simp only [aB.self] at g0
 simp only [aB.self] at g1
 simp only [aB.self] at g2
 simp only [aB.self] at g3
 simp only [aB.self] at g4
 simp only [aB.self] at g5
 simp only [aB.self] at g6
 clear ay bq ax;have ez:=ae.FB
 go_wp2
 clear z0 ch z2 z3 z4 z5 fl
 refine HI 0 fun cQ aD=>?_
 replace I:=aD.aG I;replace ae:=aD.EZ ae
 have z0:=ae.qC
 exact hc ⟨rfl,I⟩ (by simp [results,Tryz.results69,go_sem,z0])
theorem vi (A:Option Addr) (c:Nat) (rs:List aM) (bd:rs.length≤1048576) (q:aN) (r:aM) (bz:hA rs q.fU= some r) (v:Bool) (az:kn r q= v) (w:World) (bN:aJ 7 aM.cells w A rs):
 Calls Tryz.prog 198 #[.slice A rs c,.agg #[q.fU,q.mover,q.sec]] w fun e ah=>e= .returned v∧Below w w ah:=by
 subst az
 obtain⟨qr,cp,qs⟩:=q
 obtain⟨id,nm,rk,af,fy,am,ee,aZ⟩:=r
 go_in
 go_wp2_with fail
 refine (qY A c rs bd ⟨qr,cp,qs⟩ ⟨id,nm,rk,af,fy,am,ee,aZ⟩ bz _ (bN.U (ca _ _))).mono ?_
 rintro e bg ⟨rfl,bE⟩
 have ej:=(aC.new w 115 #[qr,cp,qs]).U bE (by simp);have gn:=(ej.cell 2).trans (show _= some (.bool qs) from rfl);clear bz
 have sx:∀W:World,(Instr.field 89 (.agg #[id,nm,rk,af,fy,am,ee]) 3).run Tryz.prog W= .ok (.bool af) W:=fun _=>by kernel_rfl
 cases af <;> cases qs
 all_goals
  go_wp2
  go_ret
  exact⟨by simp [kn],ai (ca _ _) bE⟩
theorem pK (A:Option Addr) (c:Nat) (rs:List aM) (bd:rs.length≤1048576) (q:aN) (r:aM) (bz:hA rs q.fU= some r) (v:Bool) (az:kn r q= v) (w:World) (bN:aJ 7 aM.cells w A rs):
 Calls Tryz.prog 163 #[.slice A rs c,.agg #[q.fU,q.mover,q.sec]] w fun e ah=>e= .returned v∧Below w w ah:=by
 subst az
 obtain⟨k,hi,ax⟩:=rG bz
 have bn:k < rs.length:=(List.getElem?_eq_some_iff.1 ax).1;have hP:=J hi;clear hi bz
 obtain⟨b,off,fS,rfl,dU,ay,bq⟩:=bN.at_ (ca w (.cells #[q.fU,q.mover,q.sec] 115)) bn
 obtain rfl:r= fS:=Option.some.inj (ax.symm.trans ay)
 obtain⟨qr,cp,qs⟩:=q
 obtain⟨id,nm,rk,af,fy,am,ee,aZ⟩:=r
 have g3:=bq 3 _ rfl (aB.self _)
 simp only [aB.self] at g3
 clear bq ay
 cases af <;> cases qs
 all_goals
  go_in
  go_wp2_with fail
  refine (vg _ c rs bd qr _ hP.out _ (bN.U (ca _ _))).mono ?_
  rintro e bg ⟨rfl,rfl⟩
  go_wp2
  go_ret
  exact⟨by simp [kn],ca _ _⟩
theorem CZ (A:Option Addr) (c:Nat) (rs:List aM) (bd:rs.length≤1048576) (q:aN) (r:aM) (bz:hA rs q.fU= some r) (w:World) (bN:aJ 7 aM.cells w A rs):
 Calls Tryz.prog 164 #[.slice A rs c,.agg #[q.fU,q.mover,q.sec]] w fun e ah=>e= .returned r.gH∧Below w w ah:=by
 obtain⟨k,hi,ax⟩:=rG bz
 have bn:k < rs.length:=(List.getElem?_eq_some_iff.1 ax).1;have hP:=J hi;clear hi bz
 obtain⟨b,off,fS,rfl,dU,ay,bq⟩:=bN.at_ (ca w (.cells #[q.fU,q.mover,q.sec] 115)) bn
 obtain rfl:r= fS:=Option.some.inj (ax.symm.trans ay)
 obtain⟨qr,cp,qs⟩:=q
 obtain⟨id,nm,rk,af,fy,am,ee,aZ⟩:=r
 have g2:=bq 2 _ rfl (aB.self _)
 simp only [aB.self] at g2
 clear bq ay
 go_in
 go_wp2_with fail
 refine (vg _ c rs bd qr _ hP.out _ (bN.U (ca _ _))).mono ?_
 rintro e bg ⟨rfl,rfl⟩
 go_wp2
 go_ret
 exact⟨rfl,ca _ _⟩
theorem JT (A:Option Addr) (c:Nat) (xs:List aM) (bd:xs.length≤1048576) (v:Bool) (az:kq xs= v) (w:World) (bN:aJ 7 aM.cells w A xs):
 Calls Tryz.prog 135 #[.slice A xs c] w fun e ah=>e= .returned v∧Below w w ah:=by
 subst az
 go_in
 go_wp2
 go_loopw [3,4] (fun i _ wr=>∃k:Nat,k≤xs.length∧k≤9∧i= .int .i64 k∧hI (rU xs) k= true∧Below w w wr) (fun i _ _=>xs.length - (intOf i).toNat)
 case atStart=>exact⟨0,Nat.zero_le _,by omega,rfl,rfl,Below.refl _ _⟩
 case round=>
  obtain⟨k,ax,atQ,rfl,aT,aE⟩:=hrel
  have cJ:=J aT;clear aT
  by_cases bn:k < xs.length
  ·by_cases h9:k≤8
   ·obtain⟨b,off,x,uv,dU,ay,bq⟩:=bN.at_ aE bn
    have NC:=bN.U aE
    subst uv
    obtain⟨id,nm,rk,af,fy,am,ee,aZ⟩:=x
    cases k with
    | zero=>
     have f0:=bq 0 _ rfl;have f1:=bq 1 _ rfl;have f2:=bq 2 _ rfl;have f3:=bq 3 _ rfl;have f4:=bq 4 _ rfl;have f5:=bq 5 _ rfl;have f6:=bq 6 _ rfl
     simp only [Nat.zero_mul,Nat.add_zero] at f0
     simp only [Nat.zero_mul] at f1
     simp only [Nat.zero_mul] at f2
     simp only [Nat.zero_mul] at f3
     simp only [Nat.zero_mul] at f4
     simp only [Nat.zero_mul] at f5
     simp only [Nat.zero_mul] at f6
     have g0:=f0 (aB.self _);have g1:=f1 (aB.self _);have g2:=f2 (aB.self _);have g3:=f3 (aB.self _);have g4:=f4 (aB.self _);have g5:=f5 (aB.self _);have g6:=f6 (aB.self _)
     simp only [aB.self] at g0
     simp only [aB.self] at g1
     simp only [aB.self] at g2
     simp only [aB.self] at g3
     simp only [aB.self] at g4
     simp only [aB.self] at g5
     simp only [aB.self] at g6
     have cg:=J ay;clear ay bq
     cases az:rT ⟨id,nm,rk,af,fy,am,ee,aZ⟩
     all_goals
      have bD:=J az
      go_wp2
      refine eC (by kernel_rfl) (by kernel_rfl) ?_
      repeat (go_big_quiet_step ((go_at_call 215;exact aB.call _ (Nat.le_refl _) (JU ⟨id,nm,rk,af,fy,am,ee,aZ⟩ _ bD.out _))))
      refine wpQuiet_nil ?_
      intro K
      go_wp2
     ·go_ret
      exact⟨ep (by rw [kq,uj bn (by simp [rU,cg.out,az])];rfl),ai aE K.U⟩
     ·go_loopw [4] (fun j HS=>j= .int .i64 0∧Below w w HS) (fun _ _=>0)
      case atStart=>exact⟨rfl,ai aE K.U⟩
      case round=>
       obtain⟨rfl,aP⟩:=hrel
       go_wp2
       go_roundw
       case rel=>exact⟨1,by omega,by omega,by go_num,np cJ.out (by simp [rU,cg.out,az]),aP⟩
       case measure=>simp [intOf];omega
    | succ j=>
     obtain⟨cE,rO,y,gy,_,hy,dh⟩:=bN.at_ aE (k:=j) (by omega)
     simp only [Option.some.injEq,Addr.mk.injEq,and_true] at gy
     obtain⟨rfl,rfl⟩:=gy
     obtain⟨tN,DH,DK,ys,zE,oq,DI,DJ⟩:=y
     have f0:=bq 0 _ rfl;have f1:=bq 1 _ rfl;have f2:=bq 2 _ rfl;have f3:=bq 3 _ rfl;have f4:=bq 4 _ rfl;have f5:=bq 5 _ rfl;have f6:=bq 6 _ rfl
     simp only [Nat.add_zero] at f0
     have g0:=f0 (aB.self _);have g1:=f1 (aB.self _);have g2:=f2 (aB.self _);have g3:=f3 (aB.self _);have g4:=f4 (aB.self _);have g5:=f5 (aB.self _);have g6:=f6 (aB.self _)
     simp only [aB.self] at g0
     simp only [aB.self] at g1
     simp only [aB.self] at g2
     simp only [aB.self] at g3
     simp only [aB.self] at g4
     simp only [aB.self] at g5
     simp only [aB.self] at g6
     have kK:=dh 0 _ rfl
     simp only [Nat.add_zero] at kK
     have cg:=J ay;clear ay bq;have iv:=J hy;clear hy dh
     cases az:rT ⟨id,nm,rk,af,fy,am,ee,aZ⟩
     ·have bD:=J az
      go_wp2
      refine eC (by kernel_rfl) (by kernel_rfl) ?_
      repeat (go_big_quiet_step ((go_at_call 215;exact aB.call _ (Nat.le_refl _) (JU ⟨id,nm,rk,af,fy,am,ee,aZ⟩ _ bD.out _))))
      refine wpQuiet_nil ?_
      intro K
      go_wp2
      go_ret
      exact⟨ep (by rw [kq,uj bn (by rw [Bo cg.out iv.out,az];rfl)];rfl),ai aE K.U⟩
     ·have bD:=J az
      by_cases hid:tN < id
      ·have hle:decide (id≤tN)= false:=decide_eq_false (by omega)
       go_wp2
       refine eC (by kernel_rfl) (by kernel_rfl) ?_
       repeat (go_big_quiet_step ((go_at_call 215;exact aB.call _ (Nat.le_refl _) (JU ⟨id,nm,rk,af,fy,am,ee,aZ⟩ _ bD.out _))))
       refine wpQuiet_nil ?_
       intro K
       go_wp2
       go_loopw [4] (fun i HS=>∃m:Nat,m≤j + 1∧i= .int .i64 m∧hI (fun i=>!jg (fun z:aM=>z.name.toList == nm.toList) xs i) m= true∧Below w w HS) (fun i _=>j + 1 - (intOf i).toNat)
       case atStart=>exact⟨0,by omega,rfl,rfl,ai aE K.U⟩
       case round=>
        clear f0 f1 f2 f3 f4 f5 f6 g0 g1 g2 g3 g4 g5 g6 kK
        obtain⟨m,hm,rfl,ju,aP⟩:=hrel
        have Im:=J ju;clear ju
        by_cases lj:m < j + 1
        ·obtain⟨ew,aur,z,e3,_,cb,qg⟩:=bN.at_ aP (k:=m) (by omega)
         simp only [Option.some.injEq,Addr.mk.injEq,and_true] at e3
         obtain⟨rfl,rfl⟩:=e3
         obtain⟨fm,aus,eA,e4,_,JH,Vu⟩:=bN.at_ aP (k:=j + 1) (by omega)
         simp only [Option.some.injEq,Addr.mk.injEq,and_true] at e4
         obtain⟨rfl,rfl⟩:=e4
         obtain rfl:_= eA:=Option.some.inj (cg.out.symm.trans JH)
         have dD:=qg 1 _ rfl;have q1:=Vu 1 _ rfl;have bj:=J cb;clear cb qg Vu JH
         cases bS:(z.name.toList == nm.toList)
         all_goals
          have fD:=J bS
          go_wp2
          refine eC (by kernel_rfl) (by kernel_rfl) ?_
          repeat (go_big_quiet_step (fail))
          refine wpQuiet_nil ?_
          intro gr
          go_wp2
         ·go_roundw
          case rel=>exact⟨m + 1,by omega,by go_num,np Im.out (by simp [jg,bj.out,fD.out]),ai aP gr.U⟩
          case measure=>simp [intOf];omega
         ·go_ret
          exact⟨ep (by rw [kq,uj bn (by rw [Bo cg.out iv.out,afH lj bj.out fD.out,az];simp)];rfl),ai aP gr.U⟩
        ·obtain rfl:m= j + 1:=by omega
         go_wp2
         go_roundw
         case rel=>exact⟨j + 1 + 1,by omega,by omega,by go_num,np cJ.out (by rw [Bo cg.out iv.out,az,afG Im.out,decide_eq_true (show (aM.id ⟨tN,DH,DK,ys,zE,oq,DI,DJ⟩) < (aM.id ⟨id,nm,rk,af,fy,am,ee,aZ⟩) from hid)];rfl),aP⟩
         case measure=>simp [intOf];omega
      ·go_wp2
       refine eC (by kernel_rfl) (by kernel_rfl) ?_
       repeat (go_big_quiet_step ((go_at_call 215;exact aB.call _ (Nat.le_refl _) (JU ⟨id,nm,rk,af,fy,am,ee,aZ⟩ _ bD.out _))))
       refine wpQuiet_nil ?_
       intro K
       go_wp2
       go_ret
       exact⟨ep (by rw [kq,uj bn (by rw [Bo cg.out iv.out,az,decide_eq_false (show¬(aM.id ⟨tN,DH,DK,ys,zE,oq,DI,DJ⟩) < (aM.id ⟨id,nm,rk,af,fy,am,ee,aZ⟩) from by show¬(tN < id);omega)];rfl)];rfl),ai aE K.U⟩
   ·have h8:decide (xs.length≤8)= false:=decide_eq_false (by omega)
    go_wp2
    go_ret
    exact⟨ep (by rw [kq,h8,Bool.and_false];exact decide_eq_false (by omega)),aE⟩
  ·exact abX
open Go.RowKit Go.G9
def pO (rs:List aM) (q:aN):Bool:=match hA rs q.fU with | some r=>eH q.mover && !(q.sec && !r.second) | none=>false
def Dh (rs:List aM) (p q:aN):Bool:=match hA rs p.fU,hA rs q.fU with | some t,some r=>!kn t p && decide (t.gH < r.gH) | _,_=>false
def pP (rs:List aM) (qs:List aN):Nat→Bool
 | 0=>match qs[0]? with | some q=>pO rs q | none=>true
 | j + 1=>match qs[j]?,qs[j + 1]? with | some p,some q=>pO rs q && Dh rs p q | _,_=>true
def dF (rs:List aM) (qs:List aN):Bool:=kq rs && (decide (qs.length≤6) && hI (pP rs qs) qs.length)
theorem yc {rs:List aM} {qs:List aN} {j:Nat} {p q:aN} (aR:qs[j]? =some p) (bf:qs[j + 1]? =some q):pP rs qs (j + 1)= (pO rs q && Dh rs p q):=by simp only [pP,aR,bf]
theorem Kx {rs:List aM} {qs:List aN} {q:aN} (bf:qs[0]? =some q):pP rs qs 0= pO rs q:=by simp only [pP,bf]
theorem Hu {rs:List aM} {q:aN} (h:pO rs q= true):∃r,hA rs q.fU= some r:=by
 unfold pO at h
 split at h
 ·rename_i r bz;exact⟨r,bz⟩
 ·cases h
theorem zs {rs:List aM} {qs:List aN} {k:Nat} {q:aN} (h:pP rs qs k= true) (bf:qs[k]? =some q):pO rs q= true:=by
 cases k with
 | zero=>rw [Kx bf] at h;exact h
 | succ j=>
  have bn:=(List.getElem?_eq_some_iff.1 bf).1;have aR:qs[j]? =some qs[j]:=List.getElem?_eq_getElem (by omega)
  rw [yc aR bf,Bool.and_eq_true] at h;exact h.1
theorem PY {rs:List aM} {qs:List aN} {k:Nat} {q:aN} (bf:qs[k]? =some q) (h:pO rs q= false):pP rs qs k= false:=by
 cases aG:pP rs qs k with
 | false=>rfl
 | true=>rw [zs aG bf] at h;cases h
theorem anZ {rs:List aM} {q:aN} (h:hA rs q.fU= none):pO rs q= false:=by simp [pO,h]
theorem wu {rs:List aM} {q:aN} {r:aM} (h:hA rs q.fU= some r):pO rs q= (eH q.mover && !(q.sec && !r.second)):=by simp [pO,h]
theorem vk {rs:List aM} {p q:aN} {t r:aM} (h:hA rs p.fU= some t) (h2:hA rs q.fU= some r):Dh rs p q= (!kn t p && decide (t.gH < r.gH)):=by simp [Dh,h,h2]
theorem oi {rs:List aM} {qs:List aN} (h:dF rs qs= true) {k:Nat} {q:aN} (bf:qs[k]? =some q):∃r,hA rs q.fU= some r:=by
 simp only [dF,Bool.and_eq_true] at h
 exact Hu (zs (oV.1 h.2.2 k (List.getElem?_eq_some_iff.1 bf).1) bf)
theorem Bf {rs:List aM} {qs:List aN} {k:Nat} (ax:k < qs.length) (h:pP rs qs k= false):dF rs qs= false:=by rw [dF,uj ax h];simp
theorem abv {p:Prop} (h:p:=by
 rintro e bg ⟨rfl,bE⟩
 have av:=be w bE;have I:Below w w bg:=av
 go_wp2
 go_ret
 exact⟨ep (by simp [dF,bz]),(ai I aw)⟩):p:=h
theorem abh {p:Prop} (h:p:=by
 rintro e bg ⟨rfl,bE⟩
 have av:=be w bE;have I:Below w w bg:=av
 go_wp2
 go_ret
 exact⟨ep (by rw [dF,decide_eq_false Oq];simp),(ai I aw)⟩):p:=h
theorem abM {p:Prop} (h:p:=by
 go_wp2
 go_ret
 exact⟨ep (Bf bn (PY cg.out (anZ (q:=⟨qr,cp,rQ⟩) cD.out))).symm,(ai I aw)⟩):p:=h
theorem abq {p:Prop} (h:p:=by
 go_wp2
 go_ret
 exact⟨ep (Bf bn (PY cg.out (by rw [wu (q:=⟨qr,cp,rQ⟩) cD.out];simp only [dQ.out];rfl))).symm,(ai I aw)⟩):p:=h
theorem abj {p:Prop} (h:p:=by
 go_wp2
 go_roundw
 case rel=>exact⟨1,by omega,by go_num,np cJ.out (by rw [Kx cg.out];exact tW.out),(ai I aw)⟩
 case measure=>simp [intOf];omega):p:=h
theorem adk {p:Prop} (h:p:=by
 repeat (go_big_quiet_step (fail))
 refine wpQuiet_nil ?_
 intro K
 go_wp2
 go_roundw
 case rel=>exact⟨j + 1 + 1,by omega,by go_num,np cJ.out (by rw [yc iv.out cg.out,tW.out,vk bP.out cD.out,fT.out,decide_eq_true (show (aM.gH ⟨tid,ir,fj,gU,iq,il,jU,tok⟩) < (aM.gH ⟨id,nm,rk,af,fy,am,ee,aZ⟩) from GF)];rfl),ai I K.U⟩
 case measure=>simp [intOf];omega):p:=h
theorem adx {p:Prop} (h:p:=by
 repeat (go_big_quiet_step (fail))
 refine wpQuiet_nil ?_
 intro K
 go_wp2
 go_ret
 exact⟨ep (Bf bn (by rw [yc iv.out cg.out,tW.out,vk bP.out cD.out,fT.out,decide_eq_false (show¬(aM.gH ⟨tid,ir,fj,gU,iq,il,jU,tok⟩) < (aM.gH ⟨id,nm,rk,af,fy,am,ee,aZ⟩) from by show¬fj < rk;omega)];rfl)).symm,ai I K.U⟩):p:=h
theorem acQ {p:Prop} (h:p:=by
 have fT:=J oI;clear oI;clear bG
 refine eC (by kernel_rfl) (by kernel_rfl) ?_
 repeat (go_big_quiet_step (fail))
 go_big_quiet_step ((go_at_call 198;exact aB.call _ (by first | exact Nat.le_refl _ | omega) (vi A c rs bd ⟨lS,pm,ho⟩ ⟨tid,ir,fj,gU,iq,il,jU,tok⟩ bP.out _ fT.out _ (jo.out.U (aB.U _)))))
 repeat (go_big_quiet_step (fail))
 refine wpQuiet_nil ?_
 intro K
 go_wp2
 go_ret
 exact⟨ep (Bf bn (by rw [yc iv.out cg.out,tW.out,vk bP.out cD.out,fT.out];rfl)).symm,ai I K.U⟩):p:=h
theorem abn {p:Prop} (h:p:=by
 go_wp2
 go_ret
 exact⟨ep (Bf bn (PY cg.out (by rw [wu (q:=⟨qr,cp,true⟩) cD.out];simp only [dQ.out];rfl))).symm,(ai I aw)⟩):p:=h
theorem adj {p:Prop} (h:p:=by
 repeat (go_big_quiet_step (fail))
 refine wpQuiet_nil ?_
 intro K
 go_wp2
 go_roundw
 case rel=>exact⟨j + 1 + 1,by omega,by go_num,np cJ.out (by rw [yc iv.out cg.out,tW.out,vk bP.out cD.out,fT.out,decide_eq_true (show (aM.gH ⟨tid,ir,fj,gU,iq,il,jU,tok⟩) < (aM.gH ⟨id,nm,rk,true,fy,am,ee,aZ⟩) from GF)];rfl),ai I K.U⟩
 case measure=>simp [intOf];omega):p:=h
theorem adw {p:Prop} (h:p:=by
 repeat (go_big_quiet_step (fail))
 refine wpQuiet_nil ?_
 intro K
 go_wp2
 go_ret
 exact⟨ep (Bf bn (by rw [yc iv.out cg.out,tW.out,vk bP.out cD.out,fT.out,decide_eq_false (show¬(aM.gH ⟨tid,ir,fj,gU,iq,il,jU,tok⟩) < (aM.gH ⟨id,nm,rk,true,fy,am,ee,aZ⟩) from by show¬fj < rk;omega)];rfl)).symm,ai I K.U⟩):p:=h
theorem abE {p:Prop} (h:p:=by
 obtain rfl:k= qs.length:=by omega
 go_wp2
 go_ret
 exact⟨ep (by rw [dF,bL.out,decide_eq_true Oq,cJ.out];rfl),(ai I aw)⟩):p:=h
theorem nr (A:Option Addr) (c:Nat) (rs:List aM) (bd:rs.length≤1048576) (aG:rs.length≤c) (B:Option Addr) (d:Nat) (qs:List aN) (bf:qs.length≤1048576) (v:Bool) (az:dF rs qs= v) (w:World) (bN:aJ 7 aM.cells w A rs) (ej:aJ 3 aN.cells w B qs):
 Calls Tryz.prog 118 #[.slice A rs c,.slice B qs d] w fun e ah=>e= .returned v∧Below w w ah:=by
 subst az
 cases bz:kq rs
 ·have bL:=J bz
  go_in
  go_wp2_with fail
  refine (GZ A c rs bd aG _ bL.out _ (bN.U aw)).mono ?_
  exact abv
 by_cases Oq:qs.length≤6
 case neg=>
  have bL:=J bz
  go_in
  go_wp2_with fail
  refine (GZ A c rs bd aG _ bL.out _ (bN.U aw)).mono ?_
  exact abh
 have bL:=J bz
 go_in
 have oZ:=J bN;have NA:=J ej
 go_wp2_with fail
 refine (GZ A c rs bd aG _ bL.out _ (bN.U aw)).mono ?_
 rintro e bg ⟨rfl,bE⟩
 have av:=be w bE;have I:Below w w bg:=av;replace bN:=bN.U av;replace ej:=ej.U av
 go_wp2
 go_loopw [17] (fun i wr=>∃k:Nat,k≤qs.length∧i= .int .i64 k∧hI (pP rs qs) k= true∧Below w w wr) (fun i _=>qs.length - (intOf i).toNat)
 case atStart=>exact⟨0,Nat.zero_le _,rfl,rfl,I⟩
 case round=>
  obtain⟨k,ax,rfl,aT,aE⟩:=hrel
  have cJ:=J aT;clear aT bN ej I;have bN:=oZ.out;have ej:=NA.out;have av:=be w aE;have I:Below w w wr:=av;replace bN:=bN.U av;replace ej:=ej.U av
  by_cases bn:k < qs.length
  ·obtain⟨b,off,q,rfl,dU,ay,bq⟩:=ej.at_ (Below.refl _ _) bn
   obtain⟨qr,cp,rQ⟩:=q
   have f0:=bq 0 _ rfl;have f1:=bq 1 _ rfl;have f2:=bq 2 _ rfl
   simp only [Nat.add_zero] at f0
   have g0:=f0 (aB.self _);have g1:=f1 (aB.self _);have g2:=f2 (aB.self _)
   simp only [aB.self] at g0
   simp only [aB.self] at g1
   simp only [aB.self] at g2
   have cg:=J ay;clear ay bq
   go_upto_region 6 with fail
   refine cR fun aH ao aO=>?_
   replace bN:=bN.U ao;replace ej:=ej.U ao;replace I:=ai I ao;have bG:=aO.cK;clear f0 f1 f2 g0 g1 g2
   cases hf:hA rs qr with
   | none=>
    have cD:=J hf;clear hf
    go_wp2_with fail
    refine (Ds A c rs bd qr _ (CP cD.out) _ (bN.U aw)).mono ?_
    rintro e bA ⟨rfl,bC⟩
    have aL:=be aH bC;replace I:=ai I aL;clear bG
    exact abM
   | some r=>
    have cD:=J hf;clear hf
    obtain⟨m,hm,uP⟩:=rG cD.out
    have BF:=J hm;clear hm uP
    obtain⟨id,nm,rk,af,fy,am,ee,aZ⟩:=r
    go_wp2_with fail
    refine (Ds A c rs bd qr _ BF.out _ (bN.U aw)).mono ?_
    rintro e bA ⟨rfl,bC⟩
    have aL:=be aH bC;replace I:=ai I aL;replace bN:=bN.U aL;replace ej:=ej.U aL;replace aO:=aO.to aL;clear bG;have bG:=aO.cK
    cases kS:eH cp
    ·have dQ:=J kS;clear kS
     go_wp2_with fail
     refine (iN cp _ dQ.out _).mono ?_
     rintro e w0 ⟨rfl,h0⟩
     rw [h0]
     clear h0 w0
     exact abq
    ·have dQ:=J kS;clear kS
     cases rQ
     ·clear bG
      have bG:=aO.cK
      go_wp2_with fail
      refine (iN cp _ dQ.out _).mono ?_
      rintro e w0 ⟨rfl,h0⟩
      rw [h0]
      clear h0 w0
      go_upto_region 8 with fail
      have tW:Hid (pO rs ⟨qr,cp,false⟩ =true):=J (by rw [wu (q:=⟨qr,cp,false⟩) cD.out];simp only [dQ.out];rfl)
      cases k with
      | zero=>
       clear bG
       refine eC (by kernel_rfl) (by kernel_rfl) ?_
       repeat (go_big_quiet_step ((fail)))
       refine wpQuiet_nil ?_
       intro K
       have bV:Below bA bA K.world:=ai aw K.U;replace I:=ai I bV
       exact abj
      | succ j=>
       obtain⟨cE,rO,p,gy,_,hy,dh⟩:=ej.at_ (Below.refl _ _) (k:=j) (by omega)
       simp only [Option.some.injEq,Addr.mk.injEq,and_true] at gy
       obtain⟨rfl,rfl⟩:=gy
       obtain⟨t,uV⟩:=Hu (zs (oV.1 cJ.out j (by omega)) hy)
       obtain⟨lS,pm,ho⟩:=p
       obtain⟨tid,ir,fj,gU,iq,il,jU,tok⟩:=t
       have kK:=dh 0 _ rfl;have yn:=dh 1 _ rfl;have kt:=dh 2 _ rfl
       simp only [Nat.add_zero] at kK
       have iv:=J hy;clear hy dh;have bP:=J uV;clear uV;have jo:=J bN
       have CA:∀W:World,(Instr.field 89 (.agg #[tid,ir,fj,gU,iq,il,jU]) 2).run Tryz.prog W= .ok (.int .i64 fj) W:=fun _=>by kernel_rfl
       have Gm:∀W:World,(Instr.field 89 (.agg #[id,nm,rk,af,fy,am,ee]) 2).run Tryz.prog W= .ok (.int .i64 rk) W:=fun _=>by kernel_rfl
       cases oI:kn ⟨tid,ir,fj,gU,iq,il,jU,tok⟩ ⟨lS,pm,ho⟩
       ·have fT:=J oI;clear oI
        by_cases GF:fj < rk
        ·have hle:decide (rk≤fj)= false:=decide_eq_false (by omega)
         clear bG;have bG:=aC.jN (fun K:aB bA.heap.size bA=>(aO.U K.U aO.lt))
         refine eC (by kernel_rfl) (by kernel_rfl) ?_
         repeat (go_big_quiet_step (fail))
         go_big_quiet_step ((go_at_call 198;exact aB.call _ (by first | exact Nat.le_refl _ | omega) (vi A c rs bd ⟨lS,pm,ho⟩ ⟨tid,ir,fj,gU,iq,il,jU,tok⟩ bP.out _ fT.out _ (jo.out.U (aB.U _)))))
         repeat (go_big_quiet_step (fail))
         go_big_quiet_step ((go_at_call 69;exact aB.call _ (by first | exact Nat.le_refl _ | omega) (qY A c rs bd ⟨lS,pm,ho⟩ ⟨tid,ir,fj,gU,iq,il,jU,tok⟩ bP.out _ (jo.out.U (aB.U _)))))
         repeat (go_big_quiet_step (fail))
         go_big_quiet_step ((go_at_call 69;exact aB.call _ (by first | exact Nat.le_refl _ | omega) (qY A c rs bd ⟨qr,cp,false⟩ ⟨id,nm,rk,af,fy,am,ee,aZ⟩ cD.out _ (jo.out.U (aB.U _)))))
         exact adk
        ·have hle:decide (rk≤fj)= true:=decide_eq_true (by omega)
         clear bG;have bG:=aC.jN (fun K:aB bA.heap.size bA=>(aO.U K.U aO.lt))
         refine eC (by kernel_rfl) (by kernel_rfl) ?_
         repeat (go_big_quiet_step (fail))
         go_big_quiet_step ((go_at_call 198;exact aB.call _ (by first | exact Nat.le_refl _ | omega) (vi A c rs bd ⟨lS,pm,ho⟩ ⟨tid,ir,fj,gU,iq,il,jU,tok⟩ bP.out _ fT.out _ (jo.out.U (aB.U _)))))
         repeat (go_big_quiet_step (fail))
         go_big_quiet_step ((go_at_call 69;exact aB.call _ (by first | exact Nat.le_refl _ | omega) (qY A c rs bd ⟨lS,pm,ho⟩ ⟨tid,ir,fj,gU,iq,il,jU,tok⟩ bP.out _ (jo.out.U (aB.U _)))))
         repeat (go_big_quiet_step (fail))
         go_big_quiet_step ((go_at_call 69;exact aB.call _ (by first | exact Nat.le_refl _ | omega) (qY A c rs bd ⟨qr,cp,false⟩ ⟨id,nm,rk,af,fy,am,ee,aZ⟩ cD.out _ (jo.out.U (aB.U _)))))
         exact adx
       ·exact acQ
     ·have aiX:∀W:World,(Instr.field 89 (.agg #[id,nm,rk,af,fy,am,ee]) 3).run Tryz.prog W= .ok (.bool af) W:=fun _=>by kernel_rfl
      cases af
      ·clear bG
       have bG:=aO.cK
       go_wp2_with fail
       refine (iN cp _ dQ.out _).mono ?_
       rintro e w0 ⟨rfl,h0⟩
       rw [h0]
       clear h0 w0
       go_wp2_with fail
       refine (qY A c rs bd ⟨qr,cp,true⟩ ⟨id,nm,rk,false,fy,am,ee,aZ⟩ cD.out _ (bN.U aw)).mono ?_
       rintro e cf ⟨rfl,cZ⟩
       have bV:=be bA cZ;replace I:=ai I bV;clear bG
       exact abn
      ·clear bG
       have bG:=aO.cK
       go_wp2_with fail
       refine (iN cp _ dQ.out _).mono ?_
       rintro e w0 ⟨rfl,h0⟩
       rw [h0]
       clear h0 w0
       go_wp2_with fail
       refine (qY A c rs bd ⟨qr,cp,true⟩ ⟨id,nm,rk,true,fy,am,ee,aZ⟩ cD.out _ (bN.U aw)).mono ?_
       rintro e cf ⟨rfl,cZ⟩
       have bV:=be bA cZ;replace I:=ai I bV;replace bN:=bN.U bV;replace ej:=ej.U bV;replace aO:=aO.to bV;clear bG;have bG:=aO.cK
       go_upto_region 8 with fail
       clear aiX;have tW:Hid (pO rs ⟨qr,cp,true⟩ =true):=J (by rw [wu (q:=⟨qr,cp,true⟩) cD.out];simp only [dQ.out];rfl)
       cases k with
       | zero=>
        clear bG
        refine eC (by kernel_rfl) (by kernel_rfl) ?_
        repeat (go_big_quiet_step ((fail)))
        refine wpQuiet_nil ?_
        intro K
        have cG:Below cf cf K.world:=ai aw K.U;replace I:=ai I cG
        exact abj
       | succ j=>
        obtain⟨cE,rO,p,gy,_,hy,dh⟩:=ej.at_ (Below.refl _ _) (k:=j) (by omega)
        simp only [Option.some.injEq,Addr.mk.injEq,and_true] at gy
        obtain⟨rfl,rfl⟩:=gy
        obtain⟨t,uV⟩:=Hu (zs (oV.1 cJ.out j (by omega)) hy)
        obtain⟨lS,pm,ho⟩:=p
        obtain⟨tid,ir,fj,gU,iq,il,jU,tok⟩:=t
        have kK:=dh 0 _ rfl;have yn:=dh 1 _ rfl;have kt:=dh 2 _ rfl
        simp only [Nat.add_zero] at kK
        have iv:=J hy;clear hy dh;have bP:=J uV;clear uV;have jo:=J bN
        have CA:∀W:World,(Instr.field 89 (.agg #[tid,ir,fj,gU,iq,il,jU]) 2).run Tryz.prog W= .ok (.int .i64 fj) W:=fun _=>by kernel_rfl
        have Gm:∀W:World,(Instr.field 89 (.agg #[id,nm,rk,true,fy,am,ee]) 2).run Tryz.prog W= .ok (.int .i64 rk) W:=fun _=>by kernel_rfl
        cases oI:kn ⟨tid,ir,fj,gU,iq,il,jU,tok⟩ ⟨lS,pm,ho⟩
        ·have fT:=J oI;clear oI
         by_cases GF:fj < rk
         ·have hle:decide (rk≤fj)= false:=decide_eq_false (by omega)
          clear bG;have bG:=aC.jN (fun K:aB cf.heap.size cf=>(aO.U K.U aO.lt))
          refine eC (by kernel_rfl) (by kernel_rfl) ?_
          repeat (go_big_quiet_step (fail))
          go_big_quiet_step ((go_at_call 198;exact aB.call _ (by first | exact Nat.le_refl _ | omega) (vi A c rs bd ⟨lS,pm,ho⟩ ⟨tid,ir,fj,gU,iq,il,jU,tok⟩ bP.out _ fT.out _ (jo.out.U (aB.U _)))))
          repeat (go_big_quiet_step (fail))
          go_big_quiet_step ((go_at_call 69;exact aB.call _ (by first | exact Nat.le_refl _ | omega) (qY A c rs bd ⟨lS,pm,ho⟩ ⟨tid,ir,fj,gU,iq,il,jU,tok⟩ bP.out _ (jo.out.U (aB.U _)))))
          repeat (go_big_quiet_step (fail))
          go_big_quiet_step ((go_at_call 69;exact aB.call _ (by first | exact Nat.le_refl _ | omega) (qY A c rs bd ⟨qr,cp,true⟩ ⟨id,nm,rk,true,fy,am,ee,aZ⟩ cD.out _ (jo.out.U (aB.U _)))))
          exact adj
         ·have hle:decide (rk≤fj)= true:=decide_eq_true (by omega)
          clear bG;have bG:=aC.jN (fun K:aB cf.heap.size cf=>(aO.U K.U aO.lt))
          refine eC (by kernel_rfl) (by kernel_rfl) ?_
          repeat (go_big_quiet_step (fail))
          go_big_quiet_step ((go_at_call 198;exact aB.call _ (by first | exact Nat.le_refl _ | omega) (vi A c rs bd ⟨lS,pm,ho⟩ ⟨tid,ir,fj,gU,iq,il,jU,tok⟩ bP.out _ fT.out _ (jo.out.U (aB.U _)))))
          repeat (go_big_quiet_step (fail))
          go_big_quiet_step ((go_at_call 69;exact aB.call _ (by first | exact Nat.le_refl _ | omega) (qY A c rs bd ⟨lS,pm,ho⟩ ⟨tid,ir,fj,gU,iq,il,jU,tok⟩ bP.out _ (jo.out.U (aB.U _)))))
          repeat (go_big_quiet_step (fail))
          go_big_quiet_step ((go_at_call 69;exact aB.call _ (by first | exact Nat.le_refl _ | omega) (qY A c rs bd ⟨qr,cp,true⟩ ⟨id,nm,rk,true,fy,am,ee,aZ⟩ cD.out _ (jo.out.U (aB.U _)))))
          exact adw
        ·exact acQ
  ·exact abE
theorem adv {p:Prop} (h:p:=by
 refine eC (by kernel_rfl) (by kernel_rfl) ?_
 repeat (go_big_quiet_step ((fail)))
 refine wpQuiet_nil ?_
 intro K
 have ao:Below wr wr K.world:=ai aw K.U;replace I:=ai I ao
 go_wp2
 go_roundw
 case rel=>exact⟨1,by omega,by go_num,np cJ.out (by rw [Kx cg.out];exact tW.out),(ai I aw)⟩
 case measure=>simp [intOf];omega):p:=h
theorem acW {p:Prop} (h:p:=by
 have fT:=J oI;clear oI
 refine eC (by kernel_rfl) (by kernel_rfl) ?_
 repeat (go_big_quiet_step (fail))
 go_big_quiet_step ((go_at_call 163;exact aB.call _ (by first | exact Nat.le_refl _ | omega) (pK _ c rs bd ⟨lS,pm,ho⟩ ⟨tid,ir,fj,gU,iq,il,jU,tok⟩ bP.out _ fT.out _ (jo.out.U (aB.U _)))))
 repeat (go_big_quiet_step (fail))
 refine wpQuiet_nil ?_
 intro K
 go_wp2
 go_ret
 exact⟨ep (Bf bn (by rw [yc iv.out cg.out,tW.out,vk bP.out cD.out,fT.out];rfl)).symm,ai I K.U⟩):p:=h
theorem oe (A:Option Addr) (c:Nat) (rs:List aM) (bd:rs.length≤1048576) (B:Option Addr) (d:Nat) (qs:List aN) (bf:qs.length≤1048576) (v:Bool) (az:dF rs qs= v) (w:World) (bN:aJ 7 aM.cells w A rs) (ej:aJ 3 aN.cells w B qs):
 Calls Tryz.prog 93 #[.slice A rs c,.slice B qs d] w fun e ah=>e= .returned v∧Below w w ah:=by
 subst az
 cases bz:kq rs
 ·have bL:=J bz
  go_in
  go_wp2_with fail
  refine (JT A c rs bd _ bL.out _ (bN.U aw)).mono ?_
  exact abv
 by_cases Oq:qs.length≤6
 case neg=>
  have bL:=J bz
  go_in
  go_wp2_with fail
  refine (JT A c rs bd _ bL.out _ (bN.U aw)).mono ?_
  exact abh
 have bL:=J bz
 go_in
 have oZ:=J bN;have NA:=J ej
 go_wp2_with fail
 refine (JT A c rs bd _ bL.out _ (bN.U aw)).mono ?_
 rintro e bg ⟨rfl,bE⟩
 have av:=be w bE;have I:Below w w bg:=av;replace bN:=bN.U av;replace ej:=ej.U av
 go_wp2
 go_loopw [5] (fun i wr=>∃k:Nat,k≤qs.length∧i= .int .i64 k∧hI (pP rs qs) k= true∧Below w w wr) (fun i _=>qs.length - (intOf i).toNat)
 case atStart=>exact⟨0,Nat.zero_le _,rfl,rfl,I⟩
 case round=>
  obtain⟨k,ax,rfl,aT,aE⟩:=hrel
  have cJ:=J aT;clear aT bN ej I;have bN:=oZ.out;have ej:=NA.out;have av:=be w aE;have I:Below w w wr:=av;replace bN:=bN.U av;replace ej:=ej.U av
  by_cases bn:k < qs.length
  ·obtain⟨b,off,q,rfl,dU,ay,bq⟩:=ej.at_ (Below.refl _ _) bn
   obtain⟨qr,cp,rQ⟩:=q
   have f0:=bq 0 _ rfl;have f1:=bq 1 _ rfl;have f2:=bq 2 _ rfl
   simp only [Nat.add_zero] at f0
   have g0:=f0 (aB.self _);have g1:=f1 (aB.self _);have g2:=f2 (aB.self _)
   simp only [aB.self] at g0
   simp only [aB.self] at g1
   simp only [aB.self] at g2
   have cg:=J ay;clear ay bq
   cases hf:hA rs qr with
   | none=>
    have cD:=J hf;clear hf
    go_wp2_with fail
    refine (vg A c rs bd qr _ (CP cD.out) _ (bN.U aw)).mono ?_
    rintro e w0 ⟨rfl,h0⟩
    rw [h0]
    clear h0 w0
    exact abM
   | some r=>
    have cD:=J hf;clear hf
    obtain⟨m,hm,uP⟩:=rG cD.out
    have ju:m < rs.length:=(List.getElem?_eq_some_iff.1 uP).1
    obtain⟨du,PK,fS,rfl,uC,wh,tm⟩:=bN.at_ (Below.refl _ _) ju
    obtain rfl:r= fS:=Option.some.inj (uP.symm.trans wh)
    obtain⟨id,nm,rk,af,fy,am,ee,aZ⟩:=r
    have e2:=tm 2 _ rfl;have e3:=tm 3 _ rfl;have MM:=e3 (aB.self _)
    simp only [aB.self] at MM
    have BF:=J hm;clear hm uP wh tm
    go_wp2_with fail
    refine (vg _ c rs bd qr _ BF.out _ (bN.U aw)).mono ?_
    rintro e w0 ⟨rfl,h0⟩
    rw [h0]
    clear h0 w0
    cases kS:eH cp
    ·have dQ:=J kS;clear kS
     go_wp2_with fail
     refine (iA cp _ dQ.out _).mono ?_
     rintro e w0 ⟨rfl,h0⟩
     rw [h0]
     exact abq
    ·have dQ:=J kS;clear kS
     cases rQ
     ·go_wp2_with fail
      refine (iA cp _ dQ.out _).mono ?_
      rintro e w0 ⟨rfl,h0⟩
      rw [h0]
      go_upto_region 9 with fail
      clear g0 g1 g2 e3 MM f0 f1 f2;have tW:Hid (pO rs ⟨qr,cp,false⟩ =true):=J (by rw [wu (q:=⟨qr,cp,false⟩) cD.out];simp only [dQ.out];rfl)
      cases k with
      | zero=>
       exact adv
      | succ j=>
       obtain⟨cE,rO,p,gy,_,hy,dh⟩:=ej.at_ (Below.refl _ _) (k:=j) (by omega)
       simp only [Option.some.injEq,Addr.mk.injEq,and_true] at gy
       obtain⟨rfl,rfl⟩:=gy
       obtain⟨t,uV⟩:=Hu (zs (oV.1 cJ.out j (by omega)) hy)
       obtain⟨lS,pm,ho⟩:=p
       obtain⟨tid,ir,fj,gU,iq,il,jU,tok⟩:=t
       have kK:=dh 0 _ rfl;have yn:=dh 1 _ rfl;have kt:=dh 2 _ rfl
       simp only [Nat.add_zero] at kK
       have iv:=J hy;clear hy dh;have bP:=J uV;clear uV;have jo:=J bN
       cases oI:kn ⟨tid,ir,fj,gU,iq,il,jU,tok⟩ ⟨lS,pm,ho⟩
       ·have fT:=J oI;clear oI
        by_cases GF:fj < rk
        ·have hle:decide (rk≤fj)= false:=decide_eq_false (by omega)
         refine eC (by kernel_rfl) (by kernel_rfl) ?_
         repeat (go_big_quiet_step (fail))
         go_big_quiet_step ((go_at_call 163;exact aB.call _ (by first | exact Nat.le_refl _ | omega) (pK _ c rs bd ⟨lS,pm,ho⟩ ⟨tid,ir,fj,gU,iq,il,jU,tok⟩ bP.out _ fT.out _ (jo.out.U (aB.U _)))))
         repeat (go_big_quiet_step (fail))
         go_big_quiet_step ((go_at_call 164;exact aB.call _ (by first | exact Nat.le_refl _ | omega) (CZ _ c rs bd ⟨lS,pm,ho⟩ ⟨tid,ir,fj,gU,iq,il,jU,tok⟩ bP.out _ (jo.out.U (aB.U _)))))
         exact adk
        ·have hle:decide (rk≤fj)= true:=decide_eq_true (by omega)
         refine eC (by kernel_rfl) (by kernel_rfl) ?_
         repeat (go_big_quiet_step (fail))
         go_big_quiet_step ((go_at_call 163;exact aB.call _ (by first | exact Nat.le_refl _ | omega) (pK _ c rs bd ⟨lS,pm,ho⟩ ⟨tid,ir,fj,gU,iq,il,jU,tok⟩ bP.out _ fT.out _ (jo.out.U (aB.U _)))))
         repeat (go_big_quiet_step (fail))
         go_big_quiet_step ((go_at_call 164;exact aB.call _ (by first | exact Nat.le_refl _ | omega) (CZ _ c rs bd ⟨lS,pm,ho⟩ ⟨tid,ir,fj,gU,iq,il,jU,tok⟩ bP.out _ (jo.out.U (aB.U _)))))
         exact adx
       ·exact acW
     ·cases af
      ·go_wp2_with fail
       refine (iA cp _ dQ.out _).mono ?_
       rintro e w0 ⟨rfl,h0⟩
       rw [h0]
       exact abn
      ·go_wp2_with fail
       refine (iA cp _ dQ.out _).mono ?_
       rintro e w0 ⟨rfl,h0⟩
       rw [h0]
       go_upto_region 9 with fail
       clear g0 g1 g2 e3 MM f0 f1 f2;have tW:Hid (pO rs ⟨qr,cp,true⟩ =true):=J (by rw [wu (q:=⟨qr,cp,true⟩) cD.out];simp only [dQ.out];rfl)
       cases k with
       | zero=>
        exact adv
       | succ j=>
        obtain⟨cE,rO,p,gy,_,hy,dh⟩:=ej.at_ (Below.refl _ _) (k:=j) (by omega)
        simp only [Option.some.injEq,Addr.mk.injEq,and_true] at gy
        obtain⟨rfl,rfl⟩:=gy
        obtain⟨t,uV⟩:=Hu (zs (oV.1 cJ.out j (by omega)) hy)
        obtain⟨lS,pm,ho⟩:=p
        obtain⟨tid,ir,fj,gU,iq,il,jU,tok⟩:=t
        have kK:=dh 0 _ rfl;have yn:=dh 1 _ rfl;have kt:=dh 2 _ rfl
        simp only [Nat.add_zero] at kK
        have iv:=J hy;clear hy dh;have bP:=J uV;clear uV;have jo:=J bN
        cases oI:kn ⟨tid,ir,fj,gU,iq,il,jU,tok⟩ ⟨lS,pm,ho⟩
        ·have fT:=J oI;clear oI
         by_cases GF:fj < rk
         ·have hle:decide (rk≤fj)= false:=decide_eq_false (by omega)
          refine eC (by kernel_rfl) (by kernel_rfl) ?_
          repeat (go_big_quiet_step (fail))
          go_big_quiet_step ((go_at_call 163;exact aB.call _ (by first | exact Nat.le_refl _ | omega) (pK _ c rs bd ⟨lS,pm,ho⟩ ⟨tid,ir,fj,gU,iq,il,jU,tok⟩ bP.out _ fT.out _ (jo.out.U (aB.U _)))))
          repeat (go_big_quiet_step (fail))
          go_big_quiet_step ((go_at_call 164;exact aB.call _ (by first | exact Nat.le_refl _ | omega) (CZ _ c rs bd ⟨lS,pm,ho⟩ ⟨tid,ir,fj,gU,iq,il,jU,tok⟩ bP.out _ (jo.out.U (aB.U _)))))
          exact adj
         ·have hle:decide (rk≤fj)= true:=decide_eq_true (by omega)
          refine eC (by kernel_rfl) (by kernel_rfl) ?_
          repeat (go_big_quiet_step (fail))
          go_big_quiet_step ((go_at_call 163;exact aB.call _ (by first | exact Nat.le_refl _ | omega) (pK _ c rs bd ⟨lS,pm,ho⟩ ⟨tid,ir,fj,gU,iq,il,jU,tok⟩ bP.out _ fT.out _ (jo.out.U (aB.U _)))))
          repeat (go_big_quiet_step (fail))
          go_big_quiet_step ((go_at_call 164;exact aB.call _ (by first | exact Nat.le_refl _ | omega) (CZ _ c rs bd ⟨lS,pm,ho⟩ ⟨tid,ir,fj,gU,iq,il,jU,tok⟩ bP.out _ (jo.out.U (aB.U _)))))
          exact adw
        ·exact acW
  ·exact abE
open Go.RowKit Go.G9
def jC (rs:List aM) (qs:List aN):Bool:=match qs[qs.length - 1]? with
 | some q=>(match hA rs q.fU with | some r=>kn r q | none=>false)
 | none=>false
def ht (rs:List aM) (qs:List aN):List Int:=match qs[qs.length - 1]? with
 | none=>rs.map (fun r=>r.id)
 | some q=>(match hA rs q.fU with
  | some t=>if kn t q || decide (qs.length= 6) then [] else (rs.filter (fun r=>decide (t.gH < r.gH))).map (fun r=>r.id)
  | none=>[])
def jD (rs:List aM) (qs:List aN) (id mem:Int):Option (List aN):=if dF rs qs && (eH mem && hasB (ht rs qs) id) then some (qs ++ [⟨id,mem,false⟩]) else none
def Dv (qs:List aN):List aN:=match qs[qs.length - 1]? with | some q=>qs.take (qs.length - 1) ++ [⟨q.fU,q.mover,true⟩] | none=>qs
def Hf (qs:List aN) (mem:Int):Bool:=match qs[qs.length - 1]? with | some q=>q.mover == mem | none=>true
def jS (rs:List aM) (qs:List aN) (mem:Int):Option (List aN):=if dF rs qs && (jC rs qs && (eH mem && !Hf qs mem)) then some (Dv qs) else none
def rv (rs:List aM) (qs:List aN):Option (List aN×aN):=match qs[qs.length - 1]? with
 | some q=>if dF rs qs && !jC rs qs then some (qs.take (qs.length - 1),q) else none
 | none=>none
def oo (qs:List aN) (mem:Int):Nat→Option Nat
 | 0=>none
 | k + 1=>match qs[k]? with | some q=>if q.mover == mem then some k else oo qs mem k | none=>oo qs mem k
def ks (rs:List aM) (qs:List aN) (mem:Int):Option (List aN):=if dF rs qs then (oo qs mem qs.length).map (fun k=>qs.take k) else none
def vT (rs:List aM) (qs:List aN):List aN:=if jC rs qs then qs.take (qs.length - 1) else qs
def lB (rs:List aM) (qs:List aN):Option (List aN):=if dF rs qs then some (vT rs qs) else none
theorem YC {rs:List aM} {qs ps:List aN} {i:Nat} (h:∀j,j≤i→qs[j]? =ps[j]?):pP rs qs i= pP rs ps i:=by
 cases i with
 | zero=>simp only [pP,h 0 (Nat.le_refl _)]
 | succ j=>simp only [pP,h j (by omega),h (j + 1) (Nat.le_refl _)]
theorem nd {rs:List aM} {qs:List aN} (h:dF rs qs= true):kq rs= true∧qs.length≤6∧∀i,i < qs.length→pP rs qs i= true:=by
 simp only [dF,Bool.and_eq_true,decide_eq_true_eq] at h
 exact⟨h.1,h.2.1,oV.1 h.2.2⟩
theorem Yu {rs:List aM} {qs:List aN} (h1:kq rs= true) (h2:qs.length≤6) (h3:∀i,i < qs.length→pP rs qs i= true):dF rs qs= true:=by
 simp only [dF,Bool.and_eq_true,decide_eq_true_eq]
 exact⟨h1,h2,oV.2 h3⟩
theorem Kq {rs:List aM} {qs:List aN} (h:dF rs qs= true) (k:Nat):dF rs (qs.take k)= true:=by
 obtain⟨h1,h2,h3⟩:=nd h
 refine Yu h1 (by rw [List.length_take];omega) (fun i hi=>?_)
 rw [List.length_take] at hi
 rw [YC (ps:=qs) (fun j bI=>by rw [List.getElem?_take,if_pos (by omega)])]
 exact h3 i (by omega)
theorem Yv {rs:List aM} {qs:List aN} {q:aN} (h:dF rs qs= true) (aT:qs.length < 6) (bf:pO rs q= true) (dd:∀j p,qs.length= j + 1→qs[j]? =some p→Dh rs p q= true):dF rs (qs ++ [q])= true:=by
 obtain⟨h1,h2,h3⟩:=nd h
 refine Yu h1 (by simp;omega) (fun i hi=>?_)
 rw [List.length_append,List.length_singleton] at hi
 by_cases bn:i < qs.length
 ·rw [YC (ps:=qs) (fun j bI=>by rw [List.getElem?_append_left (by omega)])]
  exact h3 i bn
 ·obtain rfl:i= qs.length:=by omega
  have yX:(qs ++ [q])[qs.length]? =some q:=by simp
  cases bd:qs.length with
  | zero=>rw [bd] at yX;rw [Kx yX];exact bf
  | succ j=>
   have aR:qs[j]? =some qs[j]:=List.getElem?_eq_getElem (by omega)
   rw [bd] at yX
   rw [yc (p:=qs[j]) (by rw [List.getElem?_append_left (by omega)];exact aR) yX,bf,dd j _ bd aR];rfl
theorem xR {rs:List aM} {qs:List aN} {j:Nat} {q:aN} {r:aM} (aT:qs.length= j + 1) (bf:qs[j]? =some q) (bz:hA rs q.fU= some r):jC rs qs= kn r q:=by
 have:qs.length - 1= j:=by omega
 simp only [jC,this,bf,bz]
theorem JX {rs:List aM} {qs:List aN} (h:qs.length= 0):jC rs qs= false:=by
 obtain rfl:=List.length_eq_zero_iff.1 h;rfl
theorem XM {rs:List aM} {qs:List aN} (h:qs.length= 0):ht rs qs= rs.map (fun r=>r.id):=by
 obtain rfl:=List.length_eq_zero_iff.1 h;rfl
theorem Pz {rs:List aM} {qs:List aN} {j:Nat} {q:aN} {t:aM} (aT:qs.length= j + 1) (bf:qs[j]? =some q) (bz:hA rs q.fU= some t):ht rs qs= if kn t q || decide (qs.length= 6) then [] else (rs.filter (fun r=>decide (t.gH < r.gH))).map (fun r=>r.id):=by
 have:qs.length - 1= j:=by omega
 simp only [ht,this,bf,bz]
theorem abK {p:Prop} (h:p:=by
 unfold ht
 split
 ·simp
 ·split
  ·split
   ·simp
   ·rw [List.length_map];exact List.length_filter_le _ _
  ·simp):p:=h
theorem XL (rs:List aM) (qs:List aN):(ht rs qs).length≤rs.length:=by
 exact abK
theorem Zb {rs:List aM} (h:kq rs= true):rs.length≤8∧∀k,k < rs.length→rU rs k= true:=by
 simp only [kq,Bool.and_eq_true,decide_eq_true_eq] at h
 exact⟨h.2,oV.1 h.1⟩
theorem zv {rs:List aM} (h:kq rs= true) {k:Nat} {r:aM} (bz:rs[k]? =some r):rT r= true:=by
 have ax:=(List.getElem?_eq_some_iff.1 bz).1;have h1:=(Zb h).2 k ax
 cases k with
 | zero=>simp only [rU,bz] at h1;exact h1
 | succ j=>
  have aR:rs[j]? =some rs[j]:=List.getElem?_eq_getElem (by omega)
  simp only [rU,aR,bz,Bool.and_eq_true] at h1;exact h1.1
theorem zu {r:aM} (h:rT r= true):1≤r.id∧r.id≤20∧0≤r.gH∧r.gH≤9∧1≤r.hv∧r.hv≤3∧wJ r.name= true:=by
 simp only [rT,Bool.and_eq_true,rH] at h
 obtain⟨a,b,c,d⟩:=h
 exact⟨a.1,a.2,c.1,c.2,d.1,d.2,b⟩
theorem Za {rs:List aM} (h:kq rs= true) {j:Nat} {x y:aM} (hy:rs[j]? =some y) (ay:rs[j + 1]? =some x):y.id < x.id:=by
 have h1:=(Zb h).2 (j + 1) (List.getElem?_eq_some_iff.1 ay).1
 simp only [rU,hy,ay,Bool.and_eq_true,decide_eq_true_eq] at h1;exact h1.2.1
theorem Ql {rs:List aM} (h:kq rs= true):∀d j x y,rs[j]? =some y→rs[j + 1 + d]? =some x→y.id < x.id
 | 0,j,x,y,hy,ay=>Za h hy ay
 | d + 1,j,x,y,hy,ay=>by
  have bn:j + 1 + d < rs.length:=by have:=(List.getElem?_eq_some_iff.1 ay).1;omega
  have cb:rs[j + 1 + d]? =some rs[j + 1 + d]:=List.getElem?_eq_getElem bn;have h1:=Ql h d j _ y hy cb;have h2:=Za h cb (show rs[j + 1 + d + 1]? =some x from ay)
  omega
theorem YZ {rs:List aM} (h:kq rs= true) {k:Nat} {r:aM} (bz:rs[k]? =some r):hA rs r.id= some r:=by
 rcases JO (fun x:aM=>x.id == r.id) rs with ⟨h1,h2⟩ | ⟨j,x,h1,h2,h3⟩
 ·rw [List.find?_eq_none] at h2
  have:=h2 r (List.mem_of_getElem? bz)
  simp at this
 ·have ay:x.id= r.id:=by have:=List.find?_some h3;simpa using this
  have xy:j= k:=by
   rcases Nat.lt_trichotomy j k with bn | he | bn
   ·obtain⟨d,rfl⟩ :∃d,k= j + 1 + d:=⟨k - j - 1,by omega⟩
    have:=Ql h d j r x h2 bz
    omega
   ·exact he
   ·obtain⟨d,rfl⟩ :∃d,j= k + 1 + d:=⟨j - k - 1,by omega⟩
    have:=Ql h d k x r bz h2
    omega
  subst xy
  rw [h2] at bz;cases bz;exact h3
theorem aiw {xs:List Int} {n:Int} (h:hasB xs n= true):n ∈ xs:=by simpa [hasB] using h
theorem amQ {rs:List aM} {qs:List aN} {id:Int} (h:dF rs qs= true) (hid:hasB (ht rs qs) id= true):qs.length < 6∧∃r,hA rs id= some r∧∀j q,qs.length= j + 1→qs[j]? =some q→Dh rs q ⟨id,0,false⟩ =true:=by
 obtain⟨h1,h2,h3⟩:=nd h
 have hm:=aiw hid
 cases bd:qs.length with
 | zero=>
  rw [XM bd] at hm
  obtain⟨r,bz,rfl⟩:=List.mem_map.1 hm
  obtain⟨k,ax⟩:=List.mem_iff_getElem?.1 bz
  exact⟨by omega,r,YZ h1 ax,fun j q bI=>by omega⟩
 | succ j=>
  have bf:qs[j]? =some qs[j]:=List.getElem?_eq_getElem (by omega)
  obtain⟨t,cA⟩:=oi h bf
  rw [Pz bd bf cA] at hm
  split at hm
  ·simp at hm
  ·rename_i aG
   simp only [Bool.or_eq_true,decide_eq_true_eq,not_or,Bool.not_eq_true] at aG
   obtain⟨r,bz,rfl⟩:=List.mem_map.1 hm
   rw [List.mem_filter] at bz
   obtain⟨k,ax⟩:=List.mem_iff_getElem?.1 bz.1
   have hf:=YZ h1 ax
   refine⟨by omega,r,hf,fun rJ fA bI GC=>?_⟩
   obtain rfl:rJ= j:=by omega
   rw [bf] at GC;cases GC
   rw [vk cA hf,aG.1,bz.2];rfl
theorem anh {rs:List aM} {qs ps:List aN} {id mem:Int} (h:jD rs qs id mem= some ps):dF rs ps= true:=by
 unfold jD at h
 split at h
 ·rename_i aG
  simp only [Bool.and_eq_true] at aG
  cases h
  obtain⟨aT,r,bz,dd⟩:=amQ aG.1 aG.2.2
  refine Yv aG.1 aT ?_ (fun j p bI aR=>?_)
  ·rw [wu (q:=⟨id,mem,false⟩) bz];simpa using aG.2.1
  ·have h2:=dd j p bI aR
   obtain⟨t,cA⟩:=oi aG.1 aR
   rw [vk (q:=⟨id,0,false⟩) cA bz] at h2
   rw [vk (q:=⟨id,mem,false⟩) cA bz];exact h2
 ·cases h
theorem amw {qs:List aN} {j:Nat} {q:aN} (aT:qs.length= j + 1) (bf:qs[j]? =some q):qs= qs.take j ++ [q]:=by
 have h1:=List.take_succ_eq_append_getElem (l:=qs) (i:=j) (by omega)
 rw [List.take_of_length_le (by omega),(List.getElem?_eq_some_iff.1 bf).2] at h1
 exact h1
theorem aqz {rs:List aM} {qs ps:List aN} {mem:Int} (h:jS rs qs mem= some ps):dF rs ps= true:=by
 unfold jS at h
 split at h
 ·rename_i aG
  simp only [Bool.and_eq_true] at aG
  cases h
  cases bd:qs.length with
  | zero=>have:=JX (rs:=rs) bd;rw [this] at aG;simp at aG
  | succ j=>
   have bf:qs[j]? =some qs[j]:=List.getElem?_eq_getElem (by omega)
   obtain⟨t,cA⟩:=oi aG.1 bf
   have oI:=aG.2.1
   rw [xR bd bf cA] at oI
   have aZ:t.second= true:=by simp only [kn,Bool.and_eq_true] at oI;exact oI.1
   obtain⟨h1,h2,h3⟩:=nd aG.1
   have JG:=h3 j (by omega);have OM:=zs JG bf
   rw [wu cA] at OM
   simp only [Bool.and_eq_true] at OM
   have ajO:Dv qs= qs.take j ++ [⟨qs[j].fU,qs[j].mover,true⟩]:=by
    have:qs.length - 1= j:=by omega
    simp only [Dv,this,bf]
   rw [ajO]
   refine Yv (Kq aG.1 j) (by rw [List.length_take];omega) ?_ (fun i p hi aR=>?_)
   ·rw [wu (q:=⟨qs[j].fU,qs[j].mover,true⟩) cA,aZ];simpa using OM.1
   ·rw [List.length_take] at hi
    rw [List.getElem?_take,if_pos (by omega)] at aR
    obtain rfl:j= i + 1:=by omega
    rw [yc aR bf] at JG
    simp only [Bool.and_eq_true] at JG
    obtain⟨u,hu⟩:=oi aG.1 aR
    have h5:=JG.2
    rw [vk hu cA] at h5
    rw [vk (q:=⟨qs[i + 1].fU,qs[i + 1].mover,true⟩) hu cA];exact h5
 ·cases h
theorem TT {rs:List aM} {qs ps:List aN} {q:aN} (h:rv rs qs= some (ps,q)):dF rs ps= true∧dF rs qs= true∧∃j,qs.length= j + 1∧qs[j]? =some q∧ps= qs.take j:=by
 unfold rv at h
 split at h
 ·rename_i fA GC
  split at h
  ·rename_i aG
   simp only [Bool.and_eq_true] at aG
   cases h
   have:=(List.getElem?_eq_some_iff.1 GC).1
   exact⟨Kq aG.1 _,aG.1,qs.length - 1,by omega,GC,rfl⟩
  ·cases h
 ·cases h
theorem arT {rs:List aM} {qs ps:List aN} {mem:Int} (h:ks rs qs mem= some ps):dF rs ps= true:=by
 unfold ks at h
 split at h
 ·rename_i aG
  cases hw:oo qs mem qs.length with
  | none=>rw [hw] at h;cases h
  | some k=>rw [hw] at h;cases h;exact Kq aG k
 ·cases h
theorem agz {rs:List aM} {qs ps:List aN} (h:lB rs qs= some ps):dF rs ps= true:=by
 unfold lB at h
 split at h
 ·rename_i aG
  cases h
  unfold vT
  split
  ·exact Kq aG _
  ·exact aG
 ·cases h
theorem Yt {rs:List aM} {qs:List aN} (h:dF rs qs= true) {k:Nat} {q:aN} (bf:qs[k]? =some q):eH q.mover= true:=by
 obtain⟨r,bz⟩:=oi h bf
 have h1:=zs ((nd h).2.2 k (List.getElem?_eq_some_iff.1 bf).1) bf
 rw [wu bz] at h1
 simp only [Bool.and_eq_true] at h1;exact h1.1
theorem QL {qs:List aN} {mem:Int}:∀{k j:Nat},oo qs mem k= some j→∃q,qs[j]? =some q∧q.mover= mem
 | 0,j,h=>by simp [oo] at h
 | k + 1,j,h=>by
  unfold oo at h
  split at h
  ·rename_i q bf
   split at h
   ·rename_i hm;cases h;exact⟨q,bf,by simpa using hm⟩
   ·exact QL h
  ·exact QL h
open Go.RowKit Go.G9
def Mk (w:World):Prop:=0 < w.heap.size∧∀(i:Nat) (s:ByteArray),[⟨#[]⟩,(⟨#[109,97,106,111,114,105,116,121]⟩ :ByteArray),(⟨#[116,119,111,45,116,104,105,114,100,115]⟩ :ByteArray),(⟨#[97,108,108]⟩ :ByteArray)][i]? =some s→w.cell? ⟨0,i,none⟩ =some (.string s)
theorem Mk.U {w ah:World} (h:Mk w) (aE:Below w w ah):Mk ah:=by
 obtain⟨ck,aR⟩:=h
 exact⟨Nat.lt_of_lt_of_le ck aE.size,fun i s hi=>(aE.cell (p:=⟨0,i,none⟩) ck).trans (aR i s hi)⟩
open Go.RowKit Go.G9
def me (rk:Int) (rs:List aM):Nat→List Int
 | 0=>[]
 | k + 1=>match rs[k]? with | some r=>if rk < r.gH then me rk rs k ++ [r.id] else me rk rs k | none=>me rk rs k
theorem xS (rk:Int) (rs:List aM):∀k,(me rk rs k).length≤k
 | 0=>Nat.le_refl _
 | k + 1=>by
  have:=xS rk rs k
  unfold me
  split
  ·split <;> simp <;> omega
  ·omega
theorem Hg {rk:Int} {rs:List aM} {k:Nat} {r:aM} (ay:rs[k]? =some r) (h:rk < r.gH):me rk rs (k + 1)= me rk rs k ++ [r.id]:=by simp [me,ay,h]
theorem JZ {rk:Int} {rs:List aM} {k:Nat} {r:aM} (ay:rs[k]? =some r) (h:¬rk < r.gH):me rk rs (k + 1)= me rk rs k:=by simp [me,ay,h]
theorem XJ (rk:Int) (rs:List aM):∀k,k≤rs.length→me rk rs k= ((rs.take k).filter (fun r=>decide (rk < r.gH))).map (fun r=>r.id)
 | 0,_=>by simp [me]
 | k + 1,h=>by
  have ay:rs[k]? =some rs[k]:=List.getElem?_eq_getElem (by omega);have eP:=XJ rk rs k (by omega)
  rw [List.take_add_one,ay,Option.toList_some,List.filter_append,List.map_append,← eP]
  by_cases bz:rk < rs[k].gH
  ·rw [Hg ay bz];simp [bz]
  ·rw [JZ ay bz];simp [bz]
theorem XI (rk:Int) (rs:List aM):me rk rs rs.length= (rs.filter (fun r=>decide (rk < r.gH))).map (fun r=>r.id):=by
 rw [XJ rk rs _ (Nat.le_refl _),List.take_length]
theorem XK {rs:List aM} {qs:List aN} (aR:dF rs qs= true) (h:qs.length= 0):ht rs qs= me (-1) rs rs.length:=by
 rw [XM h,XI]
 congr 1
 symm
 rw [List.filter_eq_self]
 intro r bz
 obtain⟨k,ax⟩:=List.mem_iff_getElem?.1 bz
 have:=zu (zv (nd aR).1 ax)
 simp;omega
theorem XN {rs:List aM} {qs:List aN} {j:Nat} {q:aN} {t:aM} (aT:qs.length= j + 1) (bf:qs[j]? =some q) (bz:hA rs q.fU= some t) (ax:kn t q= false) (h6:qs.length≠6):ht rs qs= me t.gH rs rs.length:=by
 rw [Pz aT bf bz,ax,decide_eq_false h6,XI];rfl
theorem Ka {rs:List aM} {qs:List aN} {j:Nat} {q:aN} {t:aM} (aT:qs.length= j + 1) (bf:qs[j]? =some q) (bz:hA rs q.fU= some t) (ax:kn t q= true∨qs.length= 6):ht rs qs= []:=by
 rw [Pz aT bf bz,if_pos]
 rcases ax with h | h
 ·rw [h];rfl
 ·rw [h];simp
theorem adT {p:Prop} (h:p:=by
 have ze:Below w w cf:=(iT.alloc iT.size _).grown fs (by have:=iT.size;simp;omega) (fun q bf=>(rz.lt q bf).1)
 go_roundw
 case rel=>exact⟨k + 1,by omega,by go_num,by rw [lV.out];exact eX,ze⟩
 case measure=>simp [intOf];omega):p:=h
theorem Rh {p:Prop} (h:p:=by
 have lV:=J cX;clear cX
 go_wp2
 go_roundw
 case rel=>exact⟨k + 1,by omega,by go_num,by rw [lV.out];exact rz,iT⟩
 case measure=>simp [intOf];omega):p:=h
theorem abz {p:Prop} (h:p:=by
 obtain rfl:k= rs.length:=by omega
 obtain⟨Y,gV,rfl,_,_,_⟩:=bR.form fZ
 go_wp2
 go_ret
 rw [cJ.out]
 exact⟨Y,gV,rfl,bR,aE⟩):p:=h
theorem abO {p:Prop} (h:p:=by
 rintro e bg ⟨rfl,aE⟩
 go_wp2
 go_ret
 rw [cJ.out]
 exact⟨some ⟨w.heap.size,0,none⟩,0,rfl,hL.bh aE,ai nW aE⟩):p:=h
theorem Py (an:Option Addr) (c0:Nat) (rs:List aM) (h0:rs.length≤1048576) (ar:Option Addr) (au:Nat) (qs:List aN) (h1:qs.length≤1048576) (aR:dF rs qs= true) (w:World) (aW:aJ 7 aM.cells w an rs) (aV:aJ 3 aN.cells w ar qs):
 Calls Tryz.prog 172 #[.slice an rs c0,.slice ar qs au] w fun e ah=>∃A c,e= .returned (.slice A (ht rs qs).length c)∧aX w 3 1 bU ah (.slice A (ht rs qs).length c) (ht rs qs)∧Below w w ah:=by
 obtain⟨i0,hi,dk,dx,dC⟩:=info_parts rI
 have eu:=J aW;have hL:aX w 3 1 bU (w.alloc (.cells #[] 3)) (.slice w.heap.size 0 0) ([]:List Int):=aX.made w (Nat.le_refl _) _;have nW:Below w w (w.alloc (.cells #[] 3)):=ca w _
 by_cases iz:qs.length= 0
 ·have cJ:=J (XK aR iz)
  have bI:decide ((qs.length:Int) - 1≥0)= false:=by rw [iz];decide
  have aeX:=J iz;clear aW aV
  obtain rfl:=List.length_eq_zero_iff.1 iz
  clear bI iz aeX
  go_in
  go_wp2
  go_loopw [5,37] (fun y i wr=>∃k:Nat,k≤rs.length∧i= .int .i64 k∧aX w 3 1 bU wr y (me (-1) rs k)∧Below w w wr) (fun _ i _=>rs.length - (intOf i).toNat)
  case atStart=>exact⟨0,Nat.zero_le _,rfl,hL,nW⟩
  case round=>
   clear hL nW
   obtain⟨k,ax,rfl,bR,aE⟩:=hrel
   by_cases bn:k < rs.length
   ·obtain⟨ey,gN,x,rfl,dU,ay,bq⟩:=eu.out.at_ aE bn
    have jl:=zu (zv (nd aR).1 ay)
    obtain⟨pW,vy,ha,xs,vw,jn,vx,QT⟩:=x
    have cy:=bq 0 _ rfl;have dD:=bq 1 _ rfl;have di:=bq 2 _ rfl;have ya:=bq 3 _ rfl;have pN:=bq 4 _ rfl;have vl:=bq 5 _ rfl;have Bb:=bq 6 _ rfl
    simp only [Nat.add_zero] at cy
    have g0:=cy (aB.self _);have g1:=dD (aB.self _);have g2:=di (aB.self _);have g3:=ya (aB.self _);have g4:=pN (aB.self _);have g5:=vl (aB.self _);have g6:=Bb (aB.self _)
    simp only [aB.self] at g0
    simp only [aB.self] at g1
    simp only [aB.self] at g2
    simp only [aB.self] at g3
    simp only [aB.self] at g4
    simp only [aB.self] at g5
    simp only [aB.self] at g6
    have cg:=J ay;clear ay bq cy dD di ya pN vl Bb
    go_upto_region 10 with fail
    have rz:=bR.alloc (.cells #[pW,vy,ha,xs,vw,jn,vx] 89);have bp:=aC.new wr 89 #[pW,vy,ha,xs,vw,jn,vx];have iT:=aE.alloc aE.size (.cells #[pW,vy,ha,xs,vw,jn,vx] 89)
    generalize wr.alloc (.cells #[pW,vy,ha,xs,vw,jn,vx] 89)= hF at *
    clear g0 g1 g2 g3 g4 g5 g6 bR;have dj:=(bp.cell 0).trans (show _= some (.int .i64 pW) from rfl);have dV:=(bp.cell 2).trans (show _= some (.int .i64 ha) from rfl)
    by_cases bz:(-1) < ha
    ·have cX:=Hg (rk:=(-1)) cg.out bz
     have lV:=J cX;clear cX
     go_wp2_with ((at_builtin;refine kJ rfl _ _ 38 rfl w.heap.size 3 i0 _ 1 8 Tryz.underlying38 hi dk dx dC rfl (by decide) bU fZ pd _ (me (-1) rs k) rfl (rz.alloc _) ⟨hF.heap.size,0,none⟩ 1 pW rfl (aJ.one _ _) (by have:=xS (-1) rs k;unfold maxLen;omega) (by have:=xS (-1) rs k;omega) (by have:=iT.size;simp;omega) ?_;intro v4 cf eX fs kC))
     exact adT
    ·have cX:=JZ (rk:=(-1)) cg.out bz
     exact Rh
   ·exact abz
 ·obtain⟨j,bI⟩ :∃j,qs.length= j + 1:=⟨qs.length - 1,by omega⟩
  obtain⟨ds,hO,q,rfl,bE,bf,nZ⟩:=aV.at_ (Below.refl _ _) (k:=j) (by omega)
  obtain⟨t,cA⟩:=oi aR bf
  obtain⟨qr,cp,dy⟩:=q
  have cy:=nZ 0 _ rfl;have dD:=nZ 1 _ rfl;have di:=nZ 2 _ rfl
  simp only [Nat.add_zero] at cy
  have g0:=cy (aB.self _);have g1:=dD (aB.self _);have g2:=di (aB.self _)
  simp only [aB.self] at g0
  simp only [aB.self] at g1
  simp only [aB.self] at g2
  have dc:=J bf;have bP:=J cA;have eI:=J bI;have Ir:Hid (aJ 3 aN.cells w (some ⟨ds,hO,none⟩) qs):=J aV;clear bf cA nZ cy dD di aV
  have ie:j≤1048576:=by omega
  rw [bI]
  clear bI iz h1
  cases ax:kn t ⟨qr,cp,dy⟩
  case true=>
   have fT:=J ax;have cJ:=J (Ka eI.out dc.out bP.out (Or.inl ax));clear ax
   go_in
   go_wp2_with fail
   refine (vi an c0 rs h0 ⟨qr,cp,dy⟩ t bP.out true fT.out _ (eu.out.U (ca _ _))).mono ?_
   exact abO
  case false=>
   have fT:=J ax
   by_cases h6:j + 1= 6
   ·obtain rfl:j= 5:=by omega
    have cJ:=J (Ka eI.out dc.out bP.out (Or.inr eI.out));clear ax
    go_in
    go_wp2_with fail
    refine (vi an c0 rs h0 ⟨qr,cp,dy⟩ t bP.out false fT.out _ (eu.out.U (ca _ _))).mono ?_
    exact abO
   ·have cJ:=J (XN eI.out dc.out bP.out ax (by have:=eI.out;omega))
    have ahQ:((j:Int) + 1 == 6)= false:=beq_eq_false_iff_ne.2 (by omega);clear ax
    obtain⟨zz,ir,fj,gU,iq,il,zy,aal⟩:=t
    go_in
    go_wp2_with fail
    refine (vi an c0 rs h0 ⟨qr,cp,dy⟩ ⟨zz,ir,fj,gU,iq,il,zy,aal⟩ bP.out false fT.out _ (eu.out.U (ca _ _))).mono ?_
    rintro e bg ⟨rfl,aE⟩
    replace hL:=hL.bh aE;replace nW:=ai nW aE
    obtain⟨_,_,y,e9,fR,hy,dh⟩:=Ir.out.at_ nW (k:=j) (by have:=eI.out;omega)
    cases e9
    obtain rfl:(⟨qr,cp,dy⟩ :aN)= y:=Option.some.inj (dc.out.symm.trans hy)
    clear g0 g1 g2 hy;have cy:=dh 0 _ rfl;have dD:=dh 1 _ rfl;have di:=dh 2 _ rfl
    simp only [Nat.add_zero] at cy
    have g0:=cy (aB.self _);have g1:=dD (aB.self _);have g2:=di (aB.self _)
    simp only [aB.self] at g0
    simp only [aB.self] at g1
    simp only [aB.self] at g2
    clear dh cy dD di
    go_wp2_with fail
    refine (qY an c0 rs h0 ⟨qr,cp,dy⟩ ⟨zz,ir,fj,gU,iq,il,zy,aal⟩ bP.out _ (eu.out.U nW)).mono ?_
    rintro e aQ ⟨rfl,aP⟩
    replace hL:=hL.bh aP;replace nW:=ai nW aP;clear g0 g1 g2
    have hf:=fun W=>(show (Instr.field 89 (.agg #[zz,ir,fj,gU,iq,il,zy]) 2).run Tryz.prog W= .ok (.int .i64 fj) W by kernel_rfl)
    go_wp2
    clear hf
    go_loopw [5,37] (fun y i wr=>∃k:Nat,k≤rs.length∧i= .int .i64 k∧aX w 3 1 bU wr y (me fj rs k)∧Below w w wr) (fun _ i _=>rs.length - (intOf i).toNat)
    case atStart=>exact⟨0,Nat.zero_le _,rfl,hL,nW⟩
    case round=>
     clear hL nW
     obtain⟨k,ax,rfl,bR,aE⟩:=hrel
     by_cases bn:k < rs.length
     ·obtain⟨ey,gN,x,rfl,dU,ay,bq⟩:=eu.out.at_ aE bn
      have jl:=zu (zv (nd aR).1 ay)
      obtain⟨pW,vy,ha,xs,vw,jn,vx,QT⟩:=x
      have cy:=bq 0 _ rfl;have dD:=bq 1 _ rfl;have di:=bq 2 _ rfl;have ya:=bq 3 _ rfl;have pN:=bq 4 _ rfl;have vl:=bq 5 _ rfl;have Bb:=bq 6 _ rfl
      simp only [Nat.add_zero] at cy
      have g0:=cy (aB.self _);have g1:=dD (aB.self _);have g2:=di (aB.self _);have g3:=ya (aB.self _);have g4:=pN (aB.self _);have g5:=vl (aB.self _);have g6:=Bb (aB.self _)
      simp only [aB.self] at g0
      simp only [aB.self] at g1
      simp only [aB.self] at g2
      simp only [aB.self] at g3
      simp only [aB.self] at g4
      simp only [aB.self] at g5
      simp only [aB.self] at g6
      have cg:=J ay;clear ay bq cy dD di ya pN vl Bb
      go_upto_region 10 with fail
      have rz:=bR.alloc (.cells #[pW,vy,ha,xs,vw,jn,vx] 89);have bp:=aC.new wr 89 #[pW,vy,ha,xs,vw,jn,vx];have iT:=aE.alloc aE.size (.cells #[pW,vy,ha,xs,vw,jn,vx] 89)
      generalize wr.alloc (.cells #[pW,vy,ha,xs,vw,jn,vx] 89)= hF at *
      clear g0 g1 g2 g3 g4 g5 g6 bR;have dj:=(bp.cell 0).trans (show _= some (.int .i64 pW) from rfl);have dV:=(bp.cell 2).trans (show _= some (.int .i64 ha) from rfl)
      by_cases bz:fj < ha
      ·have cX:=Hg (rk:=fj) cg.out bz
       have lV:=J cX;clear cX
       go_wp2_with ((at_builtin;refine kJ rfl _ _ 38 rfl w.heap.size 3 i0 _ 1 8 Tryz.underlying38 hi dk dx dC rfl (by decide) bU fZ pd _ (me fj rs k) rfl (rz.alloc _) ⟨hF.heap.size,0,none⟩ 1 pW rfl (aJ.one _ _) (by have:=xS fj rs k;unfold maxLen;omega) (by have:=xS fj rs k;omega) (by have:=iT.size;simp;omega) ?_;intro v4 cf eX fs kC))
       exact adT
      ·have cX:=JZ (rk:=fj) cg.out bz
       exact Rh
     ·exact abz
open Go.RowKit Go.G9
def pM (m:Int) (s:aK):Bool:=s.mem == m
def eB (xs:List aK) (m:Int):aK:=match xs.find? (pM m) with | some s=>s | none=>⟨m,0,0⟩
def oD (ag af:Int) (s:aK):Bool:=decide (s.de < ag) && decide (s.cU < af)
theorem ZJ {xs:List aK} {m:Int} (h:xs.find? (pM m)= none):eB xs m=⟨m,0,0⟩:=by simp [eB,h]
theorem ZL {xs:List aK} {m:Int} {s:aK} (h:xs.find? (pM m)= some s):eB xs m= s:=by simp [eB,h]
theorem Na {T:Type} {p:T→Bool}:∀{xs:List T} {k:Nat} {x:T},hI (fun i=>!jg p xs i) k= true→xs[k]? =some x→p x= true→xs.find? p= some x
 | [],k,x,_,h,_=>by simp at h
 | y ::ys,0,x,_,h,aR=>by simp at h;subst h;simp [List.find?_cons,aR]
 | y ::ys,k + 1,x,cX,h,aR=>by
  have h0:=oV.1 cX 0 (by omega)
  have hy:p y= false:=by simpa [jg] using h0
  rw [List.find?_cons,hy]
  refine Na (k:=k) (oV.2 fun i hi=>?_) (by simpa using h) aR
  have:=oV.1 cX (i + 1) (by omega)
  simpa [jg] using this
theorem Uh {T:Type} {p:T→Bool} {xs:List T} (h:hI (fun i=>!jg p xs i) xs.length= true):xs.find? p= none:=by
 rw [List.find?_eq_none]
 intro x ay
 obtain⟨i,hi⟩:=List.mem_iff_getElem?.1 ay
 have:=oV.1 h i (List.getElem?_eq_some_iff.1 hi).1
 simpa [jg,hi] using this
theorem WT (A:Option Addr) (c:Nat) (xs:List aK) (bd:xs.length≤1048576) (f:FuncId) (qd:Array Value) (Cy:∀args W,(callFunc f args).run Tryz.prog W= .ok (.enter f args) W) (p:aK→Bool) (v:Int) (az:oJ p xs= v) (w:World) (bN:aJ 3 aK.cells w A xs)
  (hf:∀x,x ∈ xs→∀W,Below w w W→Calls Tryz.prog f (#[.agg #[.int .i64 x.mem,.int .i64 x.de,.int .i64 x.cU]] ++ qd) W fun e ah=>e= .returned (.bool (p x))∧Below W W ah):
 Calls Tryz.prog 271 #[.slice A xs c,.func (.func f) #[] qd] w fun e ah=>e= .returned v∧Below w w ah:=by
 subst az
 have cD:=J hf;clear hf
 go_in
 go_wp2
 go_loopw [8] (fun i wr=>∃k:Nat,k≤xs.length∧i= .int .i64 k∧hI (fun i=>!jg p xs i) k= true∧Below w w wr) (fun i _=>xs.length - (intOf i).toNat)
 case atStart=>exact⟨0,Nat.zero_le _,rfl,rfl,Below.refl _ _⟩
 case round=>
  obtain⟨k,ax,rfl,aT,aE⟩:=hrel
  have cJ:=J aT;clear aT
  by_cases bn:k < xs.length
  ·obtain⟨b,off,x,rfl,dU,ay,bq⟩:=bN.at_ aE bn
   have DX:=J (cD.out x (List.mem_of_getElem? ay))
   obtain⟨sm,st,cx⟩:=x
   have f0:=bq 0 _ rfl;have f1:=bq 1 _ rfl;have f2:=bq 2 _ rfl
   simp only [Nat.add_zero] at f0
   have g0:=f0 (aB.self _);have g1:=f1 (aB.self _);have g2:=f2 (aB.self _)
   simp only [aB.self] at g0
   simp only [aB.self] at g1
   simp only [aB.self] at g2
   have cg:=J ay;clear ay bq
   go_wp2_with fail
   refine (DX.out _ aE).mono ?_
   rintro e ah ⟨rfl,eZ⟩
   cases aR:p ⟨sm,st,cx⟩
   ·exact Ri
   ·exact Rl
  ·exact Li
theorem ZM (m:Int) (g:Nat) (x:aK) (W:World) (ck:W.cell? ⟨g,0,none⟩ =some (.int .i64 m)) (aT:g < W.heap.size):
 Calls Tryz.prog 272 (#[.agg #[x.mem,x.de,x.cU]] ++ #[.pointer (some ⟨g,0,none⟩)]) W fun e ah=>e= .returned (.bool (x.mem == m))∧Below W W ah:=by
 cases aE:x.mem == m
 all_goals
  have aP:=J aE
  go_in
  go_wp2
  go_ret
  exact⟨rfl,ca _ _⟩
theorem yi (ag af sp:Int) (W:Option Addr) (wl wc:Nat) (S:Option Addr) (eY:Nat) (ad:List aK) (bd:ad.length≤1048576) (m:Int) (s:aK) (aZ:eB ad m= s) (w:World) (bO:aJ 3 aK.cells w S ad):
 Calls Tryz.prog 201 #[.agg #[ag,af,sp,.slice W wl wc,.slice S ad eY],m] w fun e ah=>e= .returned (.agg #[s.mem,s.de,s.cU])∧Below w w ah:=by
 cases sx:ad.find? (pM m) with
 | none=>
  obtain rfl:(⟨m,0,0⟩ :aK)= s:=(ZJ sx).symm.trans aZ
  have hP:=J (CP sx);clear sx aZ
  go_in
  go_upto_region 1 with fail
  refine fv fun aH av aj aY ae=>?_
  replace bO:=bO.U av;have I:=av;have aF:=aj.aS;have AW:=(aY.cell 0).trans (show _= some (.int .i64 m) from rfl);have aq:=ae.cK;have dk:=ae.lt
  have dc:Hid (∀x,x ∈ ad→∀V,Below aH aH V→Calls Tryz.prog 272 (#[.agg #[.int .i64 x.mem,.int .i64 x.de,.int .i64 x.cU]] ++ #[.pointer (some ⟨w.heap.size + 1,0,none⟩)]) V fun e ah=>e= .returned (.bool (pM m x))∧Below V V ah):=J fun x _ V ic=>ZM m (w.heap.size + 1) x V ((aY.to ic).cell 0) (aY.to ic).lt
  go_wp2_with fail
  refine (WT S eY ad bd 272 #[.pointer (some ⟨w.heap.size + 1,0,none⟩)] (Bp Tryz.func272 (by kernel_rfl) (by kernel_rfl)) (pM m) _ hP.out _ (bO.U aw) dc.out).mono ?_
  rintro e aQ ⟨rfl,aP⟩
  have ao:=be aH aP;replace I:=ai I ao;replace bO:=bO.U ao;replace aj:=aj.to ao;clear aF;have aF:=aj.aS;replace aY:=aY.to ao;replace AW:=(aY.cell 0).trans (show _= some (.int .i64 m) from rfl);replace ae:=ae.to ao;clear aq;have aq:=ae.cK;have ez:=ae.nT;have Bw:=aj.lt;have wN:=aY.lt;have rX:=ae.lt
  go_wp2
  clear aF AW aq
  refine sP 0 fun cQ aD=>?_
  replace I:=aD.aG I;replace aj:=aD.dJ aj;replace aY:=aD.dJ aY;replace ae:=aD.vP ae;have aF:=aj.aS;have AW:=(aY.cell 0).trans (show _= some (.int .i64 m) from rfl);have aq:=ae.cK
  refine bodyPost_ret (v:= .agg #[m,(0:Int),(0:Int)]) (by simp [results,Tryz.results201,go_sem,aq]) rfl ?_
  exact⟨rfl,I⟩
 | some t=>
  obtain rfl:t= s:=(ZL sx).symm.trans aZ
  obtain⟨k,ax,On⟩:=rG sx
  have bn:k < ad.length:=(List.getElem?_eq_some_iff.1 On).1;have hP:=J ax;clear sx aZ ax
  go_in
  go_upto_region 1 with fail
  refine fv fun aH av aj aY ae=>?_
  replace bO:=bO.U av;have I:=av;have aF:=aj.aS;have AW:=(aY.cell 0).trans (show _= some (.int .i64 m) from rfl);have aq:=ae.cK;have dk:=ae.lt
  have dc:Hid (∀x,x ∈ ad→∀V,Below aH aH V→Calls Tryz.prog 272 (#[.agg #[.int .i64 x.mem,.int .i64 x.de,.int .i64 x.cU]] ++ #[.pointer (some ⟨w.heap.size + 1,0,none⟩)]) V fun e ah=>e= .returned (.bool (pM m x))∧Below V V ah):=J fun x _ V ic=>ZM m (w.heap.size + 1) x V ((aY.to ic).cell 0) (aY.to ic).lt
  go_wp2_with fail
  refine (WT S eY ad bd 272 #[.pointer (some ⟨w.heap.size + 1,0,none⟩)] (Bp Tryz.func272 (by kernel_rfl) (by kernel_rfl)) (pM m) _ hP.out _ (bO.U aw) dc.out).mono ?_
  rintro e aQ ⟨rfl,aP⟩
  have ao:=be aH aP;replace I:=ai I ao;replace bO:=bO.U ao;replace aj:=aj.to ao;clear aF;have aF:=aj.aS;replace aY:=aY.to ao;replace AW:=(aY.cell 0).trans (show _= some (.int .i64 m) from rfl);replace ae:=ae.to ao;clear aq;have aq:=ae.cK
  obtain⟨b,off,fS,rfl,dU,ay,bq⟩:=bO.at_ (Below.refl _ _) bn
  clear aF;have aF:=aj.aS
  obtain rfl:t= fS:=Option.some.inj (On.symm.trans ay)
  have cy:=bq 0 _ rfl;have dD:=bq 1 _ rfl;have di:=bq 2 _ rfl
  simp only [Nat.add_zero] at cy
  have g0:=cy (aB.self _);have g1:=dD (aB.self _);have g2:=di (aB.self _)
  simp only [aB.self] at g0
  simp only [aB.self] at g1
  simp only [aB.self] at g2
  clear ay bq On;have ez:=ae.nT;have wN:=aY.lt;have rX:=ae.lt;have Bw:=aj.lt
  go_wp2
  clear AW aq aF
  refine sP 0 fun cQ aD=>?_
  replace I:=aD.aG I;replace aY:=aD.dJ aY;replace ae:=aD.vP ae;replace aj:=aD.dJ aj;have AW:=(aY.cell 0).trans (show _= some (.int .i64 m) from rfl);have aq:=ae.cK;have aF:=aj.aS
  refine bodyPost_ret (v:= .agg #[t.mem,t.de,t.cU]) (by simp [results,Tryz.results201,go_sem,aq]) rfl ?_
  exact⟨rfl,I⟩
theorem vh (ag af sp:Int) (W:Option Addr) (wl wc:Nat) (S:Option Addr) (eY:Nat) (ad:List aK) (bd:ad.length≤1048576) (m:Int) (s:aK) (aZ:eB ad m= s) (w:World) (bO:aJ 3 aK.cells w S ad):
 Calls Tryz.prog 267 #[.agg #[ag,af,sp,.slice W wl wc,.slice S ad eY],m] w fun e ah=>e= .returned (.agg #[s.mem,s.de,s.cU])∧Below w w ah:=by
 have dW:=J aZ;clear aZ
 go_in
 go_upto_region 1 with fail
 refine fp fun aH av aj ae=>?_
 replace bO:=bO.U av;have I:=av;have aF:=aj.aS;have aq:=ae.cK;have dk:=ae.lt
 go_wp2
 go_loop [5] (fun i=>∃k:Nat,k≤ad.length∧i= .int .i64 k∧hI (fun i=>!jg (pM m) ad i) k= true) (fun i=>ad.length - (intOf i).toNat)
 case atStart=>exact⟨0,Nat.zero_le _,rfl,rfl⟩
 case round=>
  obtain⟨k,ax,rfl,aT⟩:=hrel
  have cJ:=J aT;clear aT
  by_cases bn:k < ad.length
  ·obtain⟨b,off,t,rfl,dU,ay,bq⟩:=bO.at_ (Below.refl _ _) bn
   clear aF;have aF:=aj.aS;have cy:=bq 0 _ rfl;have dD:=bq 1 _ rfl;have di:=bq 2 _ rfl
   simp only [Nat.add_zero] at cy
   have g0:=cy (aB.self _);have g1:=dD (aB.self _);have g2:=di (aB.self _)
   simp only [aB.self] at g0
   simp only [aB.self] at g1
   simp only [aB.self] at g2
   have cg:=J ay;clear ay bq
   cases he:t.mem == m
   ·go_wp2
    go_round
    case rel=>exact⟨k + 1,by omega,by go_num,np cJ.out (by simp [jg,cg.out,pM,he])⟩
    case measure=>simp [intOf];omega
   ·have da:=J he
    obtain rfl:t= s:=(ZL (Na cJ.out cg.out (p:=pM m) da.out)).symm.trans dW.out
    have ez:=ae.nT;have rX:=ae.lt;have Bw:=aj.lt
    go_wp2
    clear aq aF
    refine sP 0 fun cQ aD=>?_
    replace I:=aD.aG I;replace ae:=aD.vP ae;replace aj:=aD.dJ aj;have aq:=ae.cK;have aF:=aj.aS
    refine bodyPost_ret (v:= .agg #[t.mem,t.de,t.cU]) (by simp [results,Tryz.results267,go_sem,aq]) rfl ?_
    exact⟨rfl,I⟩
  ·obtain rfl:k= ad.length:=by omega
   obtain rfl:(⟨m,0,0⟩ :aK)= s:=(ZJ (Uh cJ.out)).symm.trans dW.out
   have ez:=ae.nT;have Bw:=aj.lt;have rX:=ae.lt
   go_wp2
   clear aF aq
   refine sP 0 fun cQ aD=>?_
   replace I:=aD.aG I;replace aj:=aD.dJ aj;replace ae:=aD.vP ae;have aF:=aj.aS;have aq:=ae.cK
   refine bodyPost_ret (v:= .agg #[m,(0:Int),(0:Int)]) (by simp [results,Tryz.results267,go_sem,aq]) rfl ?_
   exact⟨rfl,I⟩
theorem adq {p:Prop} (h:p:=by
 rintro e bg ⟨rfl,bE⟩
 have aj:=(aC.new w 41 #[ag,af,sp,.slice W wl wc,.slice S ad eY]).U bE (by simp);have f0:=(aj.cell 0).trans (show _= some (.int .i64 ag) from rfl);have f1:=(aj.cell 1).trans (show _= some (.int .i64 af) from rfl);have UG:=aj.lt
 go_wp2
 go_ret
 exact⟨by simp [oD,h1] <;> omega,ai (ai (ca _ _) bE) (ca _ _)⟩):p:=h
theorem AM (ag af sp:Int) (W:Option Addr) (wl wc:Nat) (S:Option Addr) (eY:Nat) (ad:List aK) (bd:ad.length≤1048576) (m:Int) (v:Bool) (az:oD ag af (eB ad m)= v) (w:World) (bO:aJ 3 aK.cells w S ad):
 Calls Tryz.prog 200 #[.agg #[ag,af,sp,.slice W wl wc,.slice S ad eY],m] w fun e ah=>e= .returned v∧Below w w ah:=by
 subst az
 obtain⟨s,aZ⟩ :∃s,eB ad m= s:=⟨_,rfl⟩
 rw [aZ]
 have dW:=J aZ;clear aZ
 obtain⟨sm,st,cx⟩:=s
 by_cases h1:st < ag
 ·by_cases h2:cx < af
  all_goals
   go_in
   go_wp2_with fail
   refine (yi ag af sp W wl wc S eY ad bd m _ dW.out _ (bO.U (ca _ _))).mono ?_
   rintro e bg ⟨rfl,bE⟩
   have aj:=(aC.new w 41 #[ag,af,sp,.slice W wl wc,.slice S ad eY]).U bE (by simp);have f0:=(aj.cell 0).trans (show _= some (.int .i64 ag) from rfl);have f1:=(aj.cell 1).trans (show _= some (.int .i64 af) from rfl);have UG:=aj.lt
   go_wp2
   go_ret
   exact⟨by simp [oD,h1,h2],ai (ai (ca _ _) bE) (ca _ _)⟩
 ·go_in
  go_wp2_with fail
  refine (yi ag af sp W wl wc S eY ad bd m _ dW.out _ (bO.U (ca _ _))).mono ?_
  exact adq
theorem AR (ag af sp:Int) (W:Option Addr) (wl wc:Nat) (S:Option Addr) (eY:Nat) (ad:List aK) (bd:ad.length≤1048576) (m:Int) (v:Bool) (az:oD ag af (eB ad m)= v) (w:World) (bO:aJ 3 aK.cells w S ad):
 Calls Tryz.prog 266 #[.agg #[ag,af,sp,.slice W wl wc,.slice S ad eY],m] w fun e ah=>e= .returned v∧Below w w ah:=by
 subst az
 obtain⟨s,aZ⟩ :∃s,eB ad m= s:=⟨_,rfl⟩
 rw [aZ]
 have dW:=J aZ;clear aZ
 obtain⟨sm,st,cx⟩:=s
 by_cases h1:st < ag
 ·by_cases h2:cx < af
  all_goals
   go_in
   go_wp2_with fail
   refine (vh ag af sp W wl wc S eY ad bd m _ dW.out _ (bO.U (ca _ _))).mono ?_
   rintro e bg ⟨rfl,bE⟩
   have aj:=(aC.new w 41 #[ag,af,sp,.slice W wl wc,.slice S ad eY]).U bE (by simp);have f0:=(aj.cell 0).trans (show _= some (.int .i64 ag) from rfl);have f1:=(aj.cell 1).trans (show _= some (.int .i64 af) from rfl);have UG:=aj.lt
   go_wp2
   go_ret
   exact⟨by simp [oD,h1,h2],ai (ai (ca _ _) bE) (ca _ _)⟩
 ·go_in
  go_wp2_with fail
  refine (vh ag af sp W wl wc S eY ad bd m _ dW.out _ (bO.U (ca _ _))).mono ?_
  exact adq
open Go.RowKit Go.G9
def kE (ag af:Int) (s:aK):Bool:=eH s.mem && (fc s.de 0 ag && fc s.cU 0 af)
def rV (ag af:Int) (xs:List aK):Nat→Bool
 | 0=>match xs[0]? with | some x=>kE ag af x | none=>true
 | j + 1=>match xs[j]?,xs[j + 1]? with | some y,some x=>kE ag af x && decide (y.mem < x.mem) | _,_=>true
def tJ (ag af sp:Int) (ws:List Int) (ad:List aK) (i:Nat):Bool:=match ws[i]? with | some m=>eH m && (!(m == sp) && (!hasB (ws.take i) m && oD ag af (eB ad m))) | none=>true
def Qv (ag sp:Int) (ad:List aK):Bool:=(sp == 0) || decide ((eB ad sp).de < ag)
def sO (ag af:Int) (ad:List aK):Bool:=hI (rV ag af ad) ad.length
def gl (ag af sp:Int) (ws:List Int) (ad:List aK):Bool:=
 fc ag 1 3 && (fc af 1 3600 && (((sp == 0) || eH sp) && (decide (ws.length≤10) && (sO ag af ad && (hI (tJ ag af sp ws ad) ws.length && Qv ag sp ad)))))
theorem zw {ag af:Int} {xs:List aK} {x:aK} (ay:xs[0]? =some x):rV ag af xs 0= kE ag af x:=by simp only [rV,ay]
theorem wB {ag af:Int} {xs:List aK} {j:Nat} {x y:aK} (hy:xs[j]? =some y) (ay:xs[j + 1]? =some x):rV ag af xs (j + 1)= (kE ag af x && decide (y.mem < x.mem)):=by simp only [rV,ay,hy]
theorem wI {ag af sp:Int} {ws:List Int} {ad:List aK} {i:Nat} {m:Int} (hm:ws[i]? =some m):tJ ag af sp ws ad i= (eH m && (!(m == sp) && (!hasB (ws.take i) m && oD ag af (eB ad m)))):=by simp only [tJ,hm]
theorem zx {ag af:Int} {xs:List aK} {k:Nat} (ax:k < xs.length) (h:rV ag af xs k= false):sO ag af xs= false:=uj ax h
theorem FA {ag af sp:Int} {ws:List Int} {ad:List aK} (h:sO ag af ad= false):gl ag af sp ws ad= false:=by rw [gl,h];simp
theorem yJ {ag af sp:Int} {ws:List Int} {ad:List aK} {k:Nat} (ax:k < ws.length) (h:tJ ag af sp ws ad k= false):gl ag af sp ws ad= false:=by rw [gl,uj ax h];simp
theorem JV (ag af sp:Int) (W:Option Addr) (ws:List Int) (wc:Nat) (S:Option Addr) (eY:Nat) (ad:List aK) (hw:ws.length≤1048576) (bd:ad.length≤1048576) (v:Bool) (az:sO ag af ad= v) (w:World) (bK:aJ 1 bU w W ws) (bO:aJ 3 aK.cells w S ad):
 Calls Tryz.prog 264 #[.agg #[ag,af,sp,.slice W ws wc,.slice S ad eY]] w fun e ah=>e= .returned v∧Below w w ah:=by
 subst az
 go_in
 have uz:=J bO
 go_upto_region 1 with fail
 refine cR fun aH av aj=>?_
 replace bO:=bO.U av;have I:=av
 obtain⟨f0,f1,f2,f3,f4⟩:=aj.aS
 go_wp2
 go_loopw [3] (fun i wr=>∃k:Nat,k≤ad.length∧i= .int .i64 k∧hI (rV ag af ad) k= true∧Below w w wr∧aC wr w.heap.size 41 #[ag,af,sp,.slice W ws wc,.slice S ad eY]) (fun i _=>ad.length - (intOf i).toNat)
 case atStart=>exact⟨0,Nat.zero_le _,rfl,rfl,I,aj⟩
 case round=>
  clear bO bK I f0 f1 f2 f3 f4 aj
  obtain⟨k,ax,rfl,aT,aE,aj⟩:=hrel
  have cJ:=J aT;clear aT;have bO:=uz.out;have av:=be w aE;have I:Below w w wr:=av;replace bO:=bO.U av
  by_cases bn:k < ad.length
  ·obtain⟨b,off,x,rfl,dU,ay,bq⟩:=bO.at_ (Below.refl _ _) bn
   obtain⟨dZ,iG,xs⟩:=x
   have f4:=(aj.cell 4).trans (show _= some (.slice (some ⟨b,off,none⟩) ad eY) from rfl);have cy:=bq 0 _ rfl;have dD:=bq 1 _ rfl;have di:=bq 2 _ rfl
   simp only [Nat.add_zero] at cy
   have g0:=cy (aB.self _);have g1:=dD (aB.self _);have g2:=di (aB.self _)
   simp only [aB.self] at g0
   simp only [aB.self] at g1
   simp only [aB.self] at g2
   have cg:=J ay;clear ay bq
   go_upto_region 5 with fail
   clear f4
   refine cR fun aH ao aO=>?_
   replace bO:=bO.U ao;replace I:=ai I ao;have bG:=aO.cK;replace aj:=aj.to ao
   obtain⟨f0,f1,f2,f3,f4⟩:=aj.aS
   clear cy dD di g0 g1 g2
   cases h1:eH dZ
   ·have H1:=J h1;clear h1
    clear bG;have bG:=aC.jN (fun K:aB aH.heap.size aH=>(aO.U K.U aO.lt));clear f0 f1 f2 f3 f4
    refine eC (by kernel_rfl) (by kernel_rfl) ?_
    repeat (go_big_quiet_step (fail))
    go_big_quiet_step ((go_at_call 162;exact aB.same _ (iA dZ _ H1.out _)))
    repeat (go_big_quiet_step (fail))
    refine wpQuiet_nil ?_
    intro K
    go_wp2
    go_ret
    exact⟨ep (zx bn (by cases k with | zero=>(rw [zw cg.out,kE];simp only [H1.out];simp) | succ j=>(have hy:ad[j]? =some ad[j]:=List.getElem?_eq_getElem (by omega);rw [wB hy cg.out,kE];simp only [H1.out];simp))).symm,ai I K.U⟩
   have H1:=J h1;clear h1
   cases h2:fc iG 0 ag
   ·have gb:=J h2;clear h2
    clear bG;have bG:=aC.jN (fun K:aB aH.heap.size aH=>(aO.U K.U aO.lt));clear f0 f1 f2 f3 f4
    obtain⟨f0,f1,f2,f3,f4⟩:=aC.kz (fun K:aB aH.heap.size aH=>(aj.U K.U aj.lt))
    refine eC (by kernel_rfl) (by kernel_rfl) ?_
    repeat (go_big_quiet_step (fail))
    go_big_quiet_step ((go_at_call 162;exact aB.same _ (iA dZ _ H1.out _)))
    repeat (go_big_quiet_step (fail))
    go_big_quiet_step ((go_at_call 186;exact aB.same _ (jv iG 0 ag _ gb.out _)))
    repeat (go_big_quiet_step (fail))
    refine wpQuiet_nil ?_
    intro K
    go_wp2
    go_ret
    exact⟨ep (zx bn (by cases k with | zero=>(rw [zw cg.out,kE];simp only [H1.out,gb.out];simp) | succ j=>(have hy:ad[j]? =some ad[j]:=List.getElem?_eq_getElem (by omega);rw [wB hy cg.out,kE];simp only [H1.out,gb.out];simp))).symm,ai I K.U⟩
   have gb:=J h2;clear h2
   cases h3:fc xs 0 af
   ·have hr:=J h3;clear h3
    clear bG;have bG:=aC.jN (fun K:aB aH.heap.size aH=>(aO.U K.U aO.lt));clear f0 f1 f2 f3 f4
    obtain⟨f0,f1,f2,f3,f4⟩:=aC.kz (fun K:aB aH.heap.size aH=>(aj.U K.U aj.lt))
    refine eC (by kernel_rfl) (by kernel_rfl) ?_
    repeat (go_big_quiet_step (fail))
    go_big_quiet_step ((go_at_call 162;exact aB.same _ (iA dZ _ H1.out _)))
    repeat (go_big_quiet_step (fail))
    go_big_quiet_step ((go_at_call 186;exact aB.same _ (jv iG 0 ag _ gb.out _)))
    repeat (go_big_quiet_step (fail))
    go_big_quiet_step ((go_at_call 186;exact aB.same _ (jv xs 0 af _ hr.out _)))
    repeat (go_big_quiet_step (fail))
    refine wpQuiet_nil ?_
    intro K
    go_wp2
    go_ret
    exact⟨ep (zx bn (by cases k with | zero=>(rw [zw cg.out,kE];simp only [H1.out,gb.out,hr.out];simp) | succ j=>(have hy:ad[j]? =some ad[j]:=List.getElem?_eq_getElem (by omega);rw [wB hy cg.out,kE];simp only [H1.out,gb.out,hr.out];simp))).symm,ai I K.U⟩
   have hr:=J h3;clear h3;have dp:Hid (kE ag af ⟨dZ,iG,xs⟩ =true):=J (by rw [kE];simp only [H1.out,gb.out,hr.out];rfl)
   cases k with
   | zero=>
    clear bG;have bG:=aC.jN (fun K:aB aH.heap.size aH=>(aO.U K.U aO.lt));clear f0 f1 f2 f3 f4
    obtain⟨f0,f1,f2,f3,f4⟩:=aC.kz (fun K:aB aH.heap.size aH=>(aj.U K.U aj.lt))
    refine eC (by kernel_rfl) (by kernel_rfl) ?_
    repeat (go_big_quiet_step (fail))
    go_big_quiet_step ((go_at_call 162;exact aB.same _ (iA dZ _ H1.out _)))
    repeat (go_big_quiet_step (fail))
    go_big_quiet_step ((go_at_call 186;exact aB.same _ (jv iG 0 ag _ gb.out _)))
    repeat (go_big_quiet_step (fail))
    go_big_quiet_step ((go_at_call 186;exact aB.same _ (jv xs 0 af _ hr.out _)))
    repeat (go_big_quiet_step (fail))
    refine wpQuiet_nil ?_
    intro K
    go_wp2
    go_roundw
    case rel=>exact⟨1,by omega,by go_num,np cJ.out (by rw [zw cg.out];exact dp.out),ai I K.U,aj.U K.U aj.lt⟩
    case measure=>simp [intOf];omega
   | succ j=>
    obtain⟨cE,rO,y,gy,_,hy,dh⟩:=bO.at_ (Below.refl _ _) (k:=j) (by omega)
    simp only [Option.some.injEq,Addr.mk.injEq,and_true] at gy
    obtain⟨rfl,rfl⟩:=gy
    obtain⟨ot,po,ys⟩:=y
    have iB:=dh 0 _ rfl
    simp only [Nat.add_zero] at iB
    have iv:=J hy;clear hy dh
    by_cases za:ot < dZ
    ·have hle:decide (dZ≤ot)= false:=decide_eq_false (by omega)
     clear bG;have bG:=aC.jN (fun K:aB aH.heap.size aH=>(aO.U K.U aO.lt));clear f0 f1 f2 f3 f4
     obtain⟨f0,f1,f2,f3,f4⟩:=aC.kz (fun K:aB aH.heap.size aH=>(aj.U K.U aj.lt))
     refine eC (by kernel_rfl) (by kernel_rfl) ?_
     repeat (go_big_quiet_step (fail))
     go_big_quiet_step ((go_at_call 162;exact aB.same _ (iA dZ _ H1.out _)))
     repeat (go_big_quiet_step (fail))
     go_big_quiet_step ((go_at_call 186;exact aB.same _ (jv iG 0 ag _ gb.out _)))
     repeat (go_big_quiet_step (fail))
     go_big_quiet_step ((go_at_call 186;exact aB.same _ (jv xs 0 af _ hr.out _)))
     repeat (go_big_quiet_step (fail))
     refine wpQuiet_nil ?_
     intro K
     go_wp2
     go_roundw
     case rel=>exact⟨j + 1 + 1,by omega,by go_num,np cJ.out (by rw [wB iv.out cg.out,dp.out,decide_eq_true (show (aK.mem ⟨ot,po,ys⟩) < (aK.mem ⟨dZ,iG,xs⟩) from za)];rfl),ai I K.U,aj.U K.U aj.lt⟩
     case measure=>simp [intOf];omega
    ·have hle:decide (dZ≤ot)= true:=decide_eq_true (by omega)
     clear bG;have bG:=aC.jN (fun K:aB aH.heap.size aH=>(aO.U K.U aO.lt));clear f0 f1 f2 f3 f4
     obtain⟨f0,f1,f2,f3,f4⟩:=aC.kz (fun K:aB aH.heap.size aH=>(aj.U K.U aj.lt))
     refine eC (by kernel_rfl) (by kernel_rfl) ?_
     repeat (go_big_quiet_step (fail))
     go_big_quiet_step ((go_at_call 162;exact aB.same _ (iA dZ _ H1.out _)))
     repeat (go_big_quiet_step (fail))
     go_big_quiet_step ((go_at_call 186;exact aB.same _ (jv iG 0 ag _ gb.out _)))
     repeat (go_big_quiet_step (fail))
     go_big_quiet_step ((go_at_call 186;exact aB.same _ (jv xs 0 af _ hr.out _)))
     repeat (go_big_quiet_step (fail))
     refine wpQuiet_nil ?_
     intro K
     go_wp2
     go_ret
     exact⟨ep (zx bn (by rw [wB iv.out cg.out,dp.out,decide_eq_false (show¬(aK.mem ⟨ot,po,ys⟩) < (aK.mem ⟨dZ,iG,xs⟩) from by show¬ot < dZ;omega)];rfl)).symm,ai I K.U⟩
  ·obtain⟨f0,f1,f2,f3,f4⟩:=aj.aS
   obtain rfl:k= ad.length:=by omega
   go_wp2
   go_ret
   exact⟨ep cJ.out.symm,(ai I aw)⟩
open Go.RowKit Go.G9
structure eD where
 ag:Int
 af:Int
 sp:Int
 ws:List Int
 ad:List aK
def eD.ok (f:eD):Bool:=gl f.ag f.af f.sp f.ws f.ad
structure RN (ag af sp:Int) (ws:List Int) (ad:List aK):Prop where
 t:1≤ag∧ag≤3
 s:1≤af∧af≤3600
 p:sp= 0∨eH sp= true
 l:ws.length≤10
 ok:∀x,x ∈ ad→kE ag af x= true
 ord:ad.Pairwise (fun a b=>a.mem < b.mem)
 w:∀m,m ∈ ws→eH m= true∧m≠sp∧oD ag af (eB ad m)= true
 ee:ws.Nodup
 k:sp= 0∨(eB ad sp).de < ag
theorem aqD {ag af:Int} {ad:List aK}:sO ag af ad= true↔(∀x,x ∈ ad→kE ag af x= true)∧ad.Pairwise (fun a b=>a.mem < b.mem):=by
 unfold sO
 rw [oV]
 constructor
 ·intro h
  have gd:∀(k:Nat) (x:aK),ad[k]? =some x→kE ag af x= true:=by
   intro k x ay
   have ax:=(List.getElem?_eq_some_iff.1 ay).1;have aZ:=h k ax
   cases k with
   | zero=>simpa only [rV,ay] using aZ
   | succ j=>
    have hy:ad[j]? =some ad[j]:=List.getElem?_eq_getElem (by omega)
    simp only [rV,ay,hy,Bool.and_eq_true] at aZ
    exact aZ.1
  have iM:∀(j:Nat) (y x:aK),ad[j]? =some y→ad[j + 1]? =some x→y.mem < x.mem:=by
   intro j y x hy ay
   have aZ:=h (j + 1) (List.getElem?_eq_some_iff.1 ay).1
   simp only [rV,ay,hy,Bool.and_eq_true,decide_eq_true_eq] at aZ
   exact aZ.2
  have hm:∀(d j:Nat) (y x:aK),ad[j]? =some y→ad[j + 1 + d]? =some x→y.mem < x.mem:=by
   intro d
   induction d with
   | zero=>exact iM
   | succ d eP=>
    intro j y x hy ay
    have aT:=(List.getElem?_eq_some_iff.1 ay).1;have cb:ad[j + 1 + d]? =some ad[j + 1 + d]:=List.getElem?_eq_getElem (by omega);have h1:=eP j y _ hy cb;have h2:=iM (j + 1 + d) _ x cb ay
    omega
  refine⟨fun x ay=>?_,List.pairwise_iff_getElem.2 fun i j hi bI yW=>?_⟩
  ·obtain⟨k,ax⟩:=List.mem_iff_getElem?.1 ay
   exact gd k x ax
  ·have e:i + 1 + (j - i - 1)= j:=by omega
   exact hm (j - i - 1) i _ _ (List.getElem?_eq_getElem hi) (by rw [e];exact List.getElem?_eq_getElem bI)
 ·rintro ⟨h1,h2⟩ k ax
  have ay:ad[k]? =some ad[k]:=List.getElem?_eq_getElem ax
  cases k with
  | zero=>simp only [rV,ay];exact h1 _ (List.getElem_mem _)
  | succ j=>
   have hy:ad[j]? =some ad[j]:=List.getElem?_eq_getElem (by omega)
   simp only [rV,ay,hy,Bool.and_eq_true,decide_eq_true_eq]
   exact⟨h1 _ (List.getElem_mem _),List.pairwise_iff_getElem.1 h2 j (j + 1) _ _ (by omega)⟩
theorem Jh {ag af sp:Int} {ws:List Int} {ad:List aK}:gl ag af sp ws ad= true↔RN ag af sp ws ad:=by
 unfold gl
 simp only [Bool.and_eq_true,Bool.or_eq_true,beq_iff_eq,decide_eq_true_eq,rH,aqD,oV,Qv]
 constructor
 ·rintro ⟨h1,h2,h3,h4,⟨h5,h6⟩,h7,h8⟩
  have hw:∀(k:Nat) (m:Int),ws[k]? =some m→eH m= true∧m≠sp∧hasB (ws.take k) m= false∧oD ag af (eB ad m)= true:=by
   intro k m hm
   have:=h7 k (List.getElem?_eq_some_iff.1 hm).1
   simpa only [tJ,hm,Bool.and_eq_true,Bool.not_eq_true',beq_eq_false_iff_ne] using this
  refine⟨h1,h2,h3,h4,h5,h6,fun m hm=>?_,List.pairwise_iff_getElem.2 fun i j hi bI yW e=>?_,h8⟩
  ·obtain⟨k,ax⟩:=List.mem_iff_getElem?.1 hm
   have:=hw k m ax
   exact⟨this.1,this.2.1,this.2.2.2⟩
  ·have:=(hw j _ (List.getElem?_eq_getElem bI)).2.2.1
   unfold hasB at this
   rw [List.any_eq_false] at this
   refine this ws[i] (List.mem_iff_getElem.2 ⟨i,by simp;omega,by simp⟩) ?_
   rw [e];simp
 ·rintro ⟨h1,h2,h3,h4,h5,h6,h7,h8,h9⟩
  refine⟨h1,h2,h3,h4,⟨h5,h6⟩,fun k ax=>?_,h9⟩
  have ay:ws[k]? =some ws[k]:=List.getElem?_eq_getElem ax
  simp only [tJ,ay,Bool.and_eq_true,Bool.not_eq_true',beq_eq_false_iff_ne]
  have:=h7 _ (List.getElem_mem ax)
  refine⟨this.1,this.2.1,?_,this.2.2⟩
  unfold hasB
  rw [List.any_eq_false]
  intro x ay e
  obtain⟨i,hi,e2⟩:=List.mem_iff_getElem.1 ay
  simp at hi e2 e
  exact List.pairwise_iff_getElem.1 h8 i k (by omega) ax (by omega) (e2.trans e)
theorem lg {f:eD}:f.ok= true↔RN f.ag f.af f.sp f.ws f.ad:=Jh
def nP (f:eD) (m:Int):Bool:=f.ok && (eH m && (!(m == f.sp) && (!hasB f.ws m && (oD f.ag f.af (eB f.ad m) && !decide (f.ws.length= 10)))))
def qw (f:eD) (m:Int):eD:={f with ws:=f.ws ++ [m]}
theorem afC {f:eD} {m:Int} (h:nP f m= true):(qw f m).ok= true:=by
 simp only [nP,Bool.and_eq_true,Bool.not_eq_true',beq_eq_false_iff_ne,decide_eq_false_iff_not] at h
 obtain⟨h0,h1,h2,h3,h4,h5⟩:=h
 have H:=lg.1 h0
 refine lg.2 ⟨H.t,H.s,H.p,?_,H.ok,H.ord,?_,?_,H.k⟩
 ·have:=H.l;simp [qw];omega
 ·intro x ay
  simp only [qw,List.mem_append,List.mem_cons,List.not_mem_nil,or_false] at ay
  rcases ay with ay | rfl
  ·exact H.w x ay
  ·exact⟨h1,h2,h4⟩
 ·simp only [qw]
  refine List.nodup_append.2 ⟨H.ee,by simp,?_⟩
  intro a cX b aE e
  simp at aE
  subst e;subst aE
  unfold hasB at h3
  rw [List.any_eq_false] at h3
  exact h3 _ cX (by simp)
def ko (f:eD):Nat→Nat
 | 0=>0
 | k + 1=>match f.ws[k]?,f.ws[ko f k]? with | some x,some y=>if (eB f.ad x).de < (eB f.ad y).de then k else ko f k | _,_=>ko f k
theorem AX (f:eD):∀k,0 < k→ko f k < k
 | 0,h=>absurd h (by omega)
 | k + 1,_=>by
  have eP:ko f k≤k:=by
   cases k with
   | zero=>simp [ko]
   | succ j=>have:=AX f (j + 1) (by omega);omega
  unfold ko
  split
  ·split <;> omega
  ·omega
def sI (f:eD):Option Int:=f.ws[ko f f.ws.length]?
def mK (f:eD):Bool:=f.ok && ((f.sp == 0) && decide (0 < f.ws.length))
def rM (f:eD) (m:Int):eD:={f with sp:=m,ws:=f.ws.filter (fun x=>!(x == m)) }
theorem PH {f:eD} (h:0 < f.ws.length):∃m,sI f= some m∧m ∈ f.ws:=by
 have:=AX f f.ws.length h
 exact⟨f.ws[ko f f.ws.length],List.getElem?_eq_getElem this,List.getElem_mem _⟩
theorem amV {m:Int} (h:eH m= true):m≠0:=by
 have:=rH.1 h
 omega
theorem anv {f:eD} {m:Int} (h:mK f= true) (hm:m ∈ f.ws):(rM f m).ok= true:=by
 simp only [mK,Bool.and_eq_true,beq_iff_eq,decide_eq_true_eq] at h
 obtain⟨h0,h1,h2⟩:=h
 have H:=lg.1 h0;have Sy:=H.w m hm
 refine lg.2 ⟨H.t,H.s,Or.inr Sy.1,?_,H.ok,H.ord,?_,?_,Or.inr ?_⟩
 ·have:=List.length_filter_le (fun x=>!(x == m)) f.ws
  have:=H.l
  simp only [rM]
  omega
 ·intro x ay
  simp only [rM,List.mem_filter,Bool.not_eq_true',beq_eq_false_iff_ne] at ay
  have:=H.w x ay.1
  exact⟨this.1,ay.2,this.2.2⟩
 ·exact H.ee.sublist List.filter_sublist
 ·have:=Sy.2.2
  simp only [oD,Bool.and_eq_true,decide_eq_true_eq] at this
  exact this.1
theorem ahE {xs:List Int} (h:xs.Nodup) {k:Nat} {m:Int} (hm:xs[k]? =some m):xs.filter (fun x=>!(x == m))= xs.take k ++ xs.drop (k + 1):=by
 obtain⟨ax,he⟩:=List.getElem?_eq_some_iff.1 hm
 have e:xs= xs.take k ++ m ::xs.drop (k + 1):=by rw [← he,← List.drop_eq_getElem_cons ax,List.take_append_drop]
 clear hm he;have aR:=h
 rw [e] at aR
 have nb:=List.nodup_append.1 aR;have pH:=List.nodup_cons.1 nb.2.1
 conv=>lhs;rw [e]
 rw [List.filter_append,List.filter_cons]
 simp only [BEq.rfl,Bool.not_true,Bool.false_eq_true,if_false]
 congr 1
 ·rw [List.filter_eq_self]
  intro a cX
  simp only [Bool.not_eq_true',beq_eq_false_iff_ne]
  exact nb.2.2 a cX _ List.mem_cons_self
 ·rw [List.filter_eq_self]
  intro a cX
  simp only [Bool.not_eq_true',beq_eq_false_iff_ne]
  intro e2;subst e2;exact pH.1 cX
def fi:List aK→aK→List aK
 | [],s=>[s]
 | x ::xs,s=>if x.mem < s.mem then x ::fi xs s else if x.mem= s.mem then s ::xs else s ::x ::xs
theorem Qs:∀(xs:List aK) (s:aK),(fi xs s).length≤xs.length + 1
 | [],s=>by simp [fi]
 | x ::xs,s=>by
  unfold fi
  split
  ·have:=Qs xs s;simp;omega
  ·split <;> simp
theorem KH:∀{xs:List aK} {s x:aK},x ∈ fi xs s→x= s∨x ∈ xs
 | [],s,x,h=>by simp [fi] at h;exact Or.inl h
 | y ::xs,s,x,h=>by
  unfold fi at h
  split at h
  ·rcases List.mem_cons.1 h with rfl | h
   ·exact Or.inr List.mem_cons_self
   ·rcases KH h with e | e
    ·exact Or.inl e
    ·exact Or.inr (List.mem_cons_of_mem _ e)
  ·split at h
   ·rcases List.mem_cons.1 h with rfl | h
    ·exact Or.inl rfl
    ·exact Or.inr (List.mem_cons_of_mem _ h)
   ·rcases List.mem_cons.1 h with rfl | h
    ·exact Or.inl rfl
    ·exact Or.inr h
theorem Qt:∀{xs:List aK} {s:aK},xs.Pairwise (fun a b=>a.mem < b.mem)→(fi xs s).Pairwise (fun a b=>a.mem < b.mem)
 | [],s,_=>by simp [fi]
 | y ::xs,s,h=>by
  obtain⟨h1,h2⟩:=List.pairwise_cons.1 h
  unfold fi
  split
  ·next bn=>
   refine List.pairwise_cons.2 ⟨fun a cX=>?_,Qt h2⟩
   rcases KH cX with rfl | cX
   ·exact bn
   ·exact h1 a cX
  ·split
   ·next bn he=>
    refine List.pairwise_cons.2 ⟨fun a cX=>?_,h2⟩
    rw [← he];exact h1 a cX
   ·next bn he=>
    refine List.pairwise_cons.2 ⟨fun a cX=>?_,h⟩
    rcases List.mem_cons.1 cX with rfl | cX
    ·omega
    ·have:=h1 a cX;omega
theorem Dz (x:aK) (xs:List aK) (m:Int):eB (x ::xs) m= if x.mem= m then x else eB xs m:=by
 unfold eB
 rw [List.find?_cons]
 by_cases h:x.mem= m
 ·simp [pM,h]
 ·have:pM m x= false:=by simp [pM,h]
  simp [this,h]
theorem Dy:∀{xs:List aK} {s:aK} (m:Int),xs.Pairwise (fun a b=>a.mem < b.mem)→eB (fi xs s) m= if m= s.mem then s else eB xs m
 | [],s,m,_=>by
  simp only [fi,Dz]
  by_cases h:s.mem= m
  ·rw [if_pos h,if_pos h.symm]
  ·rw [if_neg h,if_neg (fun e=>h e.symm)]
 | y ::xs,s,m,h=>by
  obtain⟨h1,h2⟩:=List.pairwise_cons.1 h
  unfold fi
  split
  ·next bn=>
   rw [Dz,Dz,Dy m h2]
   by_cases hm:m= s.mem
   ·rw [if_pos hm,if_pos hm,if_neg (by omega)]
   ·rw [if_neg hm,if_neg hm]
  ·split
   ·next bn he=>
    rw [Dz,Dz]
    by_cases hm:m= s.mem
    ·rw [if_pos hm.symm,if_pos hm]
    ·rw [if_neg (fun e=>hm e.symm),if_neg hm,if_neg (by omega)]
   ·next bn he=>
    rw [Dz]
    by_cases hm:m= s.mem
    ·rw [if_pos hm.symm,if_pos hm]
    ·rw [if_neg (fun e=>hm e.symm),if_neg hm]
theorem KJ {xs:List aK} {m:Int}:(eB xs m).mem= m:=by
 unfold eB
 cases h:xs.find? (pM m) with
 | none=>rfl
 | some s=>have:=List.find?_some h;simpa [pM] using this
theorem ZK {ag af:Int} {xs:List aK} {m:Int} (h:∀x,x ∈ xs→kE ag af x= true) (cA:0≤ag) (aZ:0≤af) (hm:eH m= true):kE ag af (eB xs m)= true:=by
 unfold eB
 cases hf:xs.find? (pM m) with
 | none=>simp [kE,hm,fc,cA,aZ]
 | some s=>exact h s (List.mem_of_find?_eq_some hf)
def tO (f:eD):aK:=⟨f.sp,(eB f.ad f.sp).de + 1,(eB f.ad f.sp).cU⟩
def mR (f:eD):eD:={f with sp:=0,ad:=fi f.ad (tO f) }
def mh (f:eD):Bool:=f.ok && !(f.sp == 0)
theorem Dg {f:eD} (h:f.ok= true) (h0:f.sp≠0):eH f.sp= true∧kE f.ag f.af (eB f.ad f.sp)= true∧(eB f.ad f.sp).de < f.ag:=by
 have H:=lg.1 h;have aR:eH f.sp= true:=H.p.resolve_left h0;have:=H.t;have:=H.s
 exact⟨aR,ZK H.ok (by omega) (by omega) aR,H.k.resolve_left h0⟩
theorem vo {ag af:Int} {s:aK}:kE ag af s= true↔eH s.mem= true∧(0≤s.de∧s.de≤ag)∧0≤s.cU∧s.cU≤af:=by
 simp [kE,fc]
theorem aaI {f:eD} (h:mh f= true):(mR f).ok= true:=by
 simp only [mh,Bool.and_eq_true,Bool.not_eq_true',beq_eq_false_iff_ne] at h
 obtain⟨h0,h1⟩:=h
 obtain⟨aR,aZ,cA⟩:=Dg h0 h1
 have H:=lg.1 h0
 refine lg.2 ⟨H.t,H.s,Or.inl rfl,H.l,?_,Qt H.ord,?_,H.ee,Or.inl rfl⟩
 ·intro x ay
  rcases KH ay with rfl | ay
  ·have:=vo.1 aZ
   exact vo.2 ⟨aR,⟨by simp only [tO];omega,by simp only [tO,mR];omega⟩,by simp only [tO];omega,by simp only [tO,mR];omega⟩
  ·exact H.ok x ay
 ·intro m hm
  have:=H.w m hm
  refine⟨this.1,amV this.1,?_⟩
  simp only [mR]
  rw [Dy m H.ord,if_neg (by simp only [tO];exact this.2.1)]
  exact this.2.2
def tC (f:eD) (n:Int):Int:=if n < f.af - (eB f.ad f.sp).cU then n else f.af - (eB f.ad f.sp).cU
def rW (f:eD) (n:Int):aK:=⟨f.sp,(eB f.ad f.sp).de,(eB f.ad f.sp).cU + tC f n⟩
def wD (f:eD) (n:Int):eD:={f with ad:=fi f.ad (rW f n) }
def jw (f:eD) (n:Int):eD:=if (rW f n).cU= f.af then mR (wD f n) else wD f n
def oj (f:eD) (n:Int):Bool:=f.ok && (!(f.sp == 0) && fc n 1 3600)
theorem HH {f:eD} {n:Int} (h:oj f n= true):f.ok= true∧f.sp≠0∧1≤n∧n≤3600:=by
 simpa only [oj,Bool.and_eq_true,Bool.not_eq_true',beq_eq_false_iff_ne,rH] using h
theorem aqH {f:eD} {n:Int} (h:oj f n= true):(wD f n).ok= true:=by
 obtain⟨h0,h1,h2,h3⟩:=HH h
 obtain⟨aR,aZ,cA⟩:=Dg h0 h1
 have H:=lg.1 h0;have ax:=vo.1 aZ
 have hu:0≤tC f n∧(eB f.ad f.sp).cU + tC f n≤f.af:=by unfold tC;split <;> omega
 refine lg.2 ⟨H.t,H.s,H.p,H.l,?_,Qt H.ord,?_,H.ee,?_⟩
 ·intro x ay
  rcases KH ay with rfl | ay
  ·exact vo.2 ⟨aR,⟨by simp only [rW];omega,by simp only [rW,wD];omega⟩,by simp only [rW];omega,by simp only [rW,wD];omega⟩
  ·exact H.ok x ay
 ·intro m hm
  have:=H.w m hm
  refine⟨this.1,this.2.1,?_⟩
  simp only [wD]
  rw [Dy m H.ord,if_neg (by simp only [rW];exact this.2.1)]
  exact this.2.2
 ·right
  simp only [wD]
  rw [Dy f.sp H.ord,if_pos (show f.sp= (rW f n).mem from rfl)]
  exact cA
theorem aqG {f:eD} {n:Int} (h:oj f n= true):(jw f n).ok= true:=by
 have:=aqH h
 unfold jw
 split
 ·refine aaI ?_
  have h1:=(HH h).2.1
  simp only [mh,this,Bool.true_and,Bool.not_eq_true',beq_eq_false_iff_ne]
  exact h1
 ·exact this
theorem Dx:∀{xs:List aK} {s:aK} {k:Nat},k≤xs.length→(∀i x,i < k→xs[i]? =some x→x.mem < s.mem)→(∀x,xs[k]? =some x→¬x.mem < s.mem)→
  fi xs s= xs.take k ++ s ::(match xs[k]? with | some x=>if x.mem= s.mem then xs.drop (k + 1) else xs.drop k | none=>[])
 | [],s,k,ax,_,_=>by
  have:k= 0:=by simpa using ax
  subst this;rfl
 | x ::xs,s,0,_,_,h2=>by
  have:=h2 x rfl
  unfold fi
  rw [if_neg this]
  simp only [List.take_zero,List.nil_append,List.getElem?_cons_zero,List.drop_succ_cons,List.drop_zero]
  split <;> rfl
 | x ::xs,s,k + 1,ax,h1,h2=>by
  have ay:=h1 0 x (by omega) rfl
  unfold fi
  rw [if_pos ay,Dx (k:=k) (by simpa using ax) (fun i y hi hy=>h1 (i + 1) y (by omega) (by simpa using hy)) (fun y hy=>h2 y (by simpa using hy))]
  simp
open Go.RowKit Go.G9
def Cc (a b:Int):Int:=if a < b then -1 else if b < a then 1 else 0
theorem Tm (a b:Int):Cc a b < 0↔a < b:=by
 unfold Cc
 by_cases h:a < b
 ·simp [h]
 ·rw [if_neg h];split <;> simp [h]
section
variable {t:Int→Int}
def sj (t:Int→Int) (x z:Int):Int:=Cc (t x) (t z)
theorem Zx {p:Int→Bool} {S:List Int}:∀n,n≤S.length→(∀i z,pT p S n≤i→i < n→S[i]? =some z→p z= true)∧(∀j z,pT p S n= j + 1→S[j]? =some z→p z= false)
 | 0,_=>⟨fun i z _ h=>absurd h (by omega),fun j z h=>by simp [pT] at h⟩
 | n + 1,h=>by
  obtain⟨h1,h2⟩:=Zx (p:=p) (S:=S) n (by omega)
  have cb:S[n]? =some S[n]:=List.getElem?_eq_getElem (by omega)
  cases aR:p S[n] with
  | true=>
   rw [Zy cb aR]
   refine⟨fun i z hi hC ay=>?_,h2⟩
   by_cases e:i= n
   ·subst e;rw [cb] at ay;cases ay;exact aR
   ·exact h1 i z hi (by omega) ay
  | false=>
   rw [Zw cb aR]
   refine⟨fun i z hi hC ay=>by omega,fun j z bI ay=>?_⟩
   obtain rfl:n= j:=by omega
   rw [cb] at ay;cases ay;exact aR
theorem alP {S:List Int} {x:Int} (bO:S.Pairwise (fun a b=>t a≤t b)):∃A B,S= A ++ B∧zh (fun z=>decide (sj t x z < 0)) S x= A ++ x ::B∧(∀z ∈ A,t z≤t x)∧(∀z ∈ B,t x < t z):=by
 obtain⟨h1,h2⟩:=Zx (p:=fun z=>decide (sj t x z < 0)) (S:=S) S.length (Nat.le_refl _)
 have hle:=Qq (fun z=>decide (sj t x z < 0)) S S.length
 unfold zh
 generalize pT (fun z=>decide (sj t x z < 0)) S S.length= j at *
 refine⟨S.take j,S.drop j,(List.take_append_drop _ _).symm,rfl,fun z cb=>?_,fun z cb=>?_⟩
 ·obtain⟨i,hi⟩:=List.mem_iff_getElem?.1 cb
  rw [List.getElem?_take] at hi
  split at hi
  ·rename_i yW
   obtain⟨rJ,rfl⟩ :∃rJ,j= rJ + 1:=⟨j - 1,by omega⟩
   have hy:S[rJ]? =some S[rJ]:=List.getElem?_eq_getElem (by omega);have h3:=h2 rJ _ rfl hy
   have h3:¬t x < t S[rJ]:=fun h=>of_decide_eq_false h3 ((Tm _ _).2 h)
   by_cases e:i= rJ
   ·subst e;rw [hy] at hi;cases hi;omega
   ·obtain⟨ajd,aje⟩:=List.getElem?_eq_some_iff.1 hi
    have:=List.pairwise_iff_getElem.1 bO i rJ ajd (by omega) (by omega)
    rw [aje] at this;omega
  ·cases hi
 ·obtain⟨i,hi⟩:=List.mem_iff_getElem?.1 cb
  rw [List.getElem?_drop] at hi
  have h3:=h1 (j + i) z (by omega) (List.getElem?_eq_some_iff.1 hi).1 hi
  exact (Tm _ _).1 (of_decide_eq_true h3)
theorem HK {xs:List Int}:∀k,k≤xs.length→(ik (sj t) xs k).Pairwise (fun a b=>t a≤t b)∧∀v:Int,(ik (sj t) xs k).filter (fun z=>t z == v)= (xs.take k).filter (fun z=>t z == v)
 | 0,_=>⟨List.Pairwise.nil,fun v=>rfl⟩
 | k + 1,h=>by
  obtain⟨h1,h2⟩:=HK (xs:=xs) k (by omega)
  have ay:xs[k]? =some xs[k]:=List.getElem?_eq_getElem (by omega)
  generalize xs[k]= x at *
  rw [KN ay]
  obtain⟨A,B,e1,e2,e3,e4⟩:=alP (x:=x) h1
  rw [e2]
  rw [e1] at h1 h2
  obtain⟨dD,di,ya⟩:=List.pairwise_append.1 h1
  refine⟨List.pairwise_append.2 ⟨dD,List.pairwise_cons.2 ⟨fun z cb=>by have:=e4 z cb;omega,di⟩,fun a cX b aE=>?_⟩,fun v=>?_⟩
  ·rcases List.mem_cons.1 aE with rfl | aE
   ·exact e3 a cX
   ·exact ya a cX b aE
  ·have h3:=h2 v
   rw [List.take_add_one,ay,Option.toList_some]
   simp only [List.filter_append] at h3 ⊢
   rw [← h3,List.filter_cons]
   by_cases az:t x= v
   ·have bp:B.filter (fun z=>t z == v)= []:=by
     rw [List.filter_eq_nil_iff]
     intro z cb
     have:=e4 z cb
     simp;omega
    rw [bp]
    simp [az]
   ·simp [az]
theorem ZU:∀{jR oK:List Int},jR.Pairwise (fun a b=>t a≤t b)→oK.Pairwise (fun a b=>t a≤t b)→(∀v:Int,jR.filter (fun z=>t z == v)= oK.filter (fun z=>t z == v))→jR= oK
 | [],[],_,_,_=>rfl
 | [],b ::oK,_,_,h=>by
  have:=h (t b)
  simp at this
 | a ::jR,[],_,_,h=>by
  have:=h (t a)
  simp at this
 | a ::jR,b ::oK,h1,h2,h=>by
  obtain⟨a1,a2⟩:=List.pairwise_cons.1 h1
  obtain⟨ds,du⟩:=List.pairwise_cons.1 h2
  have FW:t a= t b:=by
   by_cases bn:t a < t b
   ·have h3:=h (t a)
    have:(b ::oK).filter (fun z=>t z == t a)= []:=by
     rw [List.filter_eq_nil_iff]
     intro z cb
     rcases List.mem_cons.1 cb with rfl | cb
     ·simp;omega
     ·have:=ds z cb;simp;omega
    rw [this] at h3
    simp at h3
   ·by_cases Jw:t b < t a
    ·have h3:=h (t b)
     have:(a ::jR).filter (fun z=>t z == t b)= []:=by
      rw [List.filter_eq_nil_iff]
      intro z cb
      rcases List.mem_cons.1 cb with rfl | cb
      ·simp;omega
      ·have:=a1 z cb;simp;omega
     rw [this] at h3
     simp at h3
    ·omega
  have h3:=h (t a)
  rw [List.filter_cons,List.filter_cons,FW] at h3
  simp only [BEq.rfl,if_true] at h3
  injection h3 with h4 h5
  subst h4
  congr 1
  refine ZU a2 du fun v=>?_
  have h6:=h v
  rw [List.filter_cons,List.filter_cons] at h6
  split at h6
  ·injection h6
  ·exact h6
end
def iX (f:eD) (x:Int):Int:=(eB f.ad x).de
def kF (f:eD):List Int:=ik (sj (iX f)) f.ws f.ws.length
theorem DA (f:eD):(kF f).length= f.ws.length:=wF _ (Nat.le_refl _)
theorem PG (f:eD):∀k,0 < k→k≤f.ws.length→∃m,f.ws[ko f k]? =some m∧(∀i x,i < k→f.ws[i]? =some x→iX f m≤iX f x)∧(∀i x,i < ko f k→f.ws[i]? =some x→iX f m < iX f x)
 | 0,h,_=>absurd h (by omega)
 | 1,_,aT=>by
  have ay:f.ws[0]? =some f.ws[0]:=List.getElem?_eq_getElem (by omega)
  have e:ko f 1= 0:=by
   have:=AX f 1 (by omega)
   omega
  rw [e]
  refine⟨_,ay,fun i x hi h=>?_,fun i x hi=>absurd hi (by omega)⟩
  obtain rfl:i= 0:=by omega
  rw [ay] at h;cases h;exact Int.le_refl _
 | k + 2,_,aT=>by
  obtain⟨m,h1,h2,h3⟩:=PG f (k + 1) (by omega) (by omega)
  have ay:f.ws[k + 1]? =some f.ws[k + 1]:=List.getElem?_eq_getElem (by omega)
  generalize f.ws[k + 1]= x at *
  have bn:=AX f (k + 1) (by omega)
  rw [ko,ay,h1]
  dsimp only
  by_cases aG:(eB f.ad x).de < (eB f.ad m).de
  ·rw [if_pos aG]
   have rC:iX f x < iX f m:=aG
   refine⟨x,ay,fun i y hi hy=>?_,fun i y hi hy=>?_⟩
   ·by_cases e:i= k + 1
    ·subst e;rw [ay] at hy;cases hy;exact Int.le_refl _
    ·have:=h2 i y (by omega) hy;omega
   ·have:=h2 i y hi hy;omega
  ·rw [if_neg aG]
   have rC:¬iX f x < iX f m:=aG
   refine⟨m,h1,fun i y hi hy=>?_,h3⟩
   by_cases e:i= k + 1
   ·subst e;rw [ay] at hy;cases hy;omega
   ·exact h2 i y (by omega) hy
theorem Ug {P:Int→Bool}:∀{xs:List Int} {j:Nat} {m:Int},xs[j]? =some m→P m= true→(∀i x,i < j→xs[i]? =some x→P x= false)→∃r,xs.filter P= m ::r
 | [],j,m,h,_,_=>by simp at h
 | y ::xs,0,m,h,aR,_=>by
  simp at h;subst h
  exact⟨xs.filter P,by simp [aR]⟩
 | y ::xs,j + 1,m,h,aR,bd=>by
  have hy:=bd 0 y (by omega) rfl
  obtain⟨r,bz⟩:=Ug (xs:=xs) (j:=j) (m:=m) (by simpa using h) aR (fun i x hi ay=>bd (i + 1) x (by omega) (by simpa using ay))
  exact⟨r,by rw [List.filter_cons,hy];simpa using bz⟩
theorem aqI {f:eD} (h:0 < f.ws.length):(kF f)[0]? =sI f:=by
 obtain⟨m,h1,h2,h3⟩:=PG f f.ws.length h (Nat.le_refl _)
 obtain⟨s1,s2⟩:=HK (t:=iX f) (xs:=f.ws) f.ws.length (Nat.le_refl _)
 have aT:=DA f
 unfold sI
 rw [h1]
 have e0:ik (sj (iX f)) f.ws f.ws.length= kF f:=rfl
 rw [e0] at s1 s2
 generalize kF f= S at *
 cases S with
 | nil=>simp at aT;omega
 | cons a S=>
  obtain⟨a1,a2⟩:=List.pairwise_cons.1 s1
  rw [List.take_length] at s2
  have ham:a ∈ f.ws:=by
   have h5:=s2 (iX f a)
   rw [List.filter_cons] at h5
   simp only [BEq.rfl,if_true] at h5
   have:a ∈ f.ws.filter (fun z=>iX f z == iX f a):=by rw [← h5];exact List.mem_cons_self
   exact (List.mem_filter.1 this).1
  obtain⟨i,hi⟩:=List.mem_iff_getElem?.1 ham
  have eh:=h2 i a (List.getElem?_eq_some_iff.1 hi).1 hi
  obtain⟨r,bz⟩:=Ug (P:=fun z=>iX f z == iX f m) h1 (by simp) (fun i x hi ay=>by have:=h3 i x hi ay;simp;omega)
  have h5:=s2 (iX f m)
  rw [bz] at h5
  have hm:m ∈ a ::S:=by
   have:m ∈ (a ::S).filter (fun z=>iX f z == iX f m):=by rw [h5];exact List.mem_cons_self
   exact (List.mem_filter.1 this).1
  have cm:iX f a≤iX f m:=by
   rcases List.mem_cons.1 hm with rfl | hm
   ·exact Int.le_refl _
   ·exact a1 m hm
  rw [List.filter_cons] at h5
  have:(iX f a == iX f m)= true:=by simp;omega
  rw [this] at h5
  simp only [if_true] at h5
  injection h5 with h6 h7
  subst h6;rfl
end Go.Proofs.YtlaaemmmbodaaaaGreatDoor
