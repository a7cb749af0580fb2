/- Parts. -/
import Derived.Test.YtlaaemmmbodaaaaGreatDoorEx1
set_option maxHeartbeats 16000000
set_option maxRecDepth 100000
set_option linter.unnecessarySimpa false
set_option linter.unusedSimpArgs false
set_option linter.unusedVariables false
namespace Go.Proofs.YtlaaemmmbodaaaaGreatDoor
open Go.RowKit Go.G9
def tK (q:Int):List Value:=[.int .i64 (q),.int .i64 (q + 1),.int .i64 (q + 1 + 1)]
theorem anR (q:Int):(tK q).length= 3:=rfl
theorem Re {p:Prop} (h:p:=by
 obtain rfl:k= xs.length:=by omega
 go_wp2
 go_ret
 refine⟨vp (by have:=cV.out;omega),?_,hO.out⟩
 have h:=aV.Dx (B:=B) (xs:=fE m 3 xs.length) gU bm (by rw [tF];exact nj) kq fb.out (fun i x ay=>cB.out i x (by have:=(List.getElem?_eq_some_iff.1 ay).1;rwa [tF] at this) ay)
 rw [tF] at h
 exact h):p:=h
theorem anj (B:Nat) (A:Option Addr) (c:Nat) (xs:List aI) (aY:xs.length≤1048576) (m:Int) (h0:0 < m) (h1:m≤100000000) (w:World) (bP:aV B 214 3 aI.cells w (.slice A xs c) xs):
 Calls Tryz.prog 227 #[.slice A xs c,m] w fun e ag=>e= .returned (.int .i64 (m + 3 * xs.length))∧aV B 214 3 tK ag (.slice A xs c) (fE m 3 xs.length)∧w.grownBy ag (Value.slice A xs c).ownBlock:=by
 by_cases cc:xs.length= 0
 ·have lK:xs= []:=List.length_eq_zero_iff.1 cc
  subst lK
  clear cc;have fB:aV B 214 3 tK w (.slice A 0 c) (fE m 3 0):=bP.empty
  exact HY
 obtain⟨g,cap,xg,xJ,bm,hK,nj,kq,iy⟩:=bP.block (by omega)
 injection xJ with xK _ xL
 subst xK xL
 have wX:=J iy;have wV:=J hK;clear iy hK bP cc
 go_in
 go_wp2
 go_loopw [1,5] (fun pN i wr=>∃(k:Nat) (q:Int) (cs:Array Value),k≤xs.length∧i= .int .i64 k∧pN= .int .i64 q∧q= m + 3 * k∧aq wr g 214 cs∧cs.size= c * 3∧lh 3 tK (fE m 3 xs.length) k cs∧w.grownBy wr (some g)) (fun _ i _=>xs.length - (intOf i).toNat)
 case atStart=>exact⟨0,m,xg,Nat.zero_le _,rfl,rfl,by simp,wV.out,wX.out,lh.zero,qP _ _⟩
 case round=>
  obtain⟨k,q,cs,az,rfl,rfl,aZ,gU,eZ,ai,cw⟩:=hrel
  have au:0 < q:=by omega
  have ao:q≤200000000:=by omega
  have cV:=J aZ;have fb:=J eZ;have cB:=J ai;have hO:=J cw;clear aZ eZ ai cw
  by_cases bl:k < xs.length
  ·have ay:(fE m 3 xs.length)[k]? =some q:=by rw [zv bl,cV.out]
   have cb:=J ay;clear ay
   obtain⟨v0,c0⟩:=gU.some_ (k * 3) (by have dQ:=fb.out;omega)
   have z0:=gU.frozen (k * 3)
   obtain⟨v1,c1⟩:=gU.some_ (k * 3 + 1) (by have dQ:=fb.out;omega)
   have bw:=gU.frozen (k * 3 + 1)
   obtain⟨v2,c2⟩:=gU.some_ (k * 3 + 2) (by have dQ:=fb.out;omega)
   have z2:=gU.frozen (k * 3 + 2)
   go_wp2
   go_roundw
   case rel=>
    have jM:Go.G9.gQ cs (k * 3) [.int .i64 (q),.int .i64 (q + 1),.int .i64 (q + 1 + 1)]= Go.G9.gQ cs (k * 3) (tK q):=by first | exact Go.G9.HG cs _ _ _ | rfl
    refine⟨k + 1,_,Go.G9.gQ cs (k * 3) [.int .i64 (q),.int .i64 (q + 1),.int .i64 (q + 1 + 1)],by omega,by go_num,rfl,by have:=cV.out;omega,?_,?_,?_,(lp (lp (lp hO.out _) _) _)⟩
    ·exact aq.gQ (k * 3) [.int .i64 (q),.int .i64 (q + 1),.int .i64 (q + 1 + 1)] gU
    ·rw [jM,pV,fb.out]
    ·rw [jM];have h:=cB.out.put cb.out (by rw [fb.out,anR];omega);exact h
   case measure=>simp [intOf];omega
  ·exact Re
theorem QU {p:Prop} (h:p:=by
 go_wp2
 go_loopw [1,5] (fun pN i wr=>∃(k:Nat) (q:Int),k≤n∧i= .int .i64 k∧pN= .int .i64 q∧q= m + 3 * k∧Below w w wr) (fun _ i _=>n - (intOf i).toNat)
 case atStart=>exact⟨0,m,Nat.zero_le _,rfl,rfl,by simp,Below.refl _ _⟩
 case round=>
  obtain⟨k,q,az,rfl,rfl,aZ,aB⟩:=hrel
  have au:0 < q:=by omega
  have ao:q≤200000000:=by omega
  have cV:=J aZ;clear aZ
  by_cases bl:k < n
  ·obtain⟨b,off,x,rfl,dU,ay,bk⟩:=bL.at_ aB (k:=k) (by rw [tF];exact bl)
   have GN:x= q:=by rw [zv bl] at ay;rw [cV.out];exact (Option.some.inj ay).symm
   subst GN
   have f0:=bk 0 _ rfl;have f1:=bk 1 _ rfl;have f2:=bk 2 _ rfl
   simp only [Nat.add_zero] at f0
   clear ay bk;have g0:=f0 (ax.self _);have g1:=f1 (ax.self _);have g2:=f2 (ax.self _)
   simp only [ax.self] at g0
   simp only [ax.self] at g1
   simp only [ax.self] at g2
   go_wp2
   go_roundw
   case rel=>exact⟨k + 1,_,by omega,by go_num,rfl,by have:=cV.out;omega,aB⟩
   case measure=>simp [intOf];omega
  ·obtain rfl:k= n:=by omega
   go_wp2
   go_ret
   exact⟨vp (by have:=cV.out;omega),aB⟩):p:=h
theorem aiW (A:Option Addr) (c n:Nat) (aY:n≤1048576) (m:Int) (h0:0 < m) (h1:m≤100000000) (w:World) (bL:aH 3 tK w A (fE m 3 n)):
 Calls Tryz.prog 229 #[.slice A n c,m] w fun e ag=>e= .returned (.int .i64 (m + 3 * n))∧Below w w ag:=by
 go_in
 exact QU
def wz (q:Int):List Value:=[.int .i64 (q),.int .i64 (q + 1),.bool ((q + 1 + 1) % 3 == 0)]
theorem anP (q:Int):(wz q).length= 3:=rfl
theorem acb {p:Prop} (h:p:=by
 exact aq.gQ (k * 3) [.int .i64 (q),.int .i64 (q + 1),.bool ((q + 1 + 1) % 3 == 0)] gU):p:=h
theorem anh (B:Nat) (A:Option Addr) (c:Nat) (xs:List aL) (aY:xs.length≤1048576) (m:Int) (h0:0 < m) (h1:m≤100000000) (w:World) (bP:aV B 115 3 aL.cells w (.slice A xs c) xs):
 Calls Tryz.prog 146 #[.slice A xs c,m] w fun e ag=>e= .returned (.int .i64 (m + 3 * xs.length))∧aV B 115 3 wz ag (.slice A xs c) (fE m 3 xs.length)∧w.grownBy ag (Value.slice A xs c).ownBlock:=by
 by_cases cc:xs.length= 0
 ·have lK:xs= []:=List.length_eq_zero_iff.1 cc
  subst lK
  clear cc;have fB:aV B 115 3 wz w (.slice A 0 c) (fE m 3 0):=bP.empty
  exact HY
 obtain⟨g,cap,xg,xJ,bm,hK,nj,kq,iy⟩:=bP.block (by omega)
 injection xJ with xK _ xL
 subst xK xL
 have wX:=J iy;have wV:=J hK;clear iy hK bP cc
 go_in
 go_wp2
 go_loopw [1,5] (fun pN i wr=>∃(k:Nat) (q:Int) (cs:Array Value),k≤xs.length∧i= .int .i64 k∧pN= .int .i64 q∧q= m + 3 * k∧aq wr g 115 cs∧cs.size= c * 3∧lh 3 wz (fE m 3 xs.length) k cs∧w.grownBy wr (some g)) (fun _ i _=>xs.length - (intOf i).toNat)
 case atStart=>exact⟨0,m,xg,Nat.zero_le _,rfl,rfl,by simp,wV.out,wX.out,lh.zero,qP _ _⟩
 case round=>
  obtain⟨k,q,cs,az,rfl,rfl,aZ,gU,eZ,ai,cw⟩:=hrel
  have au:0 < q:=by omega
  have ao:q≤200000000:=by omega
  have cV:=J aZ;have fb:=J eZ;have cB:=J ai;have hO:=J cw;clear aZ eZ ai cw
  by_cases bl:k < xs.length
  ·have ay:(fE m 3 xs.length)[k]? =some q:=by rw [zv bl,cV.out]
   have cb:=J ay;clear ay
   obtain⟨v0,c0⟩:=gU.some_ (k * 3) (by have dQ:=fb.out;omega)
   have z0:=gU.frozen (k * 3)
   obtain⟨v1,c1⟩:=gU.some_ (k * 3 + 1) (by have dQ:=fb.out;omega)
   have bw:=gU.frozen (k * 3 + 1)
   obtain⟨v2,c2⟩:=gU.some_ (k * 3 + 2) (by have dQ:=fb.out;omega)
   have z2:=gU.frozen (k * 3 + 2)
   go_wp2
   go_roundw
   case rel=>
    have jM:Go.G9.gQ cs (k * 3) [.int .i64 (q),.int .i64 (q + 1),.bool ((q + 1 + 1) % 3 == 0)]= Go.G9.gQ cs (k * 3) (wz q):=by first | exact Go.G9.HG cs _ _ _ | rfl
    refine⟨k + 1,_,Go.G9.gQ cs (k * 3) [.int .i64 (q),.int .i64 (q + 1),.bool ((q + 1 + 1) % 3 == 0)],by omega,by go_num,rfl,by have:=cV.out;omega,?_,?_,?_,(lp (lp (lp hO.out _) _) _)⟩
    ·exact acb
    ·rw [jM,pV,fb.out]
    ·rw [jM];have h:=cB.out.put cb.out (by rw [fb.out,anP];omega);exact h
   case measure=>simp [intOf];omega
  ·exact Re
theorem aiU (A:Option Addr) (c n:Nat) (aY:n≤1048576) (m:Int) (h0:0 < m) (h1:m≤100000000) (w:World) (bL:aH 3 wz w A (fE m 3 n)):
 Calls Tryz.prog 150 #[.slice A n c,m] w fun e ag=>e= .returned (.int .i64 (m + 3 * n))∧Below w w ag:=by
 go_in
 exact QU
def wy (q:Int):List Value:=[.int .i64 (q),.int .i64 (q + 1),.bool ((q + 1 + 1) % 3 == 0)]
theorem anO (q:Int):(wy q).length= 3:=rfl
theorem ang (B:Nat) (A:Option Addr) (c:Nat) (xs:List Out) (aY:xs.length≤1048576) (m:Int) (h0:0 < m) (h1:m≤100000000) (w:World) (bP:aV B 163 3 Out.cells w (.slice A xs c) xs):
 Calls Tryz.prog 148 #[.slice A xs c,m] w fun e ag=>e= .returned (.int .i64 (m + 3 * xs.length))∧aV B 163 3 wy ag (.slice A xs c) (fE m 3 xs.length)∧w.grownBy ag (Value.slice A xs c).ownBlock:=by
 by_cases cc:xs.length= 0
 ·have lK:xs= []:=List.length_eq_zero_iff.1 cc
  subst lK
  clear cc;have fB:aV B 163 3 wy w (.slice A 0 c) (fE m 3 0):=bP.empty
  exact HY
 obtain⟨g,cap,xg,xJ,bm,hK,nj,kq,iy⟩:=bP.block (by omega)
 injection xJ with xK _ xL
 subst xK xL
 have wX:=J iy;have wV:=J hK;clear iy hK bP cc
 go_in
 go_wp2
 go_loopw [1,5] (fun pN i wr=>∃(k:Nat) (q:Int) (cs:Array Value),k≤xs.length∧i= .int .i64 k∧pN= .int .i64 q∧q= m + 3 * k∧aq wr g 163 cs∧cs.size= c * 3∧lh 3 wy (fE m 3 xs.length) k cs∧w.grownBy wr (some g)) (fun _ i _=>xs.length - (intOf i).toNat)
 case atStart=>exact⟨0,m,xg,Nat.zero_le _,rfl,rfl,by simp,wV.out,wX.out,lh.zero,qP _ _⟩
 case round=>
  obtain⟨k,q,cs,az,rfl,rfl,aZ,gU,eZ,ai,cw⟩:=hrel
  have au:0 < q:=by omega
  have ao:q≤200000000:=by omega
  have cV:=J aZ;have fb:=J eZ;have cB:=J ai;have hO:=J cw;clear aZ eZ ai cw
  by_cases bl:k < xs.length
  ·have ay:(fE m 3 xs.length)[k]? =some q:=by rw [zv bl,cV.out]
   have cb:=J ay;clear ay
   obtain⟨v0,c0⟩:=gU.some_ (k * 3) (by have dQ:=fb.out;omega)
   have z0:=gU.frozen (k * 3)
   obtain⟨v1,c1⟩:=gU.some_ (k * 3 + 1) (by have dQ:=fb.out;omega)
   have bw:=gU.frozen (k * 3 + 1)
   obtain⟨v2,c2⟩:=gU.some_ (k * 3 + 2) (by have dQ:=fb.out;omega)
   have z2:=gU.frozen (k * 3 + 2)
   go_wp2
   go_roundw
   case rel=>
    have jM:Go.G9.gQ cs (k * 3) [.int .i64 (q),.int .i64 (q + 1),.bool ((q + 1 + 1) % 3 == 0)]= Go.G9.gQ cs (k * 3) (wy q):=by first | exact Go.G9.HG cs _ _ _ | rfl
    refine⟨k + 1,_,Go.G9.gQ cs (k * 3) [.int .i64 (q),.int .i64 (q + 1),.bool ((q + 1 + 1) % 3 == 0)],by omega,by go_num,rfl,by have:=cV.out;omega,?_,?_,?_,(lp (lp (lp hO.out _) _) _)⟩
    ·exact acb
    ·rw [jM,pV,fb.out]
    ·rw [jM];have h:=cB.out.put cb.out (by rw [fb.out,anO];omega);exact h
   case measure=>simp [intOf];omega
  ·exact Re
theorem aiT (A:Option Addr) (c n:Nat) (aY:n≤1048576) (m:Int) (h0:0 < m) (h1:m≤100000000) (w:World) (bL:aH 3 wy w A (fE m 3 n)):
 Calls Tryz.prog 152 #[.slice A n c,m] w fun e ag=>e= .returned (.int .i64 (m + 3 * n))∧Below w w ag:=by
 go_in
 exact QU
open Go.RowKit Go.G9
def wA (q:Int):List Value:=[.int .i64 (q),.string (Bb (q + 1).toNat),.int .i64 (q + 1 + 1),.bool ((q + 1 + 1 + 1) % 3 == 0),.bool ((q + 1 + 1 + 1 + 1) % 3 == 0),.bool ((q + 1 + 1 + 1 + 1 + 1) % 3 == 0),.int .i64 (q + 1 + 1 + 1 + 1 + 1 + 1)]
theorem anQ (q:Int):(wA q).length= 7:=rfl
theorem ani (B:Nat) (A:Option Addr) (c:Nat) (xs:List aJ) (aY:xs.length≤1048576) (m:Int) (h0:0 < m) (h1:m≤100000000) (w:World) (bP:aV B 89 7 aJ.cells w (.slice A xs c) xs):
 Calls Tryz.prog 145 #[.slice A xs c,m] w fun e ag=>e= .returned (.int .i64 (m + 7 * xs.length))∧aV B 89 7 wA ag (.slice A xs c) (fE m 7 xs.length)∧w.grownBy ag (Value.slice A xs c).ownBlock:=by
 by_cases cc:xs.length= 0
 ·have lK:xs= []:=List.length_eq_zero_iff.1 cc
  subst lK
  clear cc;have fB:aV B 89 7 wA w (.slice A 0 c) (fE m 7 0):=bP.empty
  exact HY
 obtain⟨g,cap,xg,xJ,bm,hK,nj,kq,iy⟩:=bP.block (by omega)
 injection xJ with xK _ xL
 subst xK xL
 have wX:=J iy;have wV:=J hK;clear iy hK bP cc
 go_in
 go_wp2
 go_loopw [1,5] (fun pN i wr=>∃(k:Nat) (q:Int) (cs:Array Value),k≤xs.length∧i= .int .i64 k∧pN= .int .i64 q∧q= m + 7 * k∧aq wr g 89 cs∧cs.size= c * 7∧lh 7 wA (fE m 7 xs.length) k cs∧w.grownBy wr (some g)) (fun _ i _=>xs.length - (intOf i).toNat)
 case atStart=>exact⟨0,m,xg,Nat.zero_le _,rfl,rfl,by simp,wV.out,wX.out,lh.zero,qP _ _⟩
 case round=>
  obtain⟨k,q,cs,az,rfl,rfl,aZ,gU,eZ,ai,cw⟩:=hrel
  have au:0 < q:=by omega
  have ao:q≤200000000:=by omega
  have cV:=J aZ;have fb:=J eZ;have cB:=J ai;have hO:=J cw;clear aZ eZ ai cw
  by_cases bl:k < xs.length
  ·have dU:=gU.lt
   have ay:(fE m 7 xs.length)[k]? =some q:=by rw [zv bl,cV.out]
   have cb:=J ay;clear ay
   obtain⟨v0,c0⟩:=gU.some_ (k * 7) (by have dQ:=fb.out;omega)
   have z0:=gU.frozen (k * 7)
   obtain⟨v1,c1⟩:=gU.some_ (k * 7 + 1) (by have dQ:=fb.out;omega)
   have bw:=gU.frozen (k * 7 + 1)
   obtain⟨v2,c2⟩:=gU.some_ (k * 7 + 2) (by have dQ:=fb.out;omega)
   have z2:=gU.frozen (k * 7 + 2)
   obtain⟨v3,c3⟩:=gU.some_ (k * 7 + 3) (by have dQ:=fb.out;omega)
   have z3:=gU.frozen (k * 7 + 3)
   obtain⟨v4,c4⟩:=gU.some_ (k * 7 + 4) (by have dQ:=fb.out;omega)
   have z4:=gU.frozen (k * 7 + 4)
   obtain⟨v5,c5⟩:=gU.some_ (k * 7 + 5) (by have dQ:=fb.out;omega)
   have z5:=gU.frozen (k * 7 + 5)
   obtain⟨v6,rB⟩:=gU.some_ (k * 7 + 6) (by have dQ:=fb.out;omega)
   have cy:=gU.frozen (k * 7 + 6)
   go_wp2_with fail
   refine (Xw (q + 1) (by omega) (by omega) _).mono ?_
   rintro e bd ⟨rfl,bz⟩
   have rD:aq bd g 89 (Go.G9.gQ cs (k * 7) [.int .i64 (q)]):=(aq.gQ (k * 7) [.int .i64 (q)] gU).below bz (by simpa using dU);clear c0 z0 c1 bw c2 z2 c3 z3 c4 z4 c5 z5 rB cy;have aiI:g < bd.heap.size:=rD.lt;replace dU:=aiI
   obtain⟨v1,c1⟩:=rD.some_ (k * 7 + 1) (by have dQ:=fb.out;(try simp only [pV]);omega)
   have bw:=rD.frozen (k * 7 + 1)
   obtain⟨v2,c2⟩:=rD.some_ (k * 7 + 2) (by have dQ:=fb.out;(try simp only [pV]);omega)
   have z2:=rD.frozen (k * 7 + 2)
   obtain⟨v3,c3⟩:=rD.some_ (k * 7 + 3) (by have dQ:=fb.out;(try simp only [pV]);omega)
   have z3:=rD.frozen (k * 7 + 3)
   obtain⟨v4,c4⟩:=rD.some_ (k * 7 + 4) (by have dQ:=fb.out;(try simp only [pV]);omega)
   have z4:=rD.frozen (k * 7 + 4)
   obtain⟨v5,c5⟩:=rD.some_ (k * 7 + 5) (by have dQ:=fb.out;(try simp only [pV]);omega)
   have z5:=rD.frozen (k * 7 + 5)
   obtain⟨v6,rB⟩:=rD.some_ (k * 7 + 6) (by have dQ:=fb.out;(try simp only [pV]);omega)
   have cy:=rD.frozen (k * 7 + 6)
   go_wp2
   go_roundw
   case rel=>
    have jM:Go.G9.gQ (Go.G9.gQ cs (k * 7) [.int .i64 (q)]) (k * 7 + 1) [.string (Bb (q + 1).toNat),.int .i64 (q + 1 + 1),.bool ((q + 1 + 1 + 1) % 3 == 0),.bool ((q + 1 + 1 + 1 + 1) % 3 == 0),.bool ((q + 1 + 1 + 1 + 1 + 1) % 3 == 0),.int .i64 (q + 1 + 1 + 1 + 1 + 1 + 1)]= Go.G9.gQ cs (k * 7) (wA q):=by first | exact Go.G9.HG cs _ _ _ | rfl
    refine⟨k + 1,_,Go.G9.gQ (Go.G9.gQ cs (k * 7) [.int .i64 (q)]) (k * 7 + 1) [.string (Bb (q + 1).toNat),.int .i64 (q + 1 + 1),.bool ((q + 1 + 1 + 1) % 3 == 0),.bool ((q + 1 + 1 + 1 + 1) % 3 == 0),.bool ((q + 1 + 1 + 1 + 1 + 1) % 3 == 0),.int .i64 (q + 1 + 1 + 1 + 1 + 1 + 1)],by omega,by go_num,rfl,by have:=cV.out;omega,?_,?_,?_,(lp (lp (lp (lp (lp (lp (qg (lp hO.out _) (lU bz _)) _) _) _) _) _) _)⟩
    ·exact aq.gQ (k * 7 + 1) [.string (Bb (q + 1).toNat),.int .i64 (q + 1 + 1),.bool ((q + 1 + 1 + 1) % 3 == 0),.bool ((q + 1 + 1 + 1 + 1) % 3 == 0),.bool ((q + 1 + 1 + 1 + 1 + 1) % 3 == 0),.int .i64 (q + 1 + 1 + 1 + 1 + 1 + 1)] rD
    ·rw [jM,pV,fb.out]
    ·rw [jM];have h:=cB.out.put cb.out (by rw [fb.out,anQ];omega);exact h
   case measure=>simp [intOf];omega
  ·obtain rfl:k= xs.length:=by omega
   go_wp2
   go_ret
   refine⟨vp (by have:=cV.out;omega),?_,hO.out⟩
   have h:=aV.Dx (B:=B) (xs:=fE m 7 xs.length) gU bm (by rw [tF];exact nj) kq fb.out (fun i x ay=>cB.out i x (by have:=(List.getElem?_eq_some_iff.1 ay).1;rwa [tF] at this) ay)
   rw [tF] at h
   exact h
open Go.RowKit Go.G9
theorem aiV (A:Option Addr) (c n:Nat) (aY:n≤1048576) (m:Int) (h0:0 < m) (h1:m≤100000000) (w:World) (bL:aH 7 wA w A (fE m 7 n)):
 Calls Tryz.prog 149 #[.slice A n c,m] w fun e ag=>e= .returned (.int .i64 (m + 7 * n))∧Below w w ag:=by
 go_in
 go_wp2
 go_loopw [1,5] (fun pN i wr=>∃(k:Nat) (q:Int),k≤n∧i= .int .i64 k∧pN= .int .i64 q∧q= m + 7 * k∧Below w w wr) (fun _ i _=>n - (intOf i).toNat)
 case atStart=>exact⟨0,m,Nat.zero_le _,rfl,rfl,by simp,Below.refl _ _⟩
 case round=>
  obtain⟨k,q,az,rfl,rfl,aZ,aB⟩:=hrel
  have au:0 < q:=by omega
  have ao:q≤200000000:=by omega
  have cV:=J aZ;clear aZ
  by_cases bl:k < n
  ·obtain⟨b,off,x,rfl,dU,ay,bk⟩:=bL.at_ aB (k:=k) (by rw [tF];exact bl)
   have GN:x= q:=by rw [zv bl] at ay;rw [cV.out];exact (Option.some.inj ay).symm
   subst GN
   have f0:=bk 0 _ rfl;have f1:=bk 1 _ rfl;have f2:=bk 2 _ rfl;have f3:=bk 3 _ rfl;have f4:=bk 4 _ rfl;have f5:=bk 5 _ rfl;have f6:=bk 6 _ rfl
   simp only [Nat.add_zero] at f0
   clear ay bk
   have atK:(!(((x + 1 + 1 + 1) % 3 == 0) == ((x + 1 + 1 + 1) % 3 == 0)))= false:=by simp
   have Ol:(!(((x + 1 + 1 + 1 + 1) % 3 == 0) == ((x + 1 + 1 + 1 + 1) % 3 == 0)))= false:=by simp
   have VU:(!(((x + 1 + 1 + 1 + 1 + 1) % 3 == 0) == ((x + 1 + 1 + 1 + 1 + 1) % 3 == 0)))= false:=by simp
   have g0:=f0 (ax.self _);have g1:=f1 (ax.self _);have g2:=f2 (ax.self _);have g3:=f3 (ax.self _);have g4:=f4 (ax.self _);have g5:=f5 (ax.self _);have g6:=f6 (ax.self _)
   simp only [ax.self] at g0
   simp only [ax.self] at g1
   simp only [ax.self] at g2
   simp only [ax.self] at g3
   simp only [ax.self] at g4
   simp only [ax.self] at g5
   simp only [ax.self] at g6
   go_wp2
   refine ew (by kernel_rfl) (by kernel_rfl) ?_
   repeat (go_big_quiet_step (((go_at_call 85;exact ax.call _ (by first | exact Nat.le_refl _ | omega) (Xw (x + 1) (by omega) (by omega) _)))))
   refine wpQuiet_nil ?_
   intro hd
   clear g1 g2 g3 g4 g5 g6;replace aB:=ah aB hd.below
   replace f1:=fun K=>f1 (ax.drop K hd.below)
   have g1:=f1 (ax.self _)
   simp only [ax.self,ax.drop] at f1 g1
   replace f2:=fun K=>f2 (ax.drop K hd.below)
   have g2:=f2 (ax.self _)
   simp only [ax.self,ax.drop] at f2 g2
   replace f3:=fun K=>f3 (ax.drop K hd.below)
   have g3:=f3 (ax.self _)
   simp only [ax.self,ax.drop] at f3 g3
   replace f4:=fun K=>f4 (ax.drop K hd.below)
   have g4:=f4 (ax.self _)
   simp only [ax.self,ax.drop] at f4 g4
   replace f5:=fun K=>f5 (ax.drop K hd.below)
   have g5:=f5 (ax.self _)
   simp only [ax.self,ax.drop] at f5 g5
   replace f6:=fun K=>f6 (ax.drop K hd.below)
   have g6:=f6 (ax.self _)
   simp only [ax.self,ax.drop] at f6 g6
   exact abn
  ·exact abU
open Go.RowKit Go.G9
theorem afo {T:Type} {p:T→Bool} {xs:List T} {k:Nat} (h:hH (fun i=>!jm p xs i) k= true):(xs.take k).any p= false:=by
 cases aE:(xs.take k).any p with
 | false=>rfl
 | true=>
  obtain⟨x,ay,aO⟩:=List.any_eq_true.1 aE
  obtain⟨m,hm⟩:=List.mem_iff_getElem?.1 ay
  rw [List.getElem?_take] at hm
  split at hm
  ·rename_i bl
   have:=oZ.1 h m bl
   simp [jm,hm,aO] at this
  ·cases hm
theorem afp {T:Type} {p:T→Bool} {xs:List T} {k m:Nat} {x:T} (hm:m < k) (ay:xs[m]? =some x) (aO:p x= true):(xs.take k).any p= true:=
 List.any_eq_true.2 ⟨x,List.mem_iff_getElem?.2 ⟨m,by rw [List.getElem?_take,if_pos hm];exact ay⟩,aO⟩
theorem PU {T:Type} {sz:Nat} {f:T→List Value} {w:World} {A:Option Addr} {xs:List T} (h:aH sz f w A xs) (k:Nat):aH sz f w A (xs.take k):=by
 intro aY
 have tz:0 < xs.length:=by simp at aY;omega
 obtain⟨b,off,h1,h2,h3⟩:=h tz
 exact⟨b,off,h1,h2,fun i x ay j u hu=>h3 i x (by rw [List.getElem?_take] at ay;split at ay;exact ay;cases ay) j u hu⟩
theorem Bs {xs:List aJ} {j:Nat} {x y:aJ} (ay:xs[j + 1]? =some x) (hy:xs[j]? =some y):sa xs (j + 1)= (rZ x && (decide (y.id < x.id) && !(xs.take (j + 1)).any (fun z=>z.name.toList == x.name.toList))):=by
 simp only [sa,ay,hy]
theorem aoS (nm:ByteArray) (g:Nat) (x:aJ) (W:World) (cw:W.cell? ⟨g,1,none⟩ =some (.string nm)) (aS:g < W.heap.size):
 Calls Tryz.prog 214 (#[.agg #[x.id,x.name,x.gG,x.second,x.lV,x.mH,x.hA]] ++ #[.pointer (some ⟨g,0,none⟩)]) W fun e ag=>e= .returned (.bool (x.name.toList == nm.toList))∧Below W W ag:=by
 cases aB:x.name.toList == nm.toList
 all_goals
  go_in
  go_wp2
  go_ret
  exact⟨rfl,bZ _ _⟩
theorem abF {p:Prop} (h:p:=by
 obtain rfl:k= xs.length:=by omega
 go_wp2
 go_ret
 exact⟨ek (by rw [kx,cH.out];simp;omega),aB⟩):p:=h
theorem GZ (A:Option Addr) (c:Nat) (xs:List aJ) (aY:xs.length≤1048576) (aE:xs.length≤c) (v:Bool) (aw:kx xs= v) (w:World) (bL:aH 7 aJ.cells w A xs):
 Calls Tryz.prog 133 #[.slice A xs c] w fun e ag=>e= .returned v∧Below w w ag:=by
 subst aw
 go_in
 go_wp2
 go_loopw [7] (fun i wr=>∃k:Nat,k≤xs.length∧i= .int .i64 k∧hH (sa xs) k= true∧Below w w wr) (fun i _=>xs.length - (intOf i).toNat)
 case atStart=>exact⟨0,Nat.zero_le _,rfl,rfl,Below.refl _ _⟩
 case round=>
  obtain⟨k,az,rfl,aS,aB⟩:=hrel
  have cH:=J aS;clear aS
  by_cases bl:k < xs.length
  ·have AA:(k:Int)≤(c:Int):=by omega
   have Nv:=bL.below aB
   obtain⟨b,off,x,rfl,dU,ay,bk⟩:=bL.at_ aB bl
   obtain⟨id,nm,rk,ae,fw,am,ef,aX⟩:=x
   have nE:=fun j=>boxed wr #[id,nm,rk,ae,fw,am,ef] 89 j
   have n0:=nE 0 _ rfl;have n1:=nE 1 _ rfl;have n2:=nE 2 _ rfl;have n3:=nE 3 _ rfl;have n4:=nE 4 _ rfl;have n5:=nE 5 _ rfl;have n6:=nE 6 _ rfl;clear nE
   obtain⟨d,bO⟩ :∃d,(xs.take k).any (fun z=>z.name.toList == nm.toList)= d:=⟨_,rfl⟩
   have zW:Hid (∀W Mv,Below (wr.alloc (.cells #[id,nm,rk,ae,fw,am,ef] 89)).heap.size (wr.alloc (.cells #[id,nm,rk,ae,fw,am,ef] 89)) W→
     Calls Tryz.prog 213 #[.slice (some ⟨b,off,none⟩) k Mv,.func (.func 214) #[] #[.pointer (some ⟨wr.heap.size,0,none⟩)]] W fun e ag=>e= .returned (.bool d)∧Below W W ag):=J fun W Mv bI=>by
    have qX:(xs.take k).length= k:=by rw [List.length_take];omega
    have bm:=aq.below (aq.new wr 89 #[id,nm,rk,ae,fw,am,ef]) bI (by simp);have h:=aga (some ⟨b,off,none⟩) Mv (xs.take k) (by omega) 214 #[.pointer (some ⟨wr.heap.size,0,none⟩)] (Bt Tryz.func214 (by kernel_rfl) (by kernel_rfl)) (fun z=>z.name.toList == nm.toList) d bO W ((PU Nv k).below (ah (bZ _ _) bI)) (fun x _ V ic=>aoS nm wr.heap.size x V ((bm.to ic).cell 1) (bm.to ic).lt)
    rw [qX] at h;exact h
   have fG:=J bO;clear bO Nv
   cases k with
   | zero=>
    have aiP:d= false:=by rw [← fG.out];rfl
    subst aiP
    have f0:=bk 0 _ rfl;have f1:=bk 1 _ rfl;have f2:=bk 2 _ rfl;have f3:=bk 3 _ rfl;have f4:=bk 4 _ rfl;have f5:=bk 5 _ rfl;have f6:=bk 6 _ rfl
    simp only [Nat.zero_mul,Nat.add_zero] at f0
    simp only [Nat.zero_mul] at f1
    simp only [Nat.zero_mul] at f2
    simp only [Nat.zero_mul] at f3
    simp only [Nat.zero_mul] at f4
    simp only [Nat.zero_mul] at f5
    simp only [Nat.zero_mul] at f6
    have g0:=f0 (ax.self _);have g1:=f1 (ax.self _);have g2:=f2 (ax.self _);have g3:=f3 (ax.self _);have g4:=f4 (ax.self _);have g5:=f5 (ax.self _);have g6:=f6 (ax.self _)
    simp only [ax.self] at g0
    simp only [ax.self] at g1
    simp only [ax.self] at g2
    simp only [ax.self] at g3
    simp only [ax.self] at g4
    simp only [ax.self] at g5
    simp only [ax.self] at g6
    have cb:=J ay;clear ay bk
    cases aw:rZ ⟨id,nm,rk,ae,fw,am,ef,aX⟩
    all_goals
     have bC:=J aw
     go_wp2
     refine ew (by kernel_rfl) (by kernel_rfl) ?_
     repeat (go_big_quiet_step ((first | (go_at_call 212;exact ax.call _ (Nat.le_refl _) (JN ⟨id,nm,rk,ae,fw,am,ef,aX⟩ _ bC.out _)) | (go_at_call 213;exact ax.call _ (Nat.le_refl _) (zW.out _ _ (ax.below _))))))
     refine wpQuiet_nil ?_
     intro K
     go_wp2
    ·go_ret
     exact⟨ek (by rw [kx,uy bl (by simp [sa,cb.out,aw])];rfl),ah aB (ah (bZ _ _) K.below)⟩
    ·go_roundw
     case rel=>exact⟨1,by omega,by go_num,nz cH.out (by simp [sa,cb.out,aw]),ah aB (ah (bZ _ _) K.below)⟩
     case measure=>simp [intOf];omega
   | succ j=>
    obtain⟨cL,rT,y,gC,_,hy,db⟩:=bL.at_ aB (k:=j) (by omega)
    simp only [Option.some.injEq,Addr.mk.injEq,and_true] at gC
    obtain⟨rfl,rfl⟩:=gC
    obtain⟨tX,DU,DX,ys,zJ,oE,DV,DW⟩:=y
    have f0:=bk 0 _ rfl;have f1:=bk 1 _ rfl;have f2:=bk 2 _ rfl;have f3:=bk 3 _ rfl;have f4:=bk 4 _ rfl;have f5:=bk 5 _ rfl;have f6:=bk 6 _ rfl
    simp only [Nat.add_zero] at f0
    have g0:=f0 (ax.self _);have g1:=f1 (ax.self _);have g2:=f2 (ax.self _);have g3:=f3 (ax.self _);have g4:=f4 (ax.self _);have g5:=f5 (ax.self _);have g6:=f6 (ax.self _)
    simp only [ax.self] at g0
    simp only [ax.self] at g1
    simp only [ax.self] at g2
    simp only [ax.self] at g3
    simp only [ax.self] at g4
    simp only [ax.self] at g5
    simp only [ax.self] at g6
    have kQ:=db 0 _ rfl
    simp only [Nat.add_zero] at kQ
    have arS:=fun K:ax (wr.alloc _).heap.size (wr.alloc (.cells #[id,nm,rk,ae,fw,am,ef] 89))=>kQ (K.drop (bZ _ _))
    simp only [ax.drop] at arS
    have cb:=J ay;clear ay bk;have iv:=J hy;clear hy db kQ
    cases aw:rZ ⟨id,nm,rk,ae,fw,am,ef,aX⟩
    ·have bC:=J aw
     go_wp2
     refine ew (by kernel_rfl) (by kernel_rfl) ?_
     repeat (go_big_quiet_step ((first | (go_at_call 212;exact ax.call _ (Nat.le_refl _) (JN ⟨id,nm,rk,ae,fw,am,ef,aX⟩ _ bC.out _)) | (go_at_call 213;exact ax.call _ (Nat.le_refl _) (zW.out _ _ (ax.below _))))))
     refine wpQuiet_nil ?_
     intro K
     go_wp2
     go_ret
     exact⟨ek (by rw [kx,uy bl (by simp [sa,cb.out,iv.out,aw])];rfl),ah aB (ah (bZ _ _) K.below)⟩
    ·have bC:=J aw
     by_cases hid:tX < id
     ·have hle:decide (id≤tX)= false:=decide_eq_false (by omega)
      cases d
      all_goals
       go_wp2
       refine ew (by kernel_rfl) (by kernel_rfl) ?_
       repeat (go_big_quiet_step ((first | (go_at_call 212;exact ax.call _ (Nat.le_refl _) (JN ⟨id,nm,rk,ae,fw,am,ef,aX⟩ _ bC.out _)) | (go_at_call 213;exact ax.call _ (Nat.le_refl _) (zW.out _ _ (ax.below _))))))
       refine wpQuiet_nil ?_
       intro K
       go_wp2
      ·go_roundw
       case rel=>exact⟨j + 1 + 1,by omega,by go_num,nz cH.out (by rw [Bs cb.out iv.out,aw,fG.out,decide_eq_true (show (aJ.id ⟨tX,DU,DX,ys,zJ,oE,DV,DW⟩) < (aJ.id ⟨id,nm,rk,ae,fw,am,ef,aX⟩) from hid)];rfl),ah aB (ah (bZ _ _) K.below)⟩
       case measure=>simp [intOf];omega
      ·go_ret
       exact⟨ek (by rw [kx,uy bl (by rw [Bs cb.out iv.out,aw,fG.out,decide_eq_true (show (aJ.id ⟨tX,DU,DX,ys,zJ,oE,DV,DW⟩) < (aJ.id ⟨id,nm,rk,ae,fw,am,ef,aX⟩) from hid)];rfl)];rfl),ah aB (ah (bZ _ _) K.below)⟩
     ·go_wp2
      refine ew (by kernel_rfl) (by kernel_rfl) ?_
      repeat (go_big_quiet_step ((first | (go_at_call 212;exact ax.call _ (Nat.le_refl _) (JN ⟨id,nm,rk,ae,fw,am,ef,aX⟩ _ bC.out _)) | (go_at_call 213;exact ax.call _ (Nat.le_refl _) (zW.out _ _ (ax.below _))))))
      refine wpQuiet_nil ?_
      intro K
      go_wp2
      go_ret
      exact⟨ek (by rw [kx,uy bl (by rw [Bs cb.out iv.out,aw,decide_eq_false (show¬(aJ.id ⟨tX,DU,DX,ys,zJ,oE,DV,DW⟩) < (aJ.id ⟨id,nm,rk,ae,fw,am,ef,aX⟩) from by show¬(tX < id);omega)];rfl)];rfl),ah aB (ah (bZ _ _) K.below)⟩
  ·exact abF
open Go.RowKit Go.G9
theorem JL {T:Type} (p:T→Bool):∀xs:List T,(xs.findIdx? p= none∧xs.find? p= none)∨∃(k:Nat) (x:T),xs.findIdx? p= some k∧xs[k]? =some x∧xs.find? p= some x
 | []=> .inl ⟨rfl,rfl⟩
 | y ::ys=>by
  cases aO:p y
  ·rcases JL p ys with ⟨h1,h2⟩ | ⟨k,x,h1,h2,h3⟩
   ·left;simp [List.findIdx?_cons,aO,h1,h2]
   ·right;exact⟨k + 1,x,by simp [List.findIdx?_cons,aO,h1],by simpa using h2,by simp [aO,h3]⟩
  ·right;exact⟨0,y,by simp [List.findIdx?_cons,aO],rfl,by simp [aO]⟩
theorem rL {T:Type} {p:T→Bool} {xs:List T} {x:T} (h:xs.find? p= some x):∃k:Nat,oS p xs= k∧xs[k]? =some x:=by
 rcases JL p xs with ⟨h1,h2⟩ | ⟨k,y,h1,h2,h3⟩
 ·rw [h2] at h;cases h
 ·rw [h3] at h;cases h;exact⟨k,by simp [oS,h1],h2⟩
theorem Di {T:Type} {p:T→Bool} {xs:List T} (h:xs.find? p= none):oS p xs= -1:=by
 rcases JL p xs with ⟨h1,h2⟩ | ⟨k,y,h1,h2,h3⟩
 ·simp [oS,h1]
 ·rw [h3] at h;cases h
def hD (rs:List aJ) (id:Int):Option aJ:=rs.find? (fun r=>r.id == id)
def eG (n:Int):Bool:=fc n 1 99
def kt (r:aJ) (q:aL):Bool:=r.second && !q.sec
theorem iT (n:Int) (v:Bool) (aw:eG n= v) (w:World):Calls Tryz.prog 123 #[n] w fun e ag=>e= .returned v∧ag= w:=by
 go_in
 go_wp2_with (go_at_call 79;refine (jj _ _ _ _ aw _).mono ?_;rintro e ag ⟨rfl,rfl⟩)
 go_ret
 exact⟨rfl,rfl⟩
theorem iG (n:Int) (v:Bool) (aw:eG n= v) (w:World):Calls Tryz.prog 162 #[n] w fun e ag=>e= .returned v∧ag= w:=by
 go_in
 go_wp2_with (go_at_call 186;refine (jF _ _ _ _ aw _).mono ?_;rintro e ag ⟨rfl,rfl⟩)
 go_ret
 exact⟨rfl,rfl⟩
theorem rq (A:Option Addr) (c:Nat) (rs:List aJ) (aY:rs.length≤1048576) (q:aL) (r:aJ) (bu:hD rs q.fW= some r) (w:World) (bL:aH 7 aJ.cells w A rs):
 Calls Tryz.prog 69 #[.slice A rs c,.agg #[q.fW,q.mover,q.sec]] w fun e ag=>e= .returned (.agg #[r.id,r.name,r.gG,r.second,r.lV,r.mH,r.hA])∧Below w w ag:=by
 obtain⟨k,hi,az⟩:=rL bu
 have bl:k < rs.length:=(List.getElem?_eq_some_iff.1 az).1;have hP:=J hi;clear hi bu
 go_in
 go_upto_region 1 with fail
 refine fm fun arC au eh ad=>?_
 replace bL:=bL.below au;have I:=au;have fy:=eh.cC;obtain⟨z0,bw,z2,z3,z4,z5,cy⟩:=ad.qK
 go_wp2_with fail
 refine (DI A c rs aY q.fW _ hP.out _ (bL.below av)).mono ?_
 rintro e aM ⟨rfl,aN⟩
 have ao:=be arC aN;replace I:=ah I ao;replace bL:=bL.below ao;clear fy;replace ad:=ad.to ao;clear z0 bw z2 z3 z4 z5 cy;obtain⟨z0,bw,z2,z3,z4,z5,cy⟩:=ad.qK
 obtain⟨b,off,fT,rfl,dU,ay,bk⟩:=bL.at_ (Below.refl _ _) bl
 obtain rfl:r= fT:=Option.some.inj (az.symm.trans ay)
 have f0:=bk 0 _ rfl;have f1:=bk 1 _ rfl;have f2:=bk 2 _ rfl;have f3:=bk 3 _ rfl;have f4:=bk 4 _ rfl;have f5:=bk 5 _ rfl;have f6:=bk 6 _ rfl
 simp only [Nat.add_zero] at f0
 have g0:=f0 (ax.self _);have g1:=f1 (ax.self _);have g2:=f2 (ax.self _);have g3:=f3 (ax.self _);have g4:=f4 (ax.self _);have g5:=f5 (ax.self _);have g6:=f6 (ax.self _)
 simp only [ax.self] at g0
 simp only [ax.self] at g1
 simp only [ax.self] at g2
 simp only [ax.self] at g3
 simp only [ax.self] at g4
 simp only [ax.self] at g5
 simp only [ax.self] at g6
 clear ay bk az;have ep:=ad.FF
 go_wp2
 clear z0 bw z2 z3 z4 z5 cy
 refine HI 0 fun cS aC=>?_
 replace I:=aC.aE I;replace ad:=aC.Fi ad
 obtain⟨z0,bw,z2,z3,z4,z5,cy⟩:=ad.qK
 exact hg ⟨rfl,I⟩ (by simp [results,Tryz.results69,go_sem,z0,bw,z2,z3,z4,z5,cy])
theorem vl (A:Option Addr) (c:Nat) (rs:List aJ) (aY:rs.length≤1048576) (q:aL) (r:aJ) (bu:hD rs q.fW= some r) (v:Bool) (aw:kt r q= v) (w:World) (bL:aH 7 aJ.cells w A rs):
 Calls Tryz.prog 198 #[.slice A rs c,.agg #[q.fW,q.mover,q.sec]] w fun e ag=>e= .returned v∧Below w w ag:=by
 subst aw
 obtain⟨qr,cg,qs⟩:=q
 obtain⟨id,nm,rk,ae,fw,am,ef,aX⟩:=r
 go_in
 go_wp2_with fail
 refine (rq A c rs aY ⟨qr,cg,qs⟩ ⟨id,nm,rk,ae,fw,am,ef,aX⟩ bu _ (bL.below (bZ _ _))).mono ?_
 rintro e bd ⟨rfl,bz⟩
 have eh:=(aq.new w 115 #[qr,cg,qs]).below bz (by simp);have gr:=(eh.cell 2).trans (show _= some (.bool qs) from rfl);clear bu
 have sD:∀W:World,(Instr.field 89 (.agg #[id,nm,rk,ae,fw,am,ef]) 3).run Tryz.prog W= .ok (.bool ae) W:=fun _=>by kernel_rfl
 cases ae <;> cases qs
 all_goals
  go_wp2
  go_ret
  exact⟨by simp [kt],ah (bZ _ _) bz⟩
theorem pK (A:Option Addr) (c:Nat) (rs:List aJ) (aY:rs.length≤1048576) (q:aL) (r:aJ) (bu:hD rs q.fW= some r) (v:Bool) (aw:kt r q= v) (w:World) (bL:aH 7 aJ.cells w A rs):
 Calls Tryz.prog 163 #[.slice A rs c,.agg #[q.fW,q.mover,q.sec]] w fun e ag=>e= .returned v∧Below w w ag:=by
 subst aw
 obtain⟨k,hi,az⟩:=rL bu
 have bl:k < rs.length:=(List.getElem?_eq_some_iff.1 az).1;have hP:=J hi;clear hi bu
 obtain⟨b,off,fT,rfl,dU,ay,bk⟩:=bL.at_ (bZ w (.cells #[q.fW,q.mover,q.sec] 115)) bl
 obtain rfl:r= fT:=Option.some.inj (az.symm.trans ay)
 obtain⟨qr,cg,qs⟩:=q
 obtain⟨id,nm,rk,ae,fw,am,ef,aX⟩:=r
 have g3:=bk 3 _ rfl (ax.self _)
 simp only [ax.self] at g3
 clear bk ay
 cases ae <;> cases qs
 all_goals
  go_in
  go_wp2_with fail
  refine (vj _ c rs aY qr _ hP.out _ (bL.below (bZ _ _))).mono ?_
  rintro e bd ⟨rfl,rfl⟩
  go_wp2
  go_ret
  exact⟨by simp [kt],bZ _ _⟩
theorem Ds (A:Option Addr) (c:Nat) (rs:List aJ) (aY:rs.length≤1048576) (q:aL) (r:aJ) (bu:hD rs q.fW= some r) (w:World) (bL:aH 7 aJ.cells w A rs):
 Calls Tryz.prog 164 #[.slice A rs c,.agg #[q.fW,q.mover,q.sec]] w fun e ag=>e= .returned r.gG∧Below w w ag:=by
 obtain⟨k,hi,az⟩:=rL bu
 have bl:k < rs.length:=(List.getElem?_eq_some_iff.1 az).1;have hP:=J hi;clear hi bu
 obtain⟨b,off,fT,rfl,dU,ay,bk⟩:=bL.at_ (bZ w (.cells #[q.fW,q.mover,q.sec] 115)) bl
 obtain rfl:r= fT:=Option.some.inj (az.symm.trans ay)
 obtain⟨qr,cg,qs⟩:=q
 obtain⟨id,nm,rk,ae,fw,am,ef,aX⟩:=r
 have g2:=bk 2 _ rfl (ax.self _)
 simp only [ax.self] at g2
 clear bk ay
 go_in
 go_wp2_with fail
 refine (vj _ c rs aY qr _ hP.out _ (bL.below (bZ _ _))).mono ?_
 rintro e bd ⟨rfl,rfl⟩
 go_wp2
 go_ret
 exact⟨rfl,bZ _ _⟩
theorem JQ (A:Option Addr) (c:Nat) (xs:List aJ) (aY:xs.length≤1048576) (v:Bool) (aw:kx xs= v) (w:World) (bL:aH 7 aJ.cells w A xs):
 Calls Tryz.prog 135 #[.slice A xs c] w fun e ag=>e= .returned v∧Below w w ag:=by
 subst aw
 go_in
 go_wp2
 go_loopw [3,4] (fun i _ wr=>∃k:Nat,k≤xs.length∧k≤9∧i= .int .i64 k∧hH (sa xs) k= true∧Below w w wr) (fun i _ _=>xs.length - (intOf i).toNat)
 case atStart=>exact⟨0,Nat.zero_le _,by omega,rfl,rfl,Below.refl _ _⟩
 case round=>
  obtain⟨k,az,atF,rfl,aS,aB⟩:=hrel
  have cH:=J aS;clear aS
  by_cases bl:k < xs.length
  ·by_cases h9:k≤8
   ·obtain⟨b,off,x,uF,dU,ay,bk⟩:=bL.at_ aB bl
    have Nv:=bL.below aB
    subst uF
    obtain⟨id,nm,rk,ae,fw,am,ef,aX⟩:=x
    cases k with
    | zero=>
     have f0:=bk 0 _ rfl;have f1:=bk 1 _ rfl;have f2:=bk 2 _ rfl;have f3:=bk 3 _ rfl;have f4:=bk 4 _ rfl;have f5:=bk 5 _ rfl;have f6:=bk 6 _ rfl
     simp only [Nat.zero_mul,Nat.add_zero] at f0
     simp only [Nat.zero_mul] at f1
     simp only [Nat.zero_mul] at f2
     simp only [Nat.zero_mul] at f3
     simp only [Nat.zero_mul] at f4
     simp only [Nat.zero_mul] at f5
     simp only [Nat.zero_mul] at f6
     have g0:=f0 (ax.self _);have g1:=f1 (ax.self _);have g2:=f2 (ax.self _);have g3:=f3 (ax.self _);have g4:=f4 (ax.self _);have g5:=f5 (ax.self _);have g6:=f6 (ax.self _)
     simp only [ax.self] at g0
     simp only [ax.self] at g1
     simp only [ax.self] at g2
     simp only [ax.self] at g3
     simp only [ax.self] at g4
     simp only [ax.self] at g5
     simp only [ax.self] at g6
     have cb:=J ay;clear ay bk
     cases aw:rZ ⟨id,nm,rk,ae,fw,am,ef,aX⟩
     all_goals
      have bC:=J aw
      go_wp2
      refine ew (by kernel_rfl) (by kernel_rfl) ?_
      repeat (go_big_quiet_step ((go_at_call 215;exact ax.call _ (Nat.le_refl _) (JR ⟨id,nm,rk,ae,fw,am,ef,aX⟩ _ bC.out _))))
      refine wpQuiet_nil ?_
      intro K
      go_wp2
     ·go_ret
      exact⟨ek (by rw [kx,uy bl (by simp [sa,cb.out,aw])];rfl),ah aB K.below⟩
     ·go_loopw [4] (fun j HR=>j= .int .i64 0∧Below w w HR) (fun _ _=>0)
      case atStart=>exact⟨rfl,ah aB K.below⟩
      case round=>
       obtain⟨rfl,aN⟩:=hrel
       go_wp2
       go_roundw
       case rel=>exact⟨1,by omega,by omega,by go_num,nz cH.out (by simp [sa,cb.out,aw]),aN⟩
       case measure=>simp [intOf];omega
    | succ j=>
     obtain⟨cL,rT,y,gC,_,hy,db⟩:=bL.at_ aB (k:=j) (by omega)
     simp only [Option.some.injEq,Addr.mk.injEq,and_true] at gC
     obtain⟨rfl,rfl⟩:=gC
     obtain⟨tX,DU,DX,ys,zJ,oE,DV,DW⟩:=y
     have f0:=bk 0 _ rfl;have f1:=bk 1 _ rfl;have f2:=bk 2 _ rfl;have f3:=bk 3 _ rfl;have f4:=bk 4 _ rfl;have f5:=bk 5 _ rfl;have f6:=bk 6 _ rfl
     simp only [Nat.add_zero] at f0
     have g0:=f0 (ax.self _);have g1:=f1 (ax.self _);have g2:=f2 (ax.self _);have g3:=f3 (ax.self _);have g4:=f4 (ax.self _);have g5:=f5 (ax.self _);have g6:=f6 (ax.self _)
     simp only [ax.self] at g0
     simp only [ax.self] at g1
     simp only [ax.self] at g2
     simp only [ax.self] at g3
     simp only [ax.self] at g4
     simp only [ax.self] at g5
     simp only [ax.self] at g6
     have kQ:=db 0 _ rfl
     simp only [Nat.add_zero] at kQ
     have cb:=J ay;clear ay bk;have iv:=J hy;clear hy db
     cases aw:rZ ⟨id,nm,rk,ae,fw,am,ef,aX⟩
     ·have bC:=J aw
      go_wp2
      refine ew (by kernel_rfl) (by kernel_rfl) ?_
      repeat (go_big_quiet_step ((go_at_call 215;exact ax.call _ (Nat.le_refl _) (JR ⟨id,nm,rk,ae,fw,am,ef,aX⟩ _ bC.out _))))
      refine wpQuiet_nil ?_
      intro K
      go_wp2
      go_ret
      exact⟨ek (by rw [kx,uy bl (by rw [Bs cb.out iv.out,aw];rfl)];rfl),ah aB K.below⟩
     ·have bC:=J aw
      by_cases hid:tX < id
      ·have hle:decide (id≤tX)= false:=decide_eq_false (by omega)
       go_wp2
       refine ew (by kernel_rfl) (by kernel_rfl) ?_
       repeat (go_big_quiet_step ((go_at_call 215;exact ax.call _ (Nat.le_refl _) (JR ⟨id,nm,rk,ae,fw,am,ef,aX⟩ _ bC.out _))))
       refine wpQuiet_nil ?_
       intro K
       go_wp2
       go_loopw [4] (fun i HR=>∃m:Nat,m≤j + 1∧i= .int .i64 m∧hH (fun i=>!jm (fun z:aJ=>z.name.toList == nm.toList) xs i) m= true∧Below w w HR) (fun i _=>j + 1 - (intOf i).toNat)
       case atStart=>exact⟨0,by omega,rfl,rfl,ah aB K.below⟩
       case round=>
        clear f0 f1 f2 f3 f4 f5 f6 g0 g1 g2 g3 g4 g5 g6 kQ
        obtain⟨m,hm,rfl,jE,aN⟩:=hrel
        have Ik:=J jE;clear jE
        by_cases lr:m < j + 1
        ·obtain⟨eu,aug,z,e3,_,cc,qi⟩:=bL.at_ aN (k:=m) (by omega)
         simp only [Option.some.injEq,Addr.mk.injEq,and_true] at e3
         obtain⟨rfl,rfl⟩:=e3
         obtain⟨fo,auh,et,e4,_,JC,Vk⟩:=bL.at_ aN (k:=j + 1) (by omega)
         simp only [Option.some.injEq,Addr.mk.injEq,and_true] at e4
         obtain⟨rfl,rfl⟩:=e4
         obtain rfl:_= et:=Option.some.inj (cb.out.symm.trans JC)
         have dI:=qi 1 _ rfl;have q1:=Vk 1 _ rfl;have bf:=J cc;clear cc qi Vk JC
         cases bO:(z.name.toList == nm.toList)
         all_goals
          have fG:=J bO
          go_wp2
          refine ew (by kernel_rfl) (by kernel_rfl) ?_
          repeat (go_big_quiet_step (fail))
          refine wpQuiet_nil ?_
          intro gz
          go_wp2
         ·go_roundw
          case rel=>exact⟨m + 1,by omega,by go_num,nz Ik.out (by simp [jm,bf.out,fG.out]),ah aN gz.below⟩
          case measure=>simp [intOf];omega
         ·go_ret
          exact⟨ek (by rw [kx,uy bl (by rw [Bs cb.out iv.out,afp lr bf.out fG.out,aw];simp)];rfl),ah aN gz.below⟩
        ·obtain rfl:m= j + 1:=by omega
         go_wp2
         go_roundw
         case rel=>exact⟨j + 1 + 1,by omega,by omega,by go_num,nz cH.out (by rw [Bs cb.out iv.out,aw,afo Ik.out,decide_eq_true (show (aJ.id ⟨tX,DU,DX,ys,zJ,oE,DV,DW⟩) < (aJ.id ⟨id,nm,rk,ae,fw,am,ef,aX⟩) from hid)];rfl),aN⟩
         case measure=>simp [intOf];omega
      ·go_wp2
       refine ew (by kernel_rfl) (by kernel_rfl) ?_
       repeat (go_big_quiet_step ((go_at_call 215;exact ax.call _ (Nat.le_refl _) (JR ⟨id,nm,rk,ae,fw,am,ef,aX⟩ _ bC.out _))))
       refine wpQuiet_nil ?_
       intro K
       go_wp2
       go_ret
       exact⟨ek (by rw [kx,uy bl (by rw [Bs cb.out iv.out,aw,decide_eq_false (show¬(aJ.id ⟨tX,DU,DX,ys,zJ,oE,DV,DW⟩) < (aJ.id ⟨id,nm,rk,ae,fw,am,ef,aX⟩) from by show¬(tX < id);omega)];rfl)];rfl),ah aB K.below⟩
   ·have h8:decide (xs.length≤8)= false:=decide_eq_false (by omega)
    go_wp2
    go_ret
    exact⟨ek (by rw [kx,h8,Bool.and_false];exact decide_eq_false (by omega)),aB⟩
  ·exact abF
open Go.RowKit Go.G9
def pP (rs:List aJ) (q:aL):Bool:=match hD rs q.fW with | some r=>eG q.mover && !(q.sec && !r.second) | none=>false
def DA (rs:List aJ) (p q:aL):Bool:=match hD rs p.fW,hD rs q.fW with | some t,some r=>!kt t p && decide (t.gG < r.gG) | _,_=>false
def pQ (rs:List aJ) (qs:List aL):Nat→Bool
 | 0=>match qs[0]? with | some q=>pP rs q | none=>true
 | j + 1=>match qs[j]?,qs[j + 1]? with | some p,some q=>pP rs q && DA rs p q | _,_=>true
def dD (rs:List aJ) (qs:List aL):Bool:=kx rs && (decide (qs.length≤6) && hH (pQ rs qs) qs.length)
theorem yc {rs:List aJ} {qs:List aL} {j:Nat} {p q:aL} (aO:qs[j]? =some p) (aZ:qs[j + 1]? =some q):pQ rs qs (j + 1)= (pP rs q && DA rs p q):=by simp only [pQ,aO,aZ]
theorem Kq {rs:List aJ} {qs:List aL} {q:aL} (aZ:qs[0]? =some q):pQ rs qs 0= pP rs q:=by simp only [pQ,aZ]
theorem Ht {rs:List aJ} {q:aL} (h:pP rs q= true):∃r,hD rs q.fW= some r:=by
 unfold pP at h
 split at h
 ·rename_i r bu;exact⟨r,bu⟩
 ·cases h
theorem zy {rs:List aJ} {qs:List aL} {k:Nat} {q:aL} (h:pQ rs qs k= true) (aZ:qs[k]? =some q):pP rs q= true:=by
 cases k with
 | zero=>rw [Kq aZ] at h;exact h
 | succ j=>
  have bl:=(List.getElem?_eq_some_iff.1 aZ).1;have aO:qs[j]? =some qs[j]:=List.getElem?_eq_getElem (by omega)
  rw [yc aO aZ,Bool.and_eq_true] at h;exact h.1
theorem PM {rs:List aJ} {qs:List aL} {k:Nat} {q:aL} (aZ:qs[k]? =some q) (h:pP rs q= false):pQ rs qs k= false:=by
 cases aE:pQ rs qs k with
 | false=>rfl
 | true=>rw [zy aE aZ] at h;cases h
theorem aoa {rs:List aJ} {q:aL} (h:hD rs q.fW= none):pP rs q= false:=by simp [pP,h]
theorem wB {rs:List aJ} {q:aL} {r:aJ} (h:hD rs q.fW= some r):pP rs q= (eG q.mover && !(q.sec && !r.second)):=by simp [pP,h]
theorem vm {rs:List aJ} {p q:aL} {t r:aJ} (h:hD rs p.fW= some t) (h2:hD rs q.fW= some r):DA rs p q= (!kt t p && decide (t.gG < r.gG)):=by simp [DA,h,h2]
theorem oA {rs:List aJ} {qs:List aL} (h:dD rs qs= true) {k:Nat} {q:aL} (aZ:qs[k]? =some q):∃r,hD rs q.fW= some r:=by
 simp only [dD,Bool.and_eq_true] at h
 exact Ht (zy (oZ.1 h.2.2 k (List.getElem?_eq_some_iff.1 aZ).1) aZ)
theorem Bj {rs:List aJ} {qs:List aL} {k:Nat} (az:k < qs.length) (h:pQ rs qs k= false):dD rs qs= false:=by rw [dD,uy az h];simp
theorem abe {p:Prop} (h:p:=by
 rintro e bd ⟨rfl,bz⟩
 have au:=be w bz;have I:Below w w bd:=au
 go_wp2
 go_ret
 exact⟨ek (by simp [dD,bu]),(ah I av)⟩):p:=h
theorem aaQ {p:Prop} (h:p:=by
 rintro e bd ⟨rfl,bz⟩
 have au:=be w bz;have I:Below w w bd:=au
 go_wp2
 go_ret
 exact⟨ek (by rw [dD,decide_eq_false Of];simp),(ah I av)⟩):p:=h
theorem abv {p:Prop} (h:p:=by
 go_wp2
 go_ret
 exact⟨ek (Bj bl (PM cb.out (aoa (q:=⟨qr,cg,rW⟩) cB.out))).symm,(ah I av)⟩):p:=h
theorem aaZ {p:Prop} (h:p:=by
 go_wp2
 go_ret
 exact⟨ek (Bj bl (PM cb.out (by rw [wB (q:=⟨qr,cg,rW⟩) cB.out];simp only [dR.out];rfl))).symm,(ah I av)⟩):p:=h
theorem aaS {p:Prop} (h:p:=by
 go_wp2
 go_roundw
 case rel=>exact⟨1,by omega,by go_num,nz cH.out (by rw [Kq cb.out];exact ug.out),(ah I av)⟩
 case measure=>simp [intOf];omega):p:=h
theorem acP {p:Prop} (h:p:=by
 repeat (go_big_quiet_step (fail))
 refine wpQuiet_nil ?_
 intro K
 go_wp2
 go_roundw
 case rel=>exact⟨j + 1 + 1,by omega,by go_num,nz cH.out (by rw [yc iv.out cb.out,ug.out,vm bX.out cB.out,fV.out,decide_eq_true (show (aJ.gG ⟨tid,ir,fh,gS,iq,il,jZ,tok⟩) < (aJ.gG ⟨id,nm,rk,ae,fw,am,ef,aX⟩) from GH)];rfl),ah I K.below⟩
 case measure=>simp [intOf];omega):p:=h
theorem adf {p:Prop} (h:p:=by
 repeat (go_big_quiet_step (fail))
 refine wpQuiet_nil ?_
 intro K
 go_wp2
 go_ret
 exact⟨ek (Bj bl (by rw [yc iv.out cb.out,ug.out,vm bX.out cB.out,fV.out,decide_eq_false (show¬(aJ.gG ⟨tid,ir,fh,gS,iq,il,jZ,tok⟩) < (aJ.gG ⟨id,nm,rk,ae,fw,am,ef,aX⟩) from by show¬fh < rk;omega)];rfl)).symm,ah I K.below⟩):p:=h
theorem acy {p:Prop} (h:p:=by
 have fV:=J oR;clear oR;clear bF
 refine ew (by kernel_rfl) (by kernel_rfl) ?_
 repeat (go_big_quiet_step (fail))
 go_big_quiet_step ((go_at_call 198;exact ax.call _ (by first | exact Nat.le_refl _ | omega) (vl A c rs aY ⟨me,pm,hq⟩ ⟨tid,ir,fh,gS,iq,il,jZ,tok⟩ bX.out _ fV.out _ (jx.out.below (ax.below _)))))
 repeat (go_big_quiet_step (fail))
 refine wpQuiet_nil ?_
 intro K
 go_wp2
 go_ret
 exact⟨ek (Bj bl (by rw [yc iv.out cb.out,ug.out,vm bX.out cB.out,fV.out];rfl)).symm,ah I K.below⟩):p:=h
theorem aaV {p:Prop} (h:p:=by
 go_wp2
 go_ret
 exact⟨ek (Bj bl (PM cb.out (by rw [wB (q:=⟨qr,cg,true⟩) cB.out];simp only [dR.out];rfl))).symm,(ah I av)⟩):p:=h
theorem acO {p:Prop} (h:p:=by
 repeat (go_big_quiet_step (fail))
 refine wpQuiet_nil ?_
 intro K
 go_wp2
 go_roundw
 case rel=>exact⟨j + 1 + 1,by omega,by go_num,nz cH.out (by rw [yc iv.out cb.out,ug.out,vm bX.out cB.out,fV.out,decide_eq_true (show (aJ.gG ⟨tid,ir,fh,gS,iq,il,jZ,tok⟩) < (aJ.gG ⟨id,nm,rk,true,fw,am,ef,aX⟩) from GH)];rfl),ah I K.below⟩
 case measure=>simp [intOf];omega):p:=h
theorem ade {p:Prop} (h:p:=by
 repeat (go_big_quiet_step (fail))
 refine wpQuiet_nil ?_
 intro K
 go_wp2
 go_ret
 exact⟨ek (Bj bl (by rw [yc iv.out cb.out,ug.out,vm bX.out cB.out,fV.out,decide_eq_false (show¬(aJ.gG ⟨tid,ir,fh,gS,iq,il,jZ,tok⟩) < (aJ.gG ⟨id,nm,rk,true,fw,am,ef,aX⟩) from by show¬fh < rk;omega)];rfl)).symm,ah I K.below⟩):p:=h
theorem abm {p:Prop} (h:p:=by
 obtain rfl:k= qs.length:=by omega
 go_wp2
 go_ret
 exact⟨ek (by rw [dD,bJ.out,decide_eq_true Of,cH.out];rfl),(ah I av)⟩):p:=h
theorem nA (A:Option Addr) (c:Nat) (rs:List aJ) (aY:rs.length≤1048576) (aE:rs.length≤c) (B:Option Addr) (d:Nat) (qs:List aL) (aZ:qs.length≤1048576) (v:Bool) (aw:dD rs qs= v) (w:World) (bL:aH 7 aJ.cells w A rs) (eh:aH 3 aL.cells w B qs):
 Calls Tryz.prog 118 #[.slice A rs c,.slice B qs d] w fun e ag=>e= .returned v∧Below w w ag:=by
 subst aw
 cases bu:kx rs
 ·have bJ:=J bu
  go_in
  go_wp2_with fail
  refine (GZ A c rs aY aE _ bJ.out _ (bL.below av)).mono ?_
  exact abe
 by_cases Of:qs.length≤6
 case neg=>
  have bJ:=J bu
  go_in
  go_wp2_with fail
  refine (GZ A c rs aY aE _ bJ.out _ (bL.below av)).mono ?_
  exact aaQ
 have bJ:=J bu
 go_in
 have pd:=J bL;have Nt:=J eh
 go_wp2_with fail
 refine (GZ A c rs aY aE _ bJ.out _ (bL.below av)).mono ?_
 rintro e bd ⟨rfl,bz⟩
 have au:=be w bz;have I:Below w w bd:=au;replace bL:=bL.below au;replace eh:=eh.below au
 go_wp2
 go_loopw [17] (fun i wr=>∃k:Nat,k≤qs.length∧i= .int .i64 k∧hH (pQ rs qs) k= true∧Below w w wr) (fun i _=>qs.length - (intOf i).toNat)
 case atStart=>exact⟨0,Nat.zero_le _,rfl,rfl,I⟩
 case round=>
  obtain⟨k,az,rfl,aS,aB⟩:=hrel
  have cH:=J aS;clear aS bL eh I;have bL:=pd.out;have eh:=Nt.out;have au:=be w aB;have I:Below w w wr:=au;replace bL:=bL.below au;replace eh:=eh.below au
  by_cases bl:k < qs.length
  ·obtain⟨b,off,q,rfl,dU,ay,bk⟩:=eh.at_ (Below.refl _ _) bl
   obtain⟨qr,cg,rW⟩:=q
   have f0:=bk 0 _ rfl;have f1:=bk 1 _ rfl;have f2:=bk 2 _ rfl
   simp only [Nat.add_zero] at f0
   have g0:=f0 (ax.self _);have g1:=f1 (ax.self _);have g2:=f2 (ax.self _)
   simp only [ax.self] at g0
   simp only [ax.self] at g1
   simp only [ax.self] at g2
   have cb:=J ay;clear ay bk
   go_upto_region 6 with fail
   refine cR fun aF ao aQ=>?_
   replace bL:=bL.below ao;replace eh:=eh.below ao;replace I:=ah I ao;have bF:=aQ.cC;clear f0 f1 f2 g0 g1 g2
   cases hf:hD rs qr with
   | none=>
    have cB:=J hf;clear hf
    go_wp2_with fail
    refine (DI A c rs aY qr _ (Di cB.out) _ (bL.below av)).mono ?_
    rintro e bB ⟨rfl,bG⟩
    have aK:=be aF bG;replace I:=ah I aK;clear bF
    exact abv
   | some r=>
    have cB:=J hf;clear hf
    obtain⟨m,hm,uW⟩:=rL cB.out
    have BP:=J hm;clear hm uW
    obtain⟨id,nm,rk,ae,fw,am,ef,aX⟩:=r
    go_wp2_with fail
    refine (DI A c rs aY qr _ BP.out _ (bL.below av)).mono ?_
    rintro e bB ⟨rfl,bG⟩
    have aK:=be aF bG;replace I:=ah I aK;replace bL:=bL.below aK;replace eh:=eh.below aK;replace aQ:=aQ.to aK;clear bF;have bF:=aQ.cC
    cases la:eG cg
    ·have dR:=J la;clear la
     go_wp2_with fail
     refine (iT cg _ dR.out _).mono ?_
     rintro e w0 ⟨rfl,h0⟩
     rw [h0]
     clear h0 w0
     exact aaZ
    ·have dR:=J la;clear la
     cases rW
     ·clear bF
      have bF:=aQ.cC
      go_wp2_with fail
      refine (iT cg _ dR.out _).mono ?_
      rintro e w0 ⟨rfl,h0⟩
      rw [h0]
      clear h0 w0
      go_upto_region 8 with fail
      have ug:Hid (pP rs ⟨qr,cg,false⟩ =true):=J (by rw [wB (q:=⟨qr,cg,false⟩) cB.out];simp only [dR.out];rfl)
      cases k with
      | zero=>
       clear bF
       refine ew (by kernel_rfl) (by kernel_rfl) ?_
       repeat (go_big_quiet_step ((fail)))
       refine wpQuiet_nil ?_
       intro K
       have bS:Below bB bB K.world:=ah av K.below;replace I:=ah I bS
       exact aaS
      | succ j=>
       obtain⟨cL,rT,p,gC,_,hy,db⟩:=eh.at_ (Below.refl _ _) (k:=j) (by omega)
       simp only [Option.some.injEq,Addr.mk.injEq,and_true] at gC
       obtain⟨rfl,rfl⟩:=gC
       obtain⟨t,vb⟩:=Ht (zy (oZ.1 cH.out j (by omega)) hy)
       obtain⟨me,pm,hq⟩:=p
       obtain⟨tid,ir,fh,gS,iq,il,jZ,tok⟩:=t
       have kQ:=db 0 _ rfl;have ym:=db 1 _ rfl;have kA:=db 2 _ rfl
       simp only [Nat.add_zero] at kQ
       have iv:=J hy;clear hy db;have bX:=J vb;clear vb;have jx:=J bL
       have CV:∀W:World,(Instr.field 89 (.agg #[tid,ir,fh,gS,iq,il,jZ]) 2).run Tryz.prog W= .ok (.int .i64 fh) W:=fun _=>by kernel_rfl
       have Gn:∀W:World,(Instr.field 89 (.agg #[id,nm,rk,ae,fw,am,ef]) 2).run Tryz.prog W= .ok (.int .i64 rk) W:=fun _=>by kernel_rfl
       cases oR:kt ⟨tid,ir,fh,gS,iq,il,jZ,tok⟩ ⟨me,pm,hq⟩
       ·have fV:=J oR;clear oR
        by_cases GH:fh < rk
        ·have hle:decide (rk≤fh)= false:=decide_eq_false (by omega)
         clear bF;have bF:=aq.jV (fun K:ax bB.heap.size bB=>(aQ.below K.below aQ.lt))
         refine ew (by kernel_rfl) (by kernel_rfl) ?_
         repeat (go_big_quiet_step (fail))
         go_big_quiet_step ((go_at_call 198;exact ax.call _ (by first | exact Nat.le_refl _ | omega) (vl A c rs aY ⟨me,pm,hq⟩ ⟨tid,ir,fh,gS,iq,il,jZ,tok⟩ bX.out _ fV.out _ (jx.out.below (ax.below _)))))
         repeat (go_big_quiet_step (fail))
         go_big_quiet_step ((go_at_call 69;exact ax.call _ (by first | exact Nat.le_refl _ | omega) (rq A c rs aY ⟨me,pm,hq⟩ ⟨tid,ir,fh,gS,iq,il,jZ,tok⟩ bX.out _ (jx.out.below (ax.below _)))))
         repeat (go_big_quiet_step (fail))
         go_big_quiet_step ((go_at_call 69;exact ax.call _ (by first | exact Nat.le_refl _ | omega) (rq A c rs aY ⟨qr,cg,false⟩ ⟨id,nm,rk,ae,fw,am,ef,aX⟩ cB.out _ (jx.out.below (ax.below _)))))
         exact acP
        ·have hle:decide (rk≤fh)= true:=decide_eq_true (by omega)
         clear bF;have bF:=aq.jV (fun K:ax bB.heap.size bB=>(aQ.below K.below aQ.lt))
         refine ew (by kernel_rfl) (by kernel_rfl) ?_
         repeat (go_big_quiet_step (fail))
         go_big_quiet_step ((go_at_call 198;exact ax.call _ (by first | exact Nat.le_refl _ | omega) (vl A c rs aY ⟨me,pm,hq⟩ ⟨tid,ir,fh,gS,iq,il,jZ,tok⟩ bX.out _ fV.out _ (jx.out.below (ax.below _)))))
         repeat (go_big_quiet_step (fail))
         go_big_quiet_step ((go_at_call 69;exact ax.call _ (by first | exact Nat.le_refl _ | omega) (rq A c rs aY ⟨me,pm,hq⟩ ⟨tid,ir,fh,gS,iq,il,jZ,tok⟩ bX.out _ (jx.out.below (ax.below _)))))
         repeat (go_big_quiet_step (fail))
         go_big_quiet_step ((go_at_call 69;exact ax.call _ (by first | exact Nat.le_refl _ | omega) (rq A c rs aY ⟨qr,cg,false⟩ ⟨id,nm,rk,ae,fw,am,ef,aX⟩ cB.out _ (jx.out.below (ax.below _)))))
         exact adf
       ·exact acy
     ·have ajf:∀W:World,(Instr.field 89 (.agg #[id,nm,rk,ae,fw,am,ef]) 3).run Tryz.prog W= .ok (.bool ae) W:=fun _=>by kernel_rfl
      cases ae
      ·clear bF
       have bF:=aQ.cC
       go_wp2_with fail
       refine (iT cg _ dR.out _).mono ?_
       rintro e w0 ⟨rfl,h0⟩
       rw [h0]
       clear h0 w0
       go_wp2_with fail
       refine (rq A c rs aY ⟨qr,cg,true⟩ ⟨id,nm,rk,false,fw,am,ef,aX⟩ cB.out _ (bL.below av)).mono ?_
       rintro e ca ⟨rfl,cU⟩
       have bS:=be bB cU;replace I:=ah I bS;clear bF
       exact aaV
      ·clear bF
       have bF:=aQ.cC
       go_wp2_with fail
       refine (iT cg _ dR.out _).mono ?_
       rintro e w0 ⟨rfl,h0⟩
       rw [h0]
       clear h0 w0
       go_wp2_with fail
       refine (rq A c rs aY ⟨qr,cg,true⟩ ⟨id,nm,rk,true,fw,am,ef,aX⟩ cB.out _ (bL.below av)).mono ?_
       rintro e ca ⟨rfl,cU⟩
       have bS:=be bB cU;replace I:=ah I bS;replace bL:=bL.below bS;replace eh:=eh.below bS;replace aQ:=aQ.to bS;clear bF;have bF:=aQ.cC
       go_upto_region 8 with fail
       clear ajf;have ug:Hid (pP rs ⟨qr,cg,true⟩ =true):=J (by rw [wB (q:=⟨qr,cg,true⟩) cB.out];simp only [dR.out];rfl)
       cases k with
       | zero=>
        clear bF
        refine ew (by kernel_rfl) (by kernel_rfl) ?_
        repeat (go_big_quiet_step ((fail)))
        refine wpQuiet_nil ?_
        intro K
        have cx:Below ca ca K.world:=ah av K.below;replace I:=ah I cx
        exact aaS
       | succ j=>
        obtain⟨cL,rT,p,gC,_,hy,db⟩:=eh.at_ (Below.refl _ _) (k:=j) (by omega)
        simp only [Option.some.injEq,Addr.mk.injEq,and_true] at gC
        obtain⟨rfl,rfl⟩:=gC
        obtain⟨t,vb⟩:=Ht (zy (oZ.1 cH.out j (by omega)) hy)
        obtain⟨me,pm,hq⟩:=p
        obtain⟨tid,ir,fh,gS,iq,il,jZ,tok⟩:=t
        have kQ:=db 0 _ rfl;have ym:=db 1 _ rfl;have kA:=db 2 _ rfl
        simp only [Nat.add_zero] at kQ
        have iv:=J hy;clear hy db;have bX:=J vb;clear vb;have jx:=J bL
        have CV:∀W:World,(Instr.field 89 (.agg #[tid,ir,fh,gS,iq,il,jZ]) 2).run Tryz.prog W= .ok (.int .i64 fh) W:=fun _=>by kernel_rfl
        have Gn:∀W:World,(Instr.field 89 (.agg #[id,nm,rk,true,fw,am,ef]) 2).run Tryz.prog W= .ok (.int .i64 rk) W:=fun _=>by kernel_rfl
        cases oR:kt ⟨tid,ir,fh,gS,iq,il,jZ,tok⟩ ⟨me,pm,hq⟩
        ·have fV:=J oR;clear oR
         by_cases GH:fh < rk
         ·have hle:decide (rk≤fh)= false:=decide_eq_false (by omega)
          clear bF;have bF:=aq.jV (fun K:ax ca.heap.size ca=>(aQ.below K.below aQ.lt))
          refine ew (by kernel_rfl) (by kernel_rfl) ?_
          repeat (go_big_quiet_step (fail))
          go_big_quiet_step ((go_at_call 198;exact ax.call _ (by first | exact Nat.le_refl _ | omega) (vl A c rs aY ⟨me,pm,hq⟩ ⟨tid,ir,fh,gS,iq,il,jZ,tok⟩ bX.out _ fV.out _ (jx.out.below (ax.below _)))))
          repeat (go_big_quiet_step (fail))
          go_big_quiet_step ((go_at_call 69;exact ax.call _ (by first | exact Nat.le_refl _ | omega) (rq A c rs aY ⟨me,pm,hq⟩ ⟨tid,ir,fh,gS,iq,il,jZ,tok⟩ bX.out _ (jx.out.below (ax.below _)))))
          repeat (go_big_quiet_step (fail))
          go_big_quiet_step ((go_at_call 69;exact ax.call _ (by first | exact Nat.le_refl _ | omega) (rq A c rs aY ⟨qr,cg,true⟩ ⟨id,nm,rk,true,fw,am,ef,aX⟩ cB.out _ (jx.out.below (ax.below _)))))
          exact acO
         ·have hle:decide (rk≤fh)= true:=decide_eq_true (by omega)
          clear bF;have bF:=aq.jV (fun K:ax ca.heap.size ca=>(aQ.below K.below aQ.lt))
          refine ew (by kernel_rfl) (by kernel_rfl) ?_
          repeat (go_big_quiet_step (fail))
          go_big_quiet_step ((go_at_call 198;exact ax.call _ (by first | exact Nat.le_refl _ | omega) (vl A c rs aY ⟨me,pm,hq⟩ ⟨tid,ir,fh,gS,iq,il,jZ,tok⟩ bX.out _ fV.out _ (jx.out.below (ax.below _)))))
          repeat (go_big_quiet_step (fail))
          go_big_quiet_step ((go_at_call 69;exact ax.call _ (by first | exact Nat.le_refl _ | omega) (rq A c rs aY ⟨me,pm,hq⟩ ⟨tid,ir,fh,gS,iq,il,jZ,tok⟩ bX.out _ (jx.out.below (ax.below _)))))
          repeat (go_big_quiet_step (fail))
          go_big_quiet_step ((go_at_call 69;exact ax.call _ (by first | exact Nat.le_refl _ | omega) (rq A c rs aY ⟨qr,cg,true⟩ ⟨id,nm,rk,true,fw,am,ef,aX⟩ cB.out _ (jx.out.below (ax.below _)))))
          exact ade
        ·exact acy
  ·exact abm
theorem adb {p:Prop} (h:p:=by
 refine ew (by kernel_rfl) (by kernel_rfl) ?_
 repeat (go_big_quiet_step ((fail)))
 refine wpQuiet_nil ?_
 intro K
 have ao:Below wr wr K.world:=ah av K.below;replace I:=ah I ao
 go_wp2
 go_roundw
 case rel=>exact⟨1,by omega,by go_num,nz cH.out (by rw [Kq cb.out];exact ug.out),(ah I av)⟩
 case measure=>simp [intOf];omega):p:=h
theorem acE {p:Prop} (h:p:=by
 have fV:=J oR;clear oR
 refine ew (by kernel_rfl) (by kernel_rfl) ?_
 repeat (go_big_quiet_step (fail))
 go_big_quiet_step ((go_at_call 163;exact ax.call _ (by first | exact Nat.le_refl _ | omega) (pK _ c rs aY ⟨me,pm,hq⟩ ⟨tid,ir,fh,gS,iq,il,jZ,tok⟩ bX.out _ fV.out _ (jx.out.below (ax.below _)))))
 repeat (go_big_quiet_step (fail))
 refine wpQuiet_nil ?_
 intro K
 go_wp2
 go_ret
 exact⟨ek (Bj bl (by rw [yc iv.out cb.out,ug.out,vm bX.out cB.out,fV.out];rfl)).symm,ah I K.below⟩):p:=h
theorem ox (A:Option Addr) (c:Nat) (rs:List aJ) (aY:rs.length≤1048576) (B:Option Addr) (d:Nat) (qs:List aL) (aZ:qs.length≤1048576) (v:Bool) (aw:dD rs qs= v) (w:World) (bL:aH 7 aJ.cells w A rs) (eh:aH 3 aL.cells w B qs):
 Calls Tryz.prog 93 #[.slice A rs c,.slice B qs d] w fun e ag=>e= .returned v∧Below w w ag:=by
 subst aw
 cases bu:kx rs
 ·have bJ:=J bu
  go_in
  go_wp2_with fail
  refine (JQ A c rs aY _ bJ.out _ (bL.below av)).mono ?_
  exact abe
 by_cases Of:qs.length≤6
 case neg=>
  have bJ:=J bu
  go_in
  go_wp2_with fail
  refine (JQ A c rs aY _ bJ.out _ (bL.below av)).mono ?_
  exact aaQ
 have bJ:=J bu
 go_in
 have pd:=J bL;have Nt:=J eh
 go_wp2_with fail
 refine (JQ A c rs aY _ bJ.out _ (bL.below av)).mono ?_
 rintro e bd ⟨rfl,bz⟩
 have au:=be w bz;have I:Below w w bd:=au;replace bL:=bL.below au;replace eh:=eh.below au
 go_wp2
 go_loopw [5] (fun i wr=>∃k:Nat,k≤qs.length∧i= .int .i64 k∧hH (pQ rs qs) k= true∧Below w w wr) (fun i _=>qs.length - (intOf i).toNat)
 case atStart=>exact⟨0,Nat.zero_le _,rfl,rfl,I⟩
 case round=>
  obtain⟨k,az,rfl,aS,aB⟩:=hrel
  have cH:=J aS;clear aS bL eh I;have bL:=pd.out;have eh:=Nt.out;have au:=be w aB;have I:Below w w wr:=au;replace bL:=bL.below au;replace eh:=eh.below au
  by_cases bl:k < qs.length
  ·obtain⟨b,off,q,rfl,dU,ay,bk⟩:=eh.at_ (Below.refl _ _) bl
   obtain⟨qr,cg,rW⟩:=q
   have f0:=bk 0 _ rfl;have f1:=bk 1 _ rfl;have f2:=bk 2 _ rfl
   simp only [Nat.add_zero] at f0
   have g0:=f0 (ax.self _);have g1:=f1 (ax.self _);have g2:=f2 (ax.self _)
   simp only [ax.self] at g0
   simp only [ax.self] at g1
   simp only [ax.self] at g2
   have cb:=J ay;clear ay bk
   cases hf:hD rs qr with
   | none=>
    have cB:=J hf;clear hf
    go_wp2_with fail
    refine (vj A c rs aY qr _ (Di cB.out) _ (bL.below av)).mono ?_
    rintro e w0 ⟨rfl,h0⟩
    rw [h0]
    clear h0 w0
    exact abv
   | some r=>
    have cB:=J hf;clear hf
    obtain⟨m,hm,uW⟩:=rL cB.out
    have jE:m < rs.length:=(List.getElem?_eq_some_iff.1 uW).1
    obtain⟨dz,Py,fT,rfl,uM,wk,tw⟩:=bL.at_ (Below.refl _ _) jE
    obtain rfl:r= fT:=Option.some.inj (uW.symm.trans wk)
    obtain⟨id,nm,rk,ae,fw,am,ef,aX⟩:=r
    have e2:=tw 2 _ rfl;have e3:=tw 3 _ rfl;have MH:=e3 (ax.self _)
    simp only [ax.self] at MH
    have BP:=J hm;clear hm uW wk tw
    go_wp2_with fail
    refine (vj _ c rs aY qr _ BP.out _ (bL.below av)).mono ?_
    rintro e w0 ⟨rfl,h0⟩
    rw [h0]
    clear h0 w0
    cases la:eG cg
    ·have dR:=J la;clear la
     go_wp2_with fail
     refine (iG cg _ dR.out _).mono ?_
     rintro e w0 ⟨rfl,h0⟩
     rw [h0]
     exact aaZ
    ·have dR:=J la;clear la
     cases rW
     ·go_wp2_with fail
      refine (iG cg _ dR.out _).mono ?_
      rintro e w0 ⟨rfl,h0⟩
      rw [h0]
      go_upto_region 9 with fail
      clear g0 g1 g2 e3 MH f0 f1 f2;have ug:Hid (pP rs ⟨qr,cg,false⟩ =true):=J (by rw [wB (q:=⟨qr,cg,false⟩) cB.out];simp only [dR.out];rfl)
      cases k with
      | zero=>
       exact adb
      | succ j=>
       obtain⟨cL,rT,p,gC,_,hy,db⟩:=eh.at_ (Below.refl _ _) (k:=j) (by omega)
       simp only [Option.some.injEq,Addr.mk.injEq,and_true] at gC
       obtain⟨rfl,rfl⟩:=gC
       obtain⟨t,vb⟩:=Ht (zy (oZ.1 cH.out j (by omega)) hy)
       obtain⟨me,pm,hq⟩:=p
       obtain⟨tid,ir,fh,gS,iq,il,jZ,tok⟩:=t
       have kQ:=db 0 _ rfl;have ym:=db 1 _ rfl;have kA:=db 2 _ rfl
       simp only [Nat.add_zero] at kQ
       have iv:=J hy;clear hy db;have bX:=J vb;clear vb;have jx:=J bL
       cases oR:kt ⟨tid,ir,fh,gS,iq,il,jZ,tok⟩ ⟨me,pm,hq⟩
       ·have fV:=J oR;clear oR
        by_cases GH:fh < rk
        ·have hle:decide (rk≤fh)= false:=decide_eq_false (by omega)
         refine ew (by kernel_rfl) (by kernel_rfl) ?_
         repeat (go_big_quiet_step (fail))
         go_big_quiet_step ((go_at_call 163;exact ax.call _ (by first | exact Nat.le_refl _ | omega) (pK _ c rs aY ⟨me,pm,hq⟩ ⟨tid,ir,fh,gS,iq,il,jZ,tok⟩ bX.out _ fV.out _ (jx.out.below (ax.below _)))))
         repeat (go_big_quiet_step (fail))
         go_big_quiet_step ((go_at_call 164;exact ax.call _ (by first | exact Nat.le_refl _ | omega) (Ds _ c rs aY ⟨me,pm,hq⟩ ⟨tid,ir,fh,gS,iq,il,jZ,tok⟩ bX.out _ (jx.out.below (ax.below _)))))
         exact acP
        ·have hle:decide (rk≤fh)= true:=decide_eq_true (by omega)
         refine ew (by kernel_rfl) (by kernel_rfl) ?_
         repeat (go_big_quiet_step (fail))
         go_big_quiet_step ((go_at_call 163;exact ax.call _ (by first | exact Nat.le_refl _ | omega) (pK _ c rs aY ⟨me,pm,hq⟩ ⟨tid,ir,fh,gS,iq,il,jZ,tok⟩ bX.out _ fV.out _ (jx.out.below (ax.below _)))))
         repeat (go_big_quiet_step (fail))
         go_big_quiet_step ((go_at_call 164;exact ax.call _ (by first | exact Nat.le_refl _ | omega) (Ds _ c rs aY ⟨me,pm,hq⟩ ⟨tid,ir,fh,gS,iq,il,jZ,tok⟩ bX.out _ (jx.out.below (ax.below _)))))
         exact adf
       ·exact acE
     ·cases ae
      ·go_wp2_with fail
       refine (iG cg _ dR.out _).mono ?_
       rintro e w0 ⟨rfl,h0⟩
       rw [h0]
       exact aaV
      ·go_wp2_with fail
       refine (iG cg _ dR.out _).mono ?_
       rintro e w0 ⟨rfl,h0⟩
       rw [h0]
       go_upto_region 9 with fail
       clear g0 g1 g2 e3 MH f0 f1 f2;have ug:Hid (pP rs ⟨qr,cg,true⟩ =true):=J (by rw [wB (q:=⟨qr,cg,true⟩) cB.out];simp only [dR.out];rfl)
       cases k with
       | zero=>
        exact adb
       | succ j=>
        obtain⟨cL,rT,p,gC,_,hy,db⟩:=eh.at_ (Below.refl _ _) (k:=j) (by omega)
        simp only [Option.some.injEq,Addr.mk.injEq,and_true] at gC
        obtain⟨rfl,rfl⟩:=gC
        obtain⟨t,vb⟩:=Ht (zy (oZ.1 cH.out j (by omega)) hy)
        obtain⟨me,pm,hq⟩:=p
        obtain⟨tid,ir,fh,gS,iq,il,jZ,tok⟩:=t
        have kQ:=db 0 _ rfl;have ym:=db 1 _ rfl;have kA:=db 2 _ rfl
        simp only [Nat.add_zero] at kQ
        have iv:=J hy;clear hy db;have bX:=J vb;clear vb;have jx:=J bL
        cases oR:kt ⟨tid,ir,fh,gS,iq,il,jZ,tok⟩ ⟨me,pm,hq⟩
        ·have fV:=J oR;clear oR
         by_cases GH:fh < rk
         ·have hle:decide (rk≤fh)= false:=decide_eq_false (by omega)
          refine ew (by kernel_rfl) (by kernel_rfl) ?_
          repeat (go_big_quiet_step (fail))
          go_big_quiet_step ((go_at_call 163;exact ax.call _ (by first | exact Nat.le_refl _ | omega) (pK _ c rs aY ⟨me,pm,hq⟩ ⟨tid,ir,fh,gS,iq,il,jZ,tok⟩ bX.out _ fV.out _ (jx.out.below (ax.below _)))))
          repeat (go_big_quiet_step (fail))
          go_big_quiet_step ((go_at_call 164;exact ax.call _ (by first | exact Nat.le_refl _ | omega) (Ds _ c rs aY ⟨me,pm,hq⟩ ⟨tid,ir,fh,gS,iq,il,jZ,tok⟩ bX.out _ (jx.out.below (ax.below _)))))
          exact acO
         ·have hle:decide (rk≤fh)= true:=decide_eq_true (by omega)
          refine ew (by kernel_rfl) (by kernel_rfl) ?_
          repeat (go_big_quiet_step (fail))
          go_big_quiet_step ((go_at_call 163;exact ax.call _ (by first | exact Nat.le_refl _ | omega) (pK _ c rs aY ⟨me,pm,hq⟩ ⟨tid,ir,fh,gS,iq,il,jZ,tok⟩ bX.out _ fV.out _ (jx.out.below (ax.below _)))))
          repeat (go_big_quiet_step (fail))
          go_big_quiet_step ((go_at_call 164;exact ax.call _ (by first | exact Nat.le_refl _ | omega) (Ds _ c rs aY ⟨me,pm,hq⟩ ⟨tid,ir,fh,gS,iq,il,jZ,tok⟩ bX.out _ (jx.out.below (ax.below _)))))
          exact ade
        ·exact acE
  ·exact abm
open Go.RowKit Go.G9
def jN (rs:List aJ) (qs:List aL):Bool:=match qs[qs.length - 1]? with
 | some q=>(match hD rs q.fW with | some r=>kt r q | none=>false)
 | none=>false
def hz (rs:List aJ) (qs:List aL):List Int:=match qs[qs.length - 1]? with
 | none=>rs.map (fun r=>r.id)
 | some q=>(match hD rs q.fW with
  | some t=>if kt t q || decide (qs.length= 6) then [] else (rs.filter (fun r=>decide (t.gG < r.gG))).map (fun r=>r.id)
  | none=>[])
def jO (rs:List aJ) (qs:List aL) (id mem:Int):Option (List aL):=if dD rs qs && (eG mem && hasB (hz rs qs) id) then some (qs ++ [⟨id,mem,false⟩]) else none
def DK (qs:List aL):List aL:=match qs[qs.length - 1]? with | some q=>qs.take (qs.length - 1) ++ [⟨q.fW,q.mover,true⟩] | none=>qs
def Hf (qs:List aL) (mem:Int):Bool:=match qs[qs.length - 1]? with | some q=>q.mover == mem | none=>true
def jX (rs:List aJ) (qs:List aL) (mem:Int):Option (List aL):=if dD rs qs && (jN rs qs && (eG mem && !Hf qs mem)) then some (DK qs) else none
def rC (rs:List aJ) (qs:List aL):Option (List aL×aL):=match qs[qs.length - 1]? with
 | some q=>if dD rs qs && !jN rs qs then some (qs.take (qs.length - 1),q) else none
 | none=>none
def oD (qs:List aL) (mem:Int):Nat→Option Nat
 | 0=>none
 | k + 1=>match qs[k]? with | some q=>if q.mover == mem then some k else oD qs mem k | none=>oD qs mem k
def kz (rs:List aJ) (qs:List aL) (mem:Int):Option (List aL):=if dD rs qs then (oD qs mem qs.length).map (fun k=>qs.take k) else none
def vX (rs:List aJ) (qs:List aL):List aL:=if jN rs qs then qs.take (qs.length - 1) else qs
def lI (rs:List aJ) (qs:List aL):Option (List aL):=if dD rs qs then some (vX rs qs) else none
theorem Yt {rs:List aJ} {qs ps:List aL} {i:Nat} (h:∀j,j≤i→qs[j]? =ps[j]?):pQ rs qs i= pQ rs ps i:=by
 cases i with
 | zero=>simp only [pQ,h 0 (Nat.le_refl _)]
 | succ j=>simp only [pQ,h j (by omega),h (j + 1) (Nat.le_refl _)]
theorem nr {rs:List aJ} {qs:List aL} (h:dD rs qs= true):kx rs= true∧qs.length≤6∧∀i,i < qs.length→pQ rs qs i= true:=by
 simp only [dD,Bool.and_eq_true,decide_eq_true_eq] at h
 exact⟨h.1,h.2.1,oZ.1 h.2.2⟩
theorem Yl {rs:List aJ} {qs:List aL} (h1:kx rs= true) (h2:qs.length≤6) (h3:∀i,i < qs.length→pQ rs qs i= true):dD rs qs= true:=by
 simp only [dD,Bool.and_eq_true,decide_eq_true_eq]
 exact⟨h1,h2,oZ.2 h3⟩
theorem Km {rs:List aJ} {qs:List aL} (h:dD rs qs= true) (k:Nat):dD rs (qs.take k)= true:=by
 obtain⟨h1,h2,h3⟩:=nr h
 refine Yl h1 (by rw [List.length_take];omega) (fun i hi=>?_)
 rw [List.length_take] at hi
 rw [Yt (ps:=qs) (fun j bH=>by rw [List.getElem?_take,if_pos (by omega)])]
 exact h3 i (by omega)
theorem Ym {rs:List aJ} {qs:List aL} {q:aL} (h:dD rs qs= true) (aS:qs.length < 6) (aZ:pP rs q= true) (cY:∀j p,qs.length= j + 1→qs[j]? =some p→DA rs p q= true):dD rs (qs ++ [q])= true:=by
 obtain⟨h1,h2,h3⟩:=nr h
 refine Yl h1 (by simp;omega) (fun i hi=>?_)
 rw [List.length_append,List.length_singleton] at hi
 by_cases bl:i < qs.length
 ·rw [Yt (ps:=qs) (fun j bH=>by rw [List.getElem?_append_left (by omega)])]
  exact h3 i bl
 ·obtain rfl:i= qs.length:=by omega
  have zg:(qs ++ [q])[qs.length]? =some q:=by simp
  cases aY:qs.length with
  | zero=>rw [aY] at zg;rw [Kq zg];exact aZ
  | succ j=>
   have aO:qs[j]? =some qs[j]:=List.getElem?_eq_getElem (by omega)
   rw [aY] at zg
   rw [yc (p:=qs[j]) (by rw [List.getElem?_append_left (by omega)];exact aO) zg,aZ,cY j _ aY aO];rfl
theorem xR {rs:List aJ} {qs:List aL} {j:Nat} {q:aL} {r:aJ} (aS:qs.length= j + 1) (aZ:qs[j]? =some q) (bu:hD rs q.fW= some r):jN rs qs= kt r q:=by
 have:qs.length - 1= j:=by omega
 simp only [jN,this,aZ,bu]
theorem JU {rs:List aJ} {qs:List aL} (h:qs.length= 0):jN rs qs= false:=by
 obtain rfl:=List.length_eq_zero_iff.1 h;rfl
theorem XB {rs:List aJ} {qs:List aL} (h:qs.length= 0):hz rs qs= rs.map (fun r=>r.id):=by
 obtain rfl:=List.length_eq_zero_iff.1 h;rfl
theorem Pn {rs:List aJ} {qs:List aL} {j:Nat} {q:aL} {t:aJ} (aS:qs.length= j + 1) (aZ:qs[j]? =some q) (bu:hD rs q.fW= some t):hz rs qs= if kt t q || decide (qs.length= 6) then [] else (rs.filter (fun r=>decide (t.gG < r.gG))).map (fun r=>r.id):=by
 have:qs.length - 1= j:=by omega
 simp only [hz,this,aZ,bu]
theorem abu {p:Prop} (h:p:=by
 unfold hz
 split
 ·simp
 ·split
  ·split
   ·simp
   ·rw [List.length_map];exact List.length_filter_le _ _
  ·simp):p:=h
theorem XA (rs:List aJ) (qs:List aL):(hz rs qs).length≤rs.length:=by
 exact abu
theorem YS {rs:List aJ} (h:kx rs= true):rs.length≤8∧∀k,k < rs.length→sa rs k= true:=by
 simp only [kx,Bool.and_eq_true,decide_eq_true_eq] at h
 exact⟨h.2,oZ.1 h.1⟩
theorem zB {rs:List aJ} (h:kx rs= true) {k:Nat} {r:aJ} (bu:rs[k]? =some r):rZ r= true:=by
 have az:=(List.getElem?_eq_some_iff.1 bu).1;have h1:=(YS h).2 k az
 cases k with
 | zero=>simp only [sa,bu] at h1;exact h1
 | succ j=>
  have aO:rs[j]? =some rs[j]:=List.getElem?_eq_getElem (by omega)
  simp only [sa,aO,bu,Bool.and_eq_true] at h1;exact h1.1
theorem zA {r:aJ} (h:rZ r= true):1≤r.id∧r.id≤20∧0≤r.gG∧r.gG≤9∧1≤r.hA∧r.hA≤3∧wO r.name= true:=by
 simp only [rZ,Bool.and_eq_true,rM] at h
 obtain⟨a,b,c,d⟩:=h
 exact⟨a.1,a.2,c.1,c.2,d.1,d.2,b⟩
theorem YR {rs:List aJ} (h:kx rs= true) {j:Nat} {x y:aJ} (hy:rs[j]? =some y) (ay:rs[j + 1]? =some x):y.id < x.id:=by
 have h1:=(YS h).2 (j + 1) (List.getElem?_eq_some_iff.1 ay).1
 simp only [sa,hy,ay,Bool.and_eq_true,decide_eq_true_eq] at h1;exact h1.2.1
theorem Qa {rs:List aJ} (h:kx rs= true):∀d j x y,rs[j]? =some y→rs[j + 1 + d]? =some x→y.id < x.id
 | 0,j,x,y,hy,ay=>YR h hy ay
 | d + 1,j,x,y,hy,ay=>by
  have bl:j + 1 + d < rs.length:=by have:=(List.getElem?_eq_some_iff.1 ay).1;omega
  have cc:rs[j + 1 + d]? =some rs[j + 1 + d]:=List.getElem?_eq_getElem bl;have h1:=Qa h d j _ y hy cc;have h2:=YR h cc (show rs[j + 1 + d + 1]? =some x from ay)
  omega
theorem YQ {rs:List aJ} (h:kx rs= true) {k:Nat} {r:aJ} (bu:rs[k]? =some r):hD rs r.id= some r:=by
 rcases JL (fun x:aJ=>x.id == r.id) rs with ⟨h1,h2⟩ | ⟨j,x,h1,h2,h3⟩
 ·rw [List.find?_eq_none] at h2
  have:=h2 r (List.mem_of_getElem? bu)
  simp at this
 ·have ay:x.id= r.id:=by have:=List.find?_some h3;simpa using this
  have xD:j= k:=by
   rcases Nat.lt_trichotomy j k with bl | he | bl
   ·obtain⟨d,rfl⟩ :∃d,k= j + 1 + d:=⟨k - j - 1,by omega⟩
    have:=Qa h d j r x h2 bu
    omega
   ·exact he
   ·obtain⟨d,rfl⟩ :∃d,j= k + 1 + d:=⟨j - k - 1,by omega⟩
    have:=Qa h d k x r bu h2
    omega
  subst xD
  rw [h2] at bu;cases bu;exact h3
theorem aix {xs:List Int} {n:Int} (h:hasB xs n= true):n ∈ xs:=by simpa [hasB] using h
theorem amV {rs:List aJ} {qs:List aL} {id:Int} (h:dD rs qs= true) (hid:hasB (hz rs qs) id= true):qs.length < 6∧∃r,hD rs id= some r∧∀j q,qs.length= j + 1→qs[j]? =some q→DA rs q ⟨id,0,false⟩ =true:=by
 obtain⟨h1,h2,h3⟩:=nr h
 have hm:=aix hid
 cases aY:qs.length with
 | zero=>
  rw [XB aY] at hm
  obtain⟨r,bu,rfl⟩:=List.mem_map.1 hm
  obtain⟨k,az⟩:=List.mem_iff_getElem?.1 bu
  exact⟨by omega,r,YQ h1 az,fun j q bH=>by omega⟩
 | succ j=>
  have aZ:qs[j]? =some qs[j]:=List.getElem?_eq_getElem (by omega)
  obtain⟨t,cE⟩:=oA h aZ
  rw [Pn aY aZ cE] at hm
  split at hm
  ·simp at hm
  ·rename_i aE
   simp only [Bool.or_eq_true,decide_eq_true_eq,not_or,Bool.not_eq_true] at aE
   obtain⟨r,bu,rfl⟩:=List.mem_map.1 hm
   rw [List.mem_filter] at bu
   obtain⟨k,az⟩:=List.mem_iff_getElem?.1 bu.1
   have hf:=YQ h1 az
   refine⟨by omega,r,hf,fun rO fy bH GF=>?_⟩
   obtain rfl:rO= j:=by omega
   rw [aZ] at GF;cases GF
   rw [vm cE hf,aE.1,bu.2];rfl
theorem ank {rs:List aJ} {qs ps:List aL} {id mem:Int} (h:jO rs qs id mem= some ps):dD rs ps= true:=by
 unfold jO at h
 split at h
 ·rename_i aE
  simp only [Bool.and_eq_true] at aE
  cases h
  obtain⟨aS,r,bu,cY⟩:=amV aE.1 aE.2.2
  refine Ym aE.1 aS ?_ (fun j p bH aO=>?_)
  ·rw [wB (q:=⟨id,mem,false⟩) bu];simpa using aE.2.1
  ·have h2:=cY j p bH aO
   obtain⟨t,cE⟩:=oA aE.1 aO
   rw [vm (q:=⟨id,0,false⟩) cE bu] at h2
   rw [vm (q:=⟨id,mem,false⟩) cE bu];exact h2
 ·cases h
theorem amB {qs:List aL} {j:Nat} {q:aL} (aS:qs.length= j + 1) (aZ:qs[j]? =some q):qs= qs.take j ++ [q]:=by
 have h1:=List.take_succ_eq_append_getElem (l:=qs) (i:=j) (by omega)
 rw [List.take_of_length_le (by omega),(List.getElem?_eq_some_iff.1 aZ).2] at h1
 exact h1
theorem aql {rs:List aJ} {qs ps:List aL} {mem:Int} (h:jX rs qs mem= some ps):dD rs ps= true:=by
 unfold jX at h
 split at h
 ·rename_i aE
  simp only [Bool.and_eq_true] at aE
  cases h
  cases aY:qs.length with
  | zero=>have:=JU (rs:=rs) aY;rw [this] at aE;simp at aE
  | succ j=>
   have aZ:qs[j]? =some qs[j]:=List.getElem?_eq_getElem (by omega)
   obtain⟨t,cE⟩:=oA aE.1 aZ
   have oR:=aE.2.1
   rw [xR aY aZ cE] at oR
   have aX:t.second= true:=by simp only [kt,Bool.and_eq_true] at oR;exact oR.1
   obtain⟨h1,h2,h3⟩:=nr aE.1
   have JB:=h3 j (by omega);have OB:=zy JB aZ
   rw [wB cE] at OB
   simp only [Bool.and_eq_true] at OB
   have ajU:DK qs= qs.take j ++ [⟨qs[j].fW,qs[j].mover,true⟩]:=by
    have:qs.length - 1= j:=by omega
    simp only [DK,this,aZ]
   rw [ajU]
   refine Ym (Km aE.1 j) (by rw [List.length_take];omega) ?_ (fun i p hi aO=>?_)
   ·rw [wB (q:=⟨qs[j].fW,qs[j].mover,true⟩) cE,aX];simpa using OB.1
   ·rw [List.length_take] at hi
    rw [List.getElem?_take,if_pos (by omega)] at aO
    obtain rfl:j= i + 1:=by omega
    rw [yc aO aZ] at JB
    simp only [Bool.and_eq_true] at JB
    obtain⟨u,hu⟩:=oA aE.1 aO
    have h5:=JB.2
    rw [vm hu cE] at h5
    rw [vm (q:=⟨qs[i + 1].fW,qs[i + 1].mover,true⟩) hu cE];exact h5
 ·cases h
theorem TK {rs:List aJ} {qs ps:List aL} {q:aL} (h:rC rs qs= some (ps,q)):dD rs ps= true∧dD rs qs= true∧∃j,qs.length= j + 1∧qs[j]? =some q∧ps= qs.take j:=by
 unfold rC at h
 split at h
 ·rename_i fy GF
  split at h
  ·rename_i aE
   simp only [Bool.and_eq_true] at aE
   cases h
   have:=(List.getElem?_eq_some_iff.1 GF).1
   exact⟨Km aE.1 _,aE.1,qs.length - 1,by omega,GF,rfl⟩
  ·cases h
 ·cases h
theorem arG {rs:List aJ} {qs ps:List aL} {mem:Int} (h:kz rs qs mem= some ps):dD rs ps= true:=by
 unfold kz at h
 split at h
 ·rename_i aE
  cases hw:oD qs mem qs.length with
  | none=>rw [hw] at h;cases h
  | some k=>rw [hw] at h;cases h;exact Km aE k
 ·cases h
theorem agk {rs:List aJ} {qs ps:List aL} (h:lI rs qs= some ps):dD rs ps= true:=by
 unfold lI at h
 split at h
 ·rename_i aE
  cases h
  unfold vX
  split
  ·exact Km aE _
  ·exact aE
 ·cases h
theorem Yk {rs:List aJ} {qs:List aL} (h:dD rs qs= true) {k:Nat} {q:aL} (aZ:qs[k]? =some q):eG q.mover= true:=by
 obtain⟨r,bu⟩:=oA h aZ
 have h1:=zy ((nr h).2.2 k (List.getElem?_eq_some_iff.1 aZ).1) aZ
 rw [wB bu] at h1
 simp only [Bool.and_eq_true] at h1;exact h1.1
theorem Qw {qs:List aL} {mem:Int}:∀{k j:Nat},oD qs mem k= some j→∃q,qs[j]? =some q∧q.mover= mem
 | 0,j,h=>by simp [oD] at h
 | k + 1,j,h=>by
  unfold oD at h
  split at h
  ·rename_i q aZ
   split at h
   ·rename_i hm;cases h;exact⟨q,aZ,by simpa using hm⟩
   ·exact Qw h
  ·exact Qw h
open Go.RowKit Go.G9
def Mc (w:World):Prop:=0 < w.heap.size∧∀(i:Nat) (s:ByteArray),[⟨#[]⟩,(⟨#[109,97,106,111,114,105,116,121]⟩ :ByteArray),(⟨#[116,119,111,45,116,104,105,114,100,115]⟩ :ByteArray),(⟨#[97,108,108]⟩ :ByteArray)][i]? =some s→w.cell? ⟨0,i,none⟩ =some (.string s)
theorem Mc.below {w ag:World} (h:Mc w) (aB:Below w w ag):Mc ag:=by
 obtain⟨cw,aO⟩:=h
 exact⟨Nat.lt_of_lt_of_le cw aB.size,fun i s hi=>(aB.cell (p:=⟨0,i,none⟩) cw).trans (aO i s hi)⟩
open Go.RowKit Go.G9
def mx (rk:Int) (rs:List aJ):Nat→List Int
 | 0=>[]
 | k + 1=>match rs[k]? with | some r=>if rk < r.gG then mx rk rs k ++ [r.id] else mx rk rs k | none=>mx rk rs k
theorem xS (rk:Int) (rs:List aJ):∀k,(mx rk rs k).length≤k
 | 0=>Nat.le_refl _
 | k + 1=>by
  have:=xS rk rs k
  unfold mx
  split
  ·split <;> simp <;> omega
  ·omega
theorem Hg {rk:Int} {rs:List aJ} {k:Nat} {r:aJ} (ay:rs[k]? =some r) (h:rk < r.gG):mx rk rs (k + 1)= mx rk rs k ++ [r.id]:=by simp [mx,ay,h]
theorem JW {rk:Int} {rs:List aJ} {k:Nat} {r:aJ} (ay:rs[k]? =some r) (h:¬rk < r.gG):mx rk rs (k + 1)= mx rk rs k:=by simp [mx,ay,h]
theorem Xy (rk:Int) (rs:List aJ):∀k,k≤rs.length→mx rk rs k= ((rs.take k).filter (fun r=>decide (rk < r.gG))).map (fun r=>r.id)
 | 0,_=>by simp [mx]
 | k + 1,h=>by
  have ay:rs[k]? =some rs[k]:=List.getElem?_eq_getElem (by omega);have eM:=Xy rk rs k (by omega)
  rw [List.take_add_one,ay,Option.toList_some,List.filter_append,List.map_append,← eM]
  by_cases bu:rk < rs[k].gG
  ·rw [Hg ay bu];simp [bu]
  ·rw [JW ay bu];simp [bu]
theorem Xx (rk:Int) (rs:List aJ):mx rk rs rs.length= (rs.filter (fun r=>decide (rk < r.gG))).map (fun r=>r.id):=by
 rw [Xy rk rs _ (Nat.le_refl _),List.take_length]
theorem Xz {rs:List aJ} {qs:List aL} (aO:dD rs qs= true) (h:qs.length= 0):hz rs qs= mx (-1) rs rs.length:=by
 rw [XB h,Xx]
 congr 1
 symm
 rw [List.filter_eq_self]
 intro r bu
 obtain⟨k,az⟩:=List.mem_iff_getElem?.1 bu
 have:=zA (zB (nr aO).1 az)
 simp;omega
theorem XC {rs:List aJ} {qs:List aL} {j:Nat} {q:aL} {t:aJ} (aS:qs.length= j + 1) (aZ:qs[j]? =some q) (bu:hD rs q.fW= some t) (az:kt t q= false) (h6:qs.length≠6):hz rs qs= mx t.gG rs rs.length:=by
 rw [Pn aS aZ bu,az,decide_eq_false h6,Xx];rfl
theorem JX {rs:List aJ} {qs:List aL} {j:Nat} {q:aL} {t:aJ} (aS:qs.length= j + 1) (aZ:qs[j]? =some q) (bu:hD rs q.fW= some t) (az:kt t q= true∨qs.length= 6):hz rs qs= []:=by
 rw [Pn aS aZ bu,if_pos]
 rcases az with h | h
 ·rw [h];rfl
 ·rw [h];simp
theorem ady {p:Prop} (h:p:=by
 have zm:Below w w ca:=(iX.alloc iX.size _).grown gx (by have:=iX.size;simp;omega) (fun q aZ=>(rF.lt q aZ).1)
 go_roundw
 case rel=>exact⟨k + 1,by omega,by go_num,by rw [mh.out];exact fj,zm⟩
 case measure=>simp [intOf];omega):p:=h
theorem QS {p:Prop} (h:p:=by
 have mh:=J cT;clear cT
 go_wp2
 go_roundw
 case rel=>exact⟨k + 1,by omega,by go_num,by rw [mh.out];exact rF,iX⟩
 case measure=>simp [intOf];omega):p:=h
theorem abi {p:Prop} (h:p:=by
 obtain rfl:k= rs.length:=by omega
 obtain⟨Y,gT,rfl,_,_,_⟩:=bP.form fZ
 go_wp2
 go_ret
 rw [cH.out]
 exact⟨Y,gT,rfl,bP,aB⟩):p:=h
theorem abx {p:Prop} (h:p:=by
 rintro e bd ⟨rfl,aB⟩
 go_wp2
 go_ret
 rw [cH.out]
 exact⟨some ⟨w.heap.size,0,none⟩,0,rfl,hJ.later aB,ah oj aB⟩):p:=h
theorem Pm (an:Option Addr) (c0:Nat) (rs:List aJ) (h0:rs.length≤1048576) (ar:Option Addr) (c1:Nat) (qs:List aL) (h1:qs.length≤1048576) (aO:dD rs qs= true) (w:World) (aU:aH 7 aJ.cells w an rs) (aT:aH 3 aL.cells w ar qs):
 Calls Tryz.prog 172 #[.slice an rs c0,.slice ar qs c1] w fun e ag=>∃A c,e= .returned (.slice A (hz rs qs).length c)∧aV w 3 1 bR ag (.slice A (hz rs qs).length c) (hz rs qs)∧Below w w ag:=by
 obtain⟨i0,hi,dy,dC,dN⟩:=info_parts rN
 have ff:=J aU;have hJ:aV w 3 1 bR (w.alloc (.cells #[] 3)) (.slice w.heap.size 0 0) ([]:List Int):=aV.made w (Nat.le_refl _) _;have oj:Below w w (w.alloc (.cells #[] 3)):=bZ w _
 by_cases iA:qs.length= 0
 ·have cH:=J (Xz aO iA)
  have bH:decide ((qs.length:Int) - 1≥0)= false:=by rw [iA];decide
  have aeD:=J iA;clear aU aT
  obtain rfl:=List.length_eq_zero_iff.1 iA
  clear bH iA aeD
  go_in
  go_wp2
  go_loopw [5,37] (fun y i wr=>∃k:Nat,k≤rs.length∧i= .int .i64 k∧aV w 3 1 bR wr y (mx (-1) rs k)∧Below w w wr) (fun _ i _=>rs.length - (intOf i).toNat)
  case atStart=>exact⟨0,Nat.zero_le _,rfl,hJ,oj⟩
  case round=>
   clear hJ oj
   obtain⟨k,az,rfl,bP,aB⟩:=hrel
   by_cases bl:k < rs.length
   ·obtain⟨gJ,gL,x,rfl,dU,ay,bk⟩:=ff.out.at_ aB bl
    have jr:=zA (zB (nr aO).1 ay)
    obtain⟨pX,vB,hb,xs,vz,jv,vA,QE⟩:=x
    have cu:=bk 0 _ rfl;have dI:=bk 1 _ rfl;have dj:=bk 2 _ rfl;have ya:=bk 3 _ rfl;have pO:=bk 4 _ rfl;have vn:=bk 5 _ rfl;have Bi:=bk 6 _ rfl
    simp only [Nat.add_zero] at cu
    have g0:=cu (ax.self _);have g1:=dI (ax.self _);have g2:=dj (ax.self _);have g3:=ya (ax.self _);have g4:=pO (ax.self _);have g5:=vn (ax.self _);have g6:=Bi (ax.self _)
    simp only [ax.self] at g0
    simp only [ax.self] at g1
    simp only [ax.self] at g2
    simp only [ax.self] at g3
    simp only [ax.self] at g4
    simp only [ax.self] at g5
    simp only [ax.self] at g6
    have cb:=J ay;clear ay bk cu dI dj ya pO vn Bi
    go_upto_region 10 with fail
    have rF:=bP.alloc (.cells #[pX,vB,hb,xs,vz,jv,vA] 89);have bm:=aq.new wr 89 #[pX,vB,hb,xs,vz,jv,vA];have iX:=aB.alloc aB.size (.cells #[pX,vB,hb,xs,vz,jv,vA] 89)
    generalize wr.alloc (.cells #[pX,vB,hb,xs,vz,jv,vA] 89)= hF at *
    clear g0 g1 g2 g3 g4 g5 g6 bP;have dd:=(bm.cell 0).trans (show _= some (.int .i64 pX) from rfl);have dT:=(bm.cell 2).trans (show _= some (.int .i64 hb) from rfl)
    by_cases bu:(-1) < hb
    ·have cT:=Hg (rk:=(-1)) cb.out bu
     have mh:=J cT;clear cT
     go_wp2_with ((at_builtin;refine lA rfl _ _ 38 rfl w.heap.size 3 i0 _ 1 8 Tryz.underlying38 hi dy dC dN rfl (by decide) bR fZ pj _ (mx (-1) rs k) rfl (rF.alloc _) ⟨hF.heap.size,0,none⟩ 1 pX rfl (aH.one _ _) (by have:=xS (-1) rs k;unfold maxLen;omega) (by have:=xS (-1) rs k;omega) (by have:=iX.size;simp;omega) ?_;intro v4 ca fj gx lX))
     exact ady
    ·have cT:=JW (rk:=(-1)) cb.out bu
     exact QS
   ·exact abi
 ·obtain⟨j,bH⟩ :∃j,qs.length= j + 1:=⟨qs.length - 1,by omega⟩
  obtain⟨dx,hU,q,rfl,bz,aZ,oq⟩:=aT.at_ (Below.refl _ _) (k:=j) (by omega)
  obtain⟨t,cE⟩:=oA aO aZ
  obtain⟨qr,cg,dw⟩:=q
  have cu:=oq 0 _ rfl;have dI:=oq 1 _ rfl;have dj:=oq 2 _ rfl
  simp only [Nat.add_zero] at cu
  have g0:=cu (ax.self _);have g1:=dI (ax.self _);have g2:=dj (ax.self _)
  simp only [ax.self] at g0
  simp only [ax.self] at g1
  simp only [ax.self] at g2
  have cV:=J aZ;have bX:=J cE;have eH:=J bH;have Io:Hid (aH 3 aL.cells w (some ⟨dx,hU,none⟩) qs):=J aT;clear aZ cE oq cu dI dj aT
  have ie:j≤1048576:=by omega
  rw [bH]
  clear bH iA h1
  cases az:kt t ⟨qr,cg,dw⟩
  case true=>
   have fV:=J az;have cH:=J (JX eH.out cV.out bX.out (Or.inl az));clear az
   go_in
   go_wp2_with fail
   refine (vl an c0 rs h0 ⟨qr,cg,dw⟩ t bX.out true fV.out _ (ff.out.below (bZ _ _))).mono ?_
   exact abx
  case false=>
   have fV:=J az
   by_cases h6:j + 1= 6
   ·obtain rfl:j= 5:=by omega
    have cH:=J (JX eH.out cV.out bX.out (Or.inr eH.out));clear az
    go_in
    go_wp2_with fail
    refine (vl an c0 rs h0 ⟨qr,cg,dw⟩ t bX.out false fV.out _ (ff.out.below (bZ _ _))).mono ?_
    exact abx
   ·have cH:=J (XC eH.out cV.out bX.out az (by have:=eH.out;omega))
    have ahS:((j:Int) + 1 == 6)= false:=beq_eq_false_iff_ne.2 (by omega);clear az
    obtain⟨zF,ir,fh,gS,iq,il,zE,ZY⟩:=t
    go_in
    go_wp2_with fail
    refine (vl an c0 rs h0 ⟨qr,cg,dw⟩ ⟨zF,ir,fh,gS,iq,il,zE,ZY⟩ bX.out false fV.out _ (ff.out.below (bZ _ _))).mono ?_
    rintro e bd ⟨rfl,aB⟩
    replace hJ:=hJ.later aB;replace oj:=ah oj aB
    obtain⟨_,_,y,e9,fS,hy,db⟩:=Io.out.at_ oj (k:=j) (by have:=eH.out;omega)
    cases e9
    obtain rfl:(⟨qr,cg,dw⟩ :aL)= y:=Option.some.inj (cV.out.symm.trans hy)
    clear g0 g1 g2 hy;have cu:=db 0 _ rfl;have dI:=db 1 _ rfl;have dj:=db 2 _ rfl
    simp only [Nat.add_zero] at cu
    have g0:=cu (ax.self _);have g1:=dI (ax.self _);have g2:=dj (ax.self _)
    simp only [ax.self] at g0
    simp only [ax.self] at g1
    simp only [ax.self] at g2
    clear db cu dI dj
    go_wp2_with fail
    refine (rq an c0 rs h0 ⟨qr,cg,dw⟩ ⟨zF,ir,fh,gS,iq,il,zE,ZY⟩ bX.out _ (ff.out.below oj)).mono ?_
    rintro e aM ⟨rfl,aN⟩
    replace hJ:=hJ.later aN;replace oj:=ah oj aN;clear g0 g1 g2
    have hf:=fun W=>(show (Instr.field 89 (.agg #[zF,ir,fh,gS,iq,il,zE]) 2).run Tryz.prog W= .ok (.int .i64 fh) W by kernel_rfl)
    go_wp2
    clear hf
    go_loopw [5,37] (fun y i wr=>∃k:Nat,k≤rs.length∧i= .int .i64 k∧aV w 3 1 bR wr y (mx fh rs k)∧Below w w wr) (fun _ i _=>rs.length - (intOf i).toNat)
    case atStart=>exact⟨0,Nat.zero_le _,rfl,hJ,oj⟩
    case round=>
     clear hJ oj
     obtain⟨k,az,rfl,bP,aB⟩:=hrel
     by_cases bl:k < rs.length
     ·obtain⟨gJ,gL,x,rfl,dU,ay,bk⟩:=ff.out.at_ aB bl
      have jr:=zA (zB (nr aO).1 ay)
      obtain⟨pX,vB,hb,xs,vz,jv,vA,QE⟩:=x
      have cu:=bk 0 _ rfl;have dI:=bk 1 _ rfl;have dj:=bk 2 _ rfl;have ya:=bk 3 _ rfl;have pO:=bk 4 _ rfl;have vn:=bk 5 _ rfl;have Bi:=bk 6 _ rfl
      simp only [Nat.add_zero] at cu
      have g0:=cu (ax.self _);have g1:=dI (ax.self _);have g2:=dj (ax.self _);have g3:=ya (ax.self _);have g4:=pO (ax.self _);have g5:=vn (ax.self _);have g6:=Bi (ax.self _)
      simp only [ax.self] at g0
      simp only [ax.self] at g1
      simp only [ax.self] at g2
      simp only [ax.self] at g3
      simp only [ax.self] at g4
      simp only [ax.self] at g5
      simp only [ax.self] at g6
      have cb:=J ay;clear ay bk cu dI dj ya pO vn Bi
      go_upto_region 10 with fail
      have rF:=bP.alloc (.cells #[pX,vB,hb,xs,vz,jv,vA] 89);have bm:=aq.new wr 89 #[pX,vB,hb,xs,vz,jv,vA];have iX:=aB.alloc aB.size (.cells #[pX,vB,hb,xs,vz,jv,vA] 89)
      generalize wr.alloc (.cells #[pX,vB,hb,xs,vz,jv,vA] 89)= hF at *
      clear g0 g1 g2 g3 g4 g5 g6 bP;have dd:=(bm.cell 0).trans (show _= some (.int .i64 pX) from rfl);have dT:=(bm.cell 2).trans (show _= some (.int .i64 hb) from rfl)
      by_cases bu:fh < hb
      ·have cT:=Hg (rk:=fh) cb.out bu
       have mh:=J cT;clear cT
       go_wp2_with ((at_builtin;refine lA rfl _ _ 38 rfl w.heap.size 3 i0 _ 1 8 Tryz.underlying38 hi dy dC dN rfl (by decide) bR fZ pj _ (mx fh rs k) rfl (rF.alloc _) ⟨hF.heap.size,0,none⟩ 1 pX rfl (aH.one _ _) (by have:=xS fh rs k;unfold maxLen;omega) (by have:=xS fh rs k;omega) (by have:=iX.size;simp;omega) ?_;intro v4 ca fj gx lX))
       exact ady
      ·have cT:=JW (rk:=fh) cb.out bu
       exact QS
     ·exact abi
open Go.RowKit Go.G9
def pM (m:Int) (s:aI):Bool:=s.mem == m
def ev (xs:List aI) (m:Int):aI:=match xs.find? (pM m) with | some s=>s | none=>⟨m,0,0⟩
def oN (af ae:Int) (s:aI):Bool:=decide (s.cZ < af) && decide (s.cQ < ae)
theorem Zx {xs:List aI} {m:Int} (h:xs.find? (pM m)= none):ev xs m=⟨m,0,0⟩:=by simp [ev,h]
theorem Zz {xs:List aI} {m:Int} {s:aI} (h:xs.find? (pM m)= some s):ev xs m= s:=by simp [ev,h]
theorem MU {T:Type} {p:T→Bool}:∀{xs:List T} {k:Nat} {x:T},hH (fun i=>!jm p xs i) k= true→xs[k]? =some x→p x= true→xs.find? p= some x
 | [],k,x,_,h,_=>by simp at h
 | y ::ys,0,x,_,h,aO=>by simp at h;subst h;simp [List.find?_cons,aO]
 | y ::ys,k + 1,x,cT,h,aO=>by
  have h0:=oZ.1 cT 0 (by omega)
  have hy:p y= false:=by simpa [jm] using h0
  rw [List.find?_cons,hy]
  refine MU (k:=k) (oZ.2 fun i hi=>?_) (by simpa using h) aO
  have:=oZ.1 cT (i + 1) (by omega)
  simpa [jm] using this
theorem TZ {T:Type} {p:T→Bool} {xs:List T} (h:hH (fun i=>!jm p xs i) xs.length= true):xs.find? p= none:=by
 rw [List.find?_eq_none]
 intro x ay
 obtain⟨i,hi⟩:=List.mem_iff_getElem?.1 ay
 have:=oZ.1 h i (List.getElem?_eq_some_iff.1 hi).1
 simpa [jm,hi] using this
theorem WI (A:Option Addr) (c:Nat) (xs:List aI) (aY:xs.length≤1048576) (f:FuncId) (qf:Array Value) (CT:∀args W,(callFunc f args).run Tryz.prog W= .ok (.enter f args) W) (p:aI→Bool) (v:Int) (aw:oS p xs= v) (w:World) (bL:aH 3 aI.cells w A xs)
  (hf:∀x,x ∈ xs→∀W,Below w w W→Calls Tryz.prog f (#[.agg #[.int .i64 x.mem,.int .i64 x.cZ,.int .i64 x.cQ]] ++ qf) W fun e ag=>e= .returned (.bool (p x))∧Below W W ag):
 Calls Tryz.prog 271 #[.slice A xs c,.func (.func f) #[] qf] w fun e ag=>e= .returned v∧Below w w ag:=by
 subst aw
 have cB:=J hf;clear hf
 go_in
 go_wp2
 go_loopw [8] (fun i wr=>∃k:Nat,k≤xs.length∧i= .int .i64 k∧hH (fun i=>!jm p xs i) k= true∧Below w w wr) (fun i _=>xs.length - (intOf i).toNat)
 case atStart=>exact⟨0,Nat.zero_le _,rfl,rfl,Below.refl _ _⟩
 case round=>
  obtain⟨k,az,rfl,aS,aB⟩:=hrel
  have cH:=J aS;clear aS
  by_cases bl:k < xs.length
  ·obtain⟨b,off,x,rfl,dU,ay,bk⟩:=bL.at_ aB bl
   have Ej:=J (cB.out x (List.mem_of_getElem? ay))
   obtain⟨sm,st,cn⟩:=x
   have f0:=bk 0 _ rfl;have f1:=bk 1 _ rfl;have f2:=bk 2 _ rfl
   simp only [Nat.add_zero] at f0
   have g0:=f0 (ax.self _);have g1:=f1 (ax.self _);have g2:=f2 (ax.self _)
   simp only [ax.self] at g0
   simp only [ax.self] at g1
   simp only [ax.self] at g2
   have cb:=J ay;clear ay bk
   go_wp2_with fail
   refine (Ej.out _ aB).mono ?_
   rintro e ag ⟨rfl,eW⟩
   cases aO:p ⟨sm,st,cn⟩
   ·exact QT
   ·exact QX
  ·exact KW
theorem ZA (m:Int) (g:Nat) (x:aI) (W:World) (cw:W.cell? ⟨g,0,none⟩ =some (.int .i64 m)) (aS:g < W.heap.size):
 Calls Tryz.prog 272 (#[.agg #[x.mem,x.cZ,x.cQ]] ++ #[.pointer (some ⟨g,0,none⟩)]) W fun e ag=>e= .returned (.bool (x.mem == m))∧Below W W ag:=by
 cases aB:x.mem == m
 all_goals
  have aN:=J aB
  go_in
  go_wp2
  go_ret
  exact⟨rfl,bZ _ _⟩
theorem yi (af ae sp:Int) (W:Option Addr) (wl wc:Nat) (S:Option Addr) (eV:Nat) (U:List aI) (aY:U.length≤1048576) (m:Int) (s:aI) (aX:ev U m= s) (w:World) (bN:aH 3 aI.cells w S U):
 Calls Tryz.prog 201 #[.agg #[af,ae,sp,.slice W wl wc,.slice S U eV],m] w fun e ag=>e= .returned (.agg #[s.mem,s.cZ,s.cQ])∧Below w w ag:=by
 cases sD:U.find? (pM m) with
 | none=>
  obtain rfl:(⟨m,0,0⟩ :aI)= s:=(Zx sD).symm.trans aX
  have hP:=J (Di sD);clear sD aX
  go_in
  go_upto_region 1 with fail
  refine fr fun aF au ai aW ad=>?_
  replace bN:=bN.below au;have I:=au;have aD:=ai.aP;have Bd:=(aW.cell 0).trans (show _= some (.int .i64 m) from rfl);have al:=ad.cC;have dy:=ad.lt
  have cV:Hid (∀x,x ∈ U→∀V,Below aF aF V→Calls Tryz.prog 272 (#[.agg #[.int .i64 x.mem,.int .i64 x.cZ,.int .i64 x.cQ]] ++ #[.pointer (some ⟨w.heap.size + 1,0,none⟩)]) V fun e ag=>e= .returned (.bool (pM m x))∧Below V V ag):=J fun x _ V ic=>ZA m (w.heap.size + 1) x V ((aW.to ic).cell 0) (aW.to ic).lt
  go_wp2_with fail
  refine (WI S eV U aY 272 #[.pointer (some ⟨w.heap.size + 1,0,none⟩)] (Bt Tryz.func272 (by kernel_rfl) (by kernel_rfl)) (pM m) _ hP.out _ (bN.below av) cV.out).mono ?_
  rintro e aM ⟨rfl,aN⟩
  have ao:=be aF aN;replace I:=ah I ao;replace bN:=bN.below ao;replace ai:=ai.to ao;clear aD;have aD:=ai.aP;replace aW:=aW.to ao;replace Bd:=(aW.cell 0).trans (show _= some (.int .i64 m) from rfl);replace ad:=ad.to ao;clear al;have al:=ad.cC;have ep:=ad.og;have BD:=ai.lt;have wR:=aW.lt;have sd:=ad.lt
  go_wp2
  clear aD Bd al
  refine sT 0 fun cS aC=>?_
  replace I:=aC.aE I;replace ai:=aC.dM ai;replace aW:=aC.dM aW;replace ad:=aC.vS ad;have aD:=ai.aP;have Bd:=(aW.cell 0).trans (show _= some (.int .i64 m) from rfl);have al:=ad.cC
  refine bodyPost_ret (v:= .agg #[m,(0:Int),(0:Int)]) (by simp [results,Tryz.results201,go_sem,al]) rfl ?_
  exact⟨rfl,I⟩
 | some t=>
  obtain rfl:t= s:=(Zz sD).symm.trans aX
  obtain⟨k,az,Od⟩:=rL sD
  have bl:k < U.length:=(List.getElem?_eq_some_iff.1 Od).1;have hP:=J az;clear sD aX az
  go_in
  go_upto_region 1 with fail
  refine fr fun aF au ai aW ad=>?_
  replace bN:=bN.below au;have I:=au;have aD:=ai.aP;have Bd:=(aW.cell 0).trans (show _= some (.int .i64 m) from rfl);have al:=ad.cC;have dy:=ad.lt
  have cV:Hid (∀x,x ∈ U→∀V,Below aF aF V→Calls Tryz.prog 272 (#[.agg #[.int .i64 x.mem,.int .i64 x.cZ,.int .i64 x.cQ]] ++ #[.pointer (some ⟨w.heap.size + 1,0,none⟩)]) V fun e ag=>e= .returned (.bool (pM m x))∧Below V V ag):=J fun x _ V ic=>ZA m (w.heap.size + 1) x V ((aW.to ic).cell 0) (aW.to ic).lt
  go_wp2_with fail
  refine (WI S eV U aY 272 #[.pointer (some ⟨w.heap.size + 1,0,none⟩)] (Bt Tryz.func272 (by kernel_rfl) (by kernel_rfl)) (pM m) _ hP.out _ (bN.below av) cV.out).mono ?_
  rintro e aM ⟨rfl,aN⟩
  have ao:=be aF aN;replace I:=ah I ao;replace bN:=bN.below ao;replace ai:=ai.to ao;clear aD;have aD:=ai.aP;replace aW:=aW.to ao;replace Bd:=(aW.cell 0).trans (show _= some (.int .i64 m) from rfl);replace ad:=ad.to ao;clear al;have al:=ad.cC
  obtain⟨b,off,fT,rfl,dU,ay,bk⟩:=bN.at_ (Below.refl _ _) bl
  clear aD;have aD:=ai.aP
  obtain rfl:t= fT:=Option.some.inj (Od.symm.trans ay)
  have cu:=bk 0 _ rfl;have dI:=bk 1 _ rfl;have dj:=bk 2 _ rfl
  simp only [Nat.add_zero] at cu
  have g0:=cu (ax.self _);have g1:=dI (ax.self _);have g2:=dj (ax.self _)
  simp only [ax.self] at g0
  simp only [ax.self] at g1
  simp only [ax.self] at g2
  clear ay bk Od;have ep:=ad.og;have wR:=aW.lt;have sd:=ad.lt;have BD:=ai.lt
  go_wp2
  clear Bd al aD
  refine sT 0 fun cS aC=>?_
  replace I:=aC.aE I;replace aW:=aC.dM aW;replace ad:=aC.vS ad;replace ai:=aC.dM ai;have Bd:=(aW.cell 0).trans (show _= some (.int .i64 m) from rfl);have al:=ad.cC;have aD:=ai.aP
  refine bodyPost_ret (v:= .agg #[t.mem,t.cZ,t.cQ]) (by simp [results,Tryz.results201,go_sem,al]) rfl ?_
  exact⟨rfl,I⟩
theorem vk (af ae sp:Int) (W:Option Addr) (wl wc:Nat) (S:Option Addr) (eV:Nat) (U:List aI) (aY:U.length≤1048576) (m:Int) (s:aI) (aX:ev U m= s) (w:World) (bN:aH 3 aI.cells w S U):
 Calls Tryz.prog 267 #[.agg #[af,ae,sp,.slice W wl wc,.slice S U eV],m] w fun e ag=>e= .returned (.agg #[s.mem,s.cZ,s.cQ])∧Below w w ag:=by
 have eA:=J aX;clear aX
 go_in
 go_upto_region 1 with fail
 refine fm fun aF au ai ad=>?_
 replace bN:=bN.below au;have I:=au;have aD:=ai.aP;have al:=ad.cC;have dy:=ad.lt
 go_wp2
 go_loop [5] (fun i=>∃k:Nat,k≤U.length∧i= .int .i64 k∧hH (fun i=>!jm (pM m) U i) k= true) (fun i=>U.length - (intOf i).toNat)
 case atStart=>exact⟨0,Nat.zero_le _,rfl,rfl⟩
 case round=>
  obtain⟨k,az,rfl,aS⟩:=hrel
  have cH:=J aS;clear aS
  by_cases bl:k < U.length
  ·obtain⟨b,off,t,rfl,dU,ay,bk⟩:=bN.at_ (Below.refl _ _) bl
   clear aD;have aD:=ai.aP;have cu:=bk 0 _ rfl;have dI:=bk 1 _ rfl;have dj:=bk 2 _ rfl
   simp only [Nat.add_zero] at cu
   have g0:=cu (ax.self _);have g1:=dI (ax.self _);have g2:=dj (ax.self _)
   simp only [ax.self] at g0
   simp only [ax.self] at g1
   simp only [ax.self] at g2
   have cb:=J ay;clear ay bk
   cases he:t.mem == m
   ·go_wp2
    go_round
    case rel=>exact⟨k + 1,by omega,by go_num,nz cH.out (by simp [jm,cb.out,pM,he])⟩
    case measure=>simp [intOf];omega
   ·have cX:=J he
    obtain rfl:t= s:=(Zz (MU cH.out cb.out (p:=pM m) cX.out)).symm.trans eA.out
    have ep:=ad.og;have sd:=ad.lt;have BD:=ai.lt
    go_wp2
    clear al aD
    refine sT 0 fun cS aC=>?_
    replace I:=aC.aE I;replace ad:=aC.vS ad;replace ai:=aC.dM ai;have al:=ad.cC;have aD:=ai.aP
    refine bodyPost_ret (v:= .agg #[t.mem,t.cZ,t.cQ]) (by simp [results,Tryz.results267,go_sem,al]) rfl ?_
    exact⟨rfl,I⟩
  ·obtain rfl:k= U.length:=by omega
   obtain rfl:(⟨m,0,0⟩ :aI)= s:=(Zx (TZ cH.out)).symm.trans eA.out
   have ep:=ad.og;have BD:=ai.lt;have sd:=ad.lt
   go_wp2
   clear aD al
   refine sT 0 fun cS aC=>?_
   replace I:=aC.aE I;replace ai:=aC.dM ai;replace ad:=aC.vS ad;have aD:=ai.aP;have al:=ad.cC
   refine bodyPost_ret (v:= .agg #[m,(0:Int),(0:Int)]) (by simp [results,Tryz.results267,go_sem,al]) rfl ?_
   exact⟨rfl,I⟩
theorem acW {p:Prop} (h:p:=by
 rintro e bd ⟨rfl,bz⟩
 have ai:=(aq.new w 41 #[af,ae,sp,.slice W wl wc,.slice S U eV]).below bz (by simp);have f0:=(ai.cell 0).trans (show _= some (.int .i64 af) from rfl);have f1:=(ai.cell 1).trans (show _= some (.int .i64 ae) from rfl);have Uy:=ai.lt
 go_wp2
 go_ret
 exact⟨by simp [oN,h1] <;> omega,ah (ah (bZ _ _) bz) (bZ _ _)⟩):p:=h
theorem AS (af ae sp:Int) (W:Option Addr) (wl wc:Nat) (S:Option Addr) (eV:Nat) (U:List aI) (aY:U.length≤1048576) (m:Int) (v:Bool) (aw:oN af ae (ev U m)= v) (w:World) (bN:aH 3 aI.cells w S U):
 Calls Tryz.prog 200 #[.agg #[af,ae,sp,.slice W wl wc,.slice S U eV],m] w fun e ag=>e= .returned v∧Below w w ag:=by
 subst aw
 obtain⟨s,aX⟩ :∃s,ev U m= s:=⟨_,rfl⟩
 rw [aX]
 have eA:=J aX;clear aX
 obtain⟨sm,st,cn⟩:=s
 by_cases h1:st < af
 ·by_cases h2:cn < ae
  all_goals
   go_in
   go_wp2_with fail
   refine (yi af ae sp W wl wc S eV U aY m _ eA.out _ (bN.below (bZ _ _))).mono ?_
   rintro e bd ⟨rfl,bz⟩
   have ai:=(aq.new w 41 #[af,ae,sp,.slice W wl wc,.slice S U eV]).below bz (by simp);have f0:=(ai.cell 0).trans (show _= some (.int .i64 af) from rfl);have f1:=(ai.cell 1).trans (show _= some (.int .i64 ae) from rfl);have Uy:=ai.lt
   go_wp2
   go_ret
   exact⟨by simp [oN,h1,h2],ah (ah (bZ _ _) bz) (bZ _ _)⟩
 ·go_in
  go_wp2_with fail
  refine (yi af ae sp W wl wc S eV U aY m _ eA.out _ (bN.below (bZ _ _))).mono ?_
  exact acW
theorem AY (af ae sp:Int) (W:Option Addr) (wl wc:Nat) (S:Option Addr) (eV:Nat) (U:List aI) (aY:U.length≤1048576) (m:Int) (v:Bool) (aw:oN af ae (ev U m)= v) (w:World) (bN:aH 3 aI.cells w S U):
 Calls Tryz.prog 266 #[.agg #[af,ae,sp,.slice W wl wc,.slice S U eV],m] w fun e ag=>e= .returned v∧Below w w ag:=by
 subst aw
 obtain⟨s,aX⟩ :∃s,ev U m= s:=⟨_,rfl⟩
 rw [aX]
 have eA:=J aX;clear aX
 obtain⟨sm,st,cn⟩:=s
 by_cases h1:st < af
 ·by_cases h2:cn < ae
  all_goals
   go_in
   go_wp2_with fail
   refine (vk af ae sp W wl wc S eV U aY m _ eA.out _ (bN.below (bZ _ _))).mono ?_
   rintro e bd ⟨rfl,bz⟩
   have ai:=(aq.new w 41 #[af,ae,sp,.slice W wl wc,.slice S U eV]).below bz (by simp);have f0:=(ai.cell 0).trans (show _= some (.int .i64 af) from rfl);have f1:=(ai.cell 1).trans (show _= some (.int .i64 ae) from rfl);have Uy:=ai.lt
   go_wp2
   go_ret
   exact⟨by simp [oN,h1,h2],ah (ah (bZ _ _) bz) (bZ _ _)⟩
 ·go_in
  go_wp2_with fail
  refine (vk af ae sp W wl wc S eV U aY m _ eA.out _ (bN.below (bZ _ _))).mono ?_
  exact acW
open Go.RowKit Go.G9
def kL (af ae:Int) (s:aI):Bool:=eG s.mem && (fc s.cZ 0 af && fc s.cQ 0 ae)
def sb (af ae:Int) (xs:List aI):Nat→Bool
 | 0=>match xs[0]? with | some x=>kL af ae x | none=>true
 | j + 1=>match xs[j]?,xs[j + 1]? with | some y,some x=>kL af ae x && decide (y.mem < x.mem) | _,_=>true
def tT (af ae sp:Int) (ws:List Int) (U:List aI) (i:Nat):Bool:=match ws[i]? with | some m=>eG m && (!(m == sp) && (!hasB (ws.take i) m && oN af ae (ev U m))) | none=>true
def Qh (af sp:Int) (U:List aI):Bool:=(sp == 0) || decide ((ev U sp).cZ < af)
def sS (af ae:Int) (U:List aI):Bool:=hH (sb af ae U) U.length
def gp (af ae sp:Int) (ws:List Int) (U:List aI):Bool:=
 fc af 1 3 && (fc ae 1 3600 && (((sp == 0) || eG sp) && (decide (ws.length≤10) && (sS af ae U && (hH (tT af ae sp ws U) ws.length && Qh af sp U)))))
theorem zC {af ae:Int} {xs:List aI} {x:aI} (ay:xs[0]? =some x):sb af ae xs 0= kL af ae x:=by simp only [sb,ay]
theorem wG {af ae:Int} {xs:List aI} {j:Nat} {x y:aI} (hy:xs[j]? =some y) (ay:xs[j + 1]? =some x):sb af ae xs (j + 1)= (kL af ae x && decide (y.mem < x.mem)):=by simp only [sb,ay,hy]
theorem wN {af ae sp:Int} {ws:List Int} {U:List aI} {i:Nat} {m:Int} (hm:ws[i]? =some m):tT af ae sp ws U i= (eG m && (!(m == sp) && (!hasB (ws.take i) m && oN af ae (ev U m)))):=by simp only [tT,hm]
theorem zD {af ae:Int} {xs:List aI} {k:Nat} (az:k < xs.length) (h:sb af ae xs k= false):sS af ae xs= false:=uy az h
theorem FE {af ae sp:Int} {ws:List Int} {U:List aI} (h:sS af ae U= false):gp af ae sp ws U= false:=by rw [gp,h];simp
theorem yQ {af ae sp:Int} {ws:List Int} {U:List aI} {k:Nat} (az:k < ws.length) (h:tT af ae sp ws U k= false):gp af ae sp ws U= false:=by rw [gp,uy az h];simp
theorem JS (af ae sp:Int) (W:Option Addr) (ws:List Int) (wc:Nat) (S:Option Addr) (eV:Nat) (U:List aI) (hw:ws.length≤1048576) (aY:U.length≤1048576) (v:Bool) (aw:sS af ae U= v) (w:World) (bI:aH 1 bR w W ws) (bN:aH 3 aI.cells w S U):
 Calls Tryz.prog 264 #[.agg #[af,ae,sp,.slice W ws wc,.slice S U eV]] w fun e ag=>e= .returned v∧Below w w ag:=by
 subst aw
 go_in
 have uJ:=J bN
 go_upto_region 1 with fail
 refine cR fun aF au ai=>?_
 replace bN:=bN.below au;have I:=au
 obtain⟨f0,f1,f2,f3,f4⟩:=ai.aP
 go_wp2
 go_loopw [3] (fun i wr=>∃k:Nat,k≤U.length∧i= .int .i64 k∧hH (sb af ae U) k= true∧Below w w wr∧aq wr w.heap.size 41 #[af,ae,sp,.slice W ws wc,.slice S U eV]) (fun i _=>U.length - (intOf i).toNat)
 case atStart=>exact⟨0,Nat.zero_le _,rfl,rfl,I,ai⟩
 case round=>
  clear bN bI I f0 f1 f2 f3 f4 ai
  obtain⟨k,az,rfl,aS,aB,ai⟩:=hrel
  have cH:=J aS;clear aS;have bN:=uJ.out;have au:=be w aB;have I:Below w w wr:=au;replace bN:=bN.below au
  by_cases bl:k < U.length
  ·obtain⟨b,off,x,rfl,dU,ay,bk⟩:=bN.at_ (Below.refl _ _) bl
   obtain⟨dW,iM,xs⟩:=x
   have f4:=(ai.cell 4).trans (show _= some (.slice (some ⟨b,off,none⟩) U eV) from rfl);have cu:=bk 0 _ rfl;have dI:=bk 1 _ rfl;have dj:=bk 2 _ rfl
   simp only [Nat.add_zero] at cu
   have g0:=cu (ax.self _);have g1:=dI (ax.self _);have g2:=dj (ax.self _)
   simp only [ax.self] at g0
   simp only [ax.self] at g1
   simp only [ax.self] at g2
   have cb:=J ay;clear ay bk
   go_upto_region 5 with fail
   clear f4
   refine cR fun aF ao aQ=>?_
   replace bN:=bN.below ao;replace I:=ah I ao;have bF:=aQ.cC;replace ai:=ai.to ao
   obtain⟨f0,f1,f2,f3,f4⟩:=ai.aP
   clear cu dI dj g0 g1 g2
   cases h1:eG dW
   ·have H1:=J h1;clear h1
    clear bF;have bF:=aq.jV (fun K:ax aF.heap.size aF=>(aQ.below K.below aQ.lt));clear f0 f1 f2 f3 f4
    refine ew (by kernel_rfl) (by kernel_rfl) ?_
    repeat (go_big_quiet_step (fail))
    go_big_quiet_step ((go_at_call 162;exact ax.same _ (iG dW _ H1.out _)))
    repeat (go_big_quiet_step (fail))
    refine wpQuiet_nil ?_
    intro K
    go_wp2
    go_ret
    exact⟨ek (zD bl (by cases k with | zero=>(rw [zC cb.out,kL];simp only [H1.out];simp) | succ j=>(have hy:U[j]? =some U[j]:=List.getElem?_eq_getElem (by omega);rw [wG hy cb.out,kL];simp only [H1.out];simp))).symm,ah I K.below⟩
   have H1:=J h1;clear h1
   cases h2:fc iM 0 af
   ·have gd:=J h2;clear h2
    clear bF;have bF:=aq.jV (fun K:ax aF.heap.size aF=>(aQ.below K.below aQ.lt));clear f0 f1 f2 f3 f4
    obtain⟨f0,f1,f2,f3,f4⟩:=aq.kE (fun K:ax aF.heap.size aF=>(ai.below K.below ai.lt))
    refine ew (by kernel_rfl) (by kernel_rfl) ?_
    repeat (go_big_quiet_step (fail))
    go_big_quiet_step ((go_at_call 162;exact ax.same _ (iG dW _ H1.out _)))
    repeat (go_big_quiet_step (fail))
    go_big_quiet_step ((go_at_call 186;exact ax.same _ (jF iM 0 af _ gd.out _)))
    repeat (go_big_quiet_step (fail))
    refine wpQuiet_nil ?_
    intro K
    go_wp2
    go_ret
    exact⟨ek (zD bl (by cases k with | zero=>(rw [zC cb.out,kL];simp only [H1.out,gd.out];simp) | succ j=>(have hy:U[j]? =some U[j]:=List.getElem?_eq_getElem (by omega);rw [wG hy cb.out,kL];simp only [H1.out,gd.out];simp))).symm,ah I K.below⟩
   have gd:=J h2;clear h2
   cases h3:fc xs 0 ae
   ·have hv:=J h3;clear h3
    clear bF;have bF:=aq.jV (fun K:ax aF.heap.size aF=>(aQ.below K.below aQ.lt));clear f0 f1 f2 f3 f4
    obtain⟨f0,f1,f2,f3,f4⟩:=aq.kE (fun K:ax aF.heap.size aF=>(ai.below K.below ai.lt))
    refine ew (by kernel_rfl) (by kernel_rfl) ?_
    repeat (go_big_quiet_step (fail))
    go_big_quiet_step ((go_at_call 162;exact ax.same _ (iG dW _ H1.out _)))
    repeat (go_big_quiet_step (fail))
    go_big_quiet_step ((go_at_call 186;exact ax.same _ (jF iM 0 af _ gd.out _)))
    repeat (go_big_quiet_step (fail))
    go_big_quiet_step ((go_at_call 186;exact ax.same _ (jF xs 0 ae _ hv.out _)))
    repeat (go_big_quiet_step (fail))
    refine wpQuiet_nil ?_
    intro K
    go_wp2
    go_ret
    exact⟨ek (zD bl (by cases k with | zero=>(rw [zC cb.out,kL];simp only [H1.out,gd.out,hv.out];simp) | succ j=>(have hy:U[j]? =some U[j]:=List.getElem?_eq_getElem (by omega);rw [wG hy cb.out,kL];simp only [H1.out,gd.out,hv.out];simp))).symm,ah I K.below⟩
   have hv:=J h3;clear h3;have dq:Hid (kL af ae ⟨dW,iM,xs⟩ =true):=J (by rw [kL];simp only [H1.out,gd.out,hv.out];rfl)
   cases k with
   | zero=>
    clear bF;have bF:=aq.jV (fun K:ax aF.heap.size aF=>(aQ.below K.below aQ.lt));clear f0 f1 f2 f3 f4
    obtain⟨f0,f1,f2,f3,f4⟩:=aq.kE (fun K:ax aF.heap.size aF=>(ai.below K.below ai.lt))
    refine ew (by kernel_rfl) (by kernel_rfl) ?_
    repeat (go_big_quiet_step (fail))
    go_big_quiet_step ((go_at_call 162;exact ax.same _ (iG dW _ H1.out _)))
    repeat (go_big_quiet_step (fail))
    go_big_quiet_step ((go_at_call 186;exact ax.same _ (jF iM 0 af _ gd.out _)))
    repeat (go_big_quiet_step (fail))
    go_big_quiet_step ((go_at_call 186;exact ax.same _ (jF xs 0 ae _ hv.out _)))
    repeat (go_big_quiet_step (fail))
    refine wpQuiet_nil ?_
    intro K
    go_wp2
    go_roundw
    case rel=>exact⟨1,by omega,by go_num,nz cH.out (by rw [zC cb.out];exact dq.out),ah I K.below,ai.below K.below ai.lt⟩
    case measure=>simp [intOf];omega
   | succ j=>
    obtain⟨cL,rT,y,gC,_,hy,db⟩:=bN.at_ (Below.refl _ _) (k:=j) (by omega)
    simp only [Option.some.injEq,Addr.mk.injEq,and_true] at gC
    obtain⟨rfl,rfl⟩:=gC
    obtain⟨oF,px,ys⟩:=y
    have iH:=db 0 _ rfl
    simp only [Nat.add_zero] at iH
    have iv:=J hy;clear hy db
    by_cases zj:oF < dW
    ·have hle:decide (dW≤oF)= false:=decide_eq_false (by omega)
     clear bF;have bF:=aq.jV (fun K:ax aF.heap.size aF=>(aQ.below K.below aQ.lt));clear f0 f1 f2 f3 f4
     obtain⟨f0,f1,f2,f3,f4⟩:=aq.kE (fun K:ax aF.heap.size aF=>(ai.below K.below ai.lt))
     refine ew (by kernel_rfl) (by kernel_rfl) ?_
     repeat (go_big_quiet_step (fail))
     go_big_quiet_step ((go_at_call 162;exact ax.same _ (iG dW _ H1.out _)))
     repeat (go_big_quiet_step (fail))
     go_big_quiet_step ((go_at_call 186;exact ax.same _ (jF iM 0 af _ gd.out _)))
     repeat (go_big_quiet_step (fail))
     go_big_quiet_step ((go_at_call 186;exact ax.same _ (jF xs 0 ae _ hv.out _)))
     repeat (go_big_quiet_step (fail))
     refine wpQuiet_nil ?_
     intro K
     go_wp2
     go_roundw
     case rel=>exact⟨j + 1 + 1,by omega,by go_num,nz cH.out (by rw [wG iv.out cb.out,dq.out,decide_eq_true (show (aI.mem ⟨oF,px,ys⟩) < (aI.mem ⟨dW,iM,xs⟩) from zj)];rfl),ah I K.below,ai.below K.below ai.lt⟩
     case measure=>simp [intOf];omega
    ·have hle:decide (dW≤oF)= true:=decide_eq_true (by omega)
     clear bF;have bF:=aq.jV (fun K:ax aF.heap.size aF=>(aQ.below K.below aQ.lt));clear f0 f1 f2 f3 f4
     obtain⟨f0,f1,f2,f3,f4⟩:=aq.kE (fun K:ax aF.heap.size aF=>(ai.below K.below ai.lt))
     refine ew (by kernel_rfl) (by kernel_rfl) ?_
     repeat (go_big_quiet_step (fail))
     go_big_quiet_step ((go_at_call 162;exact ax.same _ (iG dW _ H1.out _)))
     repeat (go_big_quiet_step (fail))
     go_big_quiet_step ((go_at_call 186;exact ax.same _ (jF iM 0 af _ gd.out _)))
     repeat (go_big_quiet_step (fail))
     go_big_quiet_step ((go_at_call 186;exact ax.same _ (jF xs 0 ae _ hv.out _)))
     repeat (go_big_quiet_step (fail))
     refine wpQuiet_nil ?_
     intro K
     go_wp2
     go_ret
     exact⟨ek (zD bl (by rw [wG iv.out cb.out,dq.out,decide_eq_false (show¬(aI.mem ⟨oF,px,ys⟩) < (aI.mem ⟨dW,iM,xs⟩) from by show¬oF < dW;omega)];rfl)).symm,ah I K.below⟩
  ·obtain⟨f0,f1,f2,f3,f4⟩:=ai.aP
   obtain rfl:k= U.length:=by omega
   go_wp2
   go_ret
   exact⟨ek cH.out.symm,(ah I av)⟩
open Go.RowKit Go.G9
structure ey where
 af:Int
 ae:Int
 sp:Int
 ws:List Int
 U:List aI
def ey.ok (f:ey):Bool:=gp f.af f.ae f.sp f.ws f.U
structure RC (af ae sp:Int) (ws:List Int) (U:List aI):Prop where
 t:1≤af∧af≤3
 s:1≤ae∧ae≤3600
 p:sp= 0∨eG sp= true
 l:ws.length≤10
 ok:∀x,x ∈ U→kL af ae x= true
 ord:U.Pairwise (fun a b=>a.mem < b.mem)
 w:∀m,m ∈ ws→eG m= true∧m≠sp∧oN af ae (ev U m)= true
 ef:ws.Nodup
 k:sp= 0∨(ev U sp).cZ < af
theorem aqp {af ae:Int} {U:List aI}:sS af ae U= true↔(∀x,x ∈ U→kL af ae x= true)∧U.Pairwise (fun a b=>a.mem < b.mem):=by
 unfold sS
 rw [oZ]
 constructor
 ·intro h
  have gf:∀(k:Nat) (x:aI),U[k]? =some x→kL af ae x= true:=by
   intro k x ay
   have az:=(List.getElem?_eq_some_iff.1 ay).1;have aX:=h k az
   cases k with
   | zero=>simpa only [sb,ay] using aX
   | succ j=>
    have hy:U[j]? =some U[j]:=List.getElem?_eq_getElem (by omega)
    simp only [sb,ay,hy,Bool.and_eq_true] at aX
    exact aX.1
  have iS:∀(j:Nat) (y x:aI),U[j]? =some y→U[j + 1]? =some x→y.mem < x.mem:=by
   intro j y x hy ay
   have aX:=h (j + 1) (List.getElem?_eq_some_iff.1 ay).1
   simp only [sb,ay,hy,Bool.and_eq_true,decide_eq_true_eq] at aX
   exact aX.2
  have hm:∀(d j:Nat) (y x:aI),U[j]? =some y→U[j + 1 + d]? =some x→y.mem < x.mem:=by
   intro d
   induction d with
   | zero=>exact iS
   | succ d eM=>
    intro j y x hy ay
    have aS:=(List.getElem?_eq_some_iff.1 ay).1;have cc:U[j + 1 + d]? =some U[j + 1 + d]:=List.getElem?_eq_getElem (by omega);have h1:=eM j y _ hy cc;have h2:=iS (j + 1 + d) _ x cc ay
    omega
  refine⟨fun x ay=>?_,List.pairwise_iff_getElem.2 fun i j hi bH ze=>?_⟩
  ·obtain⟨k,az⟩:=List.mem_iff_getElem?.1 ay
   exact gf k x az
  ·have e:i + 1 + (j - i - 1)= j:=by omega
   exact hm (j - i - 1) i _ _ (List.getElem?_eq_getElem hi) (by rw [e];exact List.getElem?_eq_getElem bH)
 ·rintro ⟨h1,h2⟩ k az
  have ay:U[k]? =some U[k]:=List.getElem?_eq_getElem az
  cases k with
  | zero=>simp only [sb,ay];exact h1 _ (List.getElem_mem _)
  | succ j=>
   have hy:U[j]? =some U[j]:=List.getElem?_eq_getElem (by omega)
   simp only [sb,ay,hy,Bool.and_eq_true,decide_eq_true_eq]
   exact⟨h1 _ (List.getElem_mem _),List.pairwise_iff_getElem.1 h2 j (j + 1) _ _ (by omega)⟩
theorem Jd {af ae sp:Int} {ws:List Int} {U:List aI}:gp af ae sp ws U= true↔RC af ae sp ws U:=by
 unfold gp
 simp only [Bool.and_eq_true,Bool.or_eq_true,beq_iff_eq,decide_eq_true_eq,rM,aqp,oZ,Qh]
 constructor
 ·rintro ⟨h1,h2,h3,h4,⟨h5,h6⟩,h7,h8⟩
  have hw:∀(k:Nat) (m:Int),ws[k]? =some m→eG m= true∧m≠sp∧hasB (ws.take k) m= false∧oN af ae (ev U m)= true:=by
   intro k m hm
   have:=h7 k (List.getElem?_eq_some_iff.1 hm).1
   simpa only [tT,hm,Bool.and_eq_true,Bool.not_eq_true',beq_eq_false_iff_ne] using this
  refine⟨h1,h2,h3,h4,h5,h6,fun m hm=>?_,List.pairwise_iff_getElem.2 fun i j hi bH ze e=>?_,h8⟩
  ·obtain⟨k,az⟩:=List.mem_iff_getElem?.1 hm
   have:=hw k m az
   exact⟨this.1,this.2.1,this.2.2.2⟩
  ·have:=(hw j _ (List.getElem?_eq_getElem bH)).2.2.1
   unfold hasB at this
   rw [List.any_eq_false] at this
   refine this ws[i] (List.mem_iff_getElem.2 ⟨i,by simp;omega,by simp⟩) ?_
   rw [e];simp
 ·rintro ⟨h1,h2,h3,h4,h5,h6,h7,h8,h9⟩
  refine⟨h1,h2,h3,h4,⟨h5,h6⟩,fun k az=>?_,h9⟩
  have ay:ws[k]? =some ws[k]:=List.getElem?_eq_getElem az
  simp only [tT,ay,Bool.and_eq_true,Bool.not_eq_true',beq_eq_false_iff_ne]
  have:=h7 _ (List.getElem_mem az)
  refine⟨this.1,this.2.1,?_,this.2.2⟩
  unfold hasB
  rw [List.any_eq_false]
  intro x ay e
  obtain⟨i,hi,e2⟩:=List.mem_iff_getElem.1 ay
  simp at hi e2 e
  exact List.pairwise_iff_getElem.1 h8 i k (by omega) az (by omega) (e2.trans e)
theorem ln {f:ey}:f.ok= true↔RC f.af f.ae f.sp f.ws f.U:=Jd
def ob (f:ey) (m:Int):Bool:=f.ok && (eG m && (!(m == f.sp) && (!hasB f.ws m && (oN f.af f.ae (ev f.U m) && !decide (f.ws.length= 10)))))
def qF (f:ey) (m:Int):ey:={f with ws:=f.ws ++ [m]}
theorem afk {f:ey} {m:Int} (h:ob f m= true):(qF f m).ok= true:=by
 simp only [ob,Bool.and_eq_true,Bool.not_eq_true',beq_eq_false_iff_ne,decide_eq_false_iff_not] at h
 obtain⟨h0,h1,h2,h3,h4,h5⟩:=h
 have H:=ln.1 h0
 refine ln.2 ⟨H.t,H.s,H.p,?_,H.ok,H.ord,?_,?_,H.k⟩
 ·have:=H.l;simp [qF];omega
 ·intro x ay
  simp only [qF,List.mem_append,List.mem_cons,List.not_mem_nil,or_false] at ay
  rcases ay with ay | rfl
  ·exact H.w x ay
  ·exact⟨h1,h2,h4⟩
 ·simp only [qF]
  refine List.nodup_append.2 ⟨H.ef,by simp,?_⟩
  intro a cT b aB e
  simp at aB
  subst e;subst aB
  unfold hasB at h3
  rw [List.any_eq_false] at h3
  exact h3 _ cT (by simp)
def ku (f:ey):Nat→Nat
 | 0=>0
 | k + 1=>match f.ws[k]?,f.ws[ku f k]? with | some x,some y=>if (ev f.U x).cZ < (ev f.U y).cZ then k else ku f k | _,_=>ku f k
theorem Be (f:ey):∀k,0 < k→ku f k < k
 | 0,h=>absurd h (by omega)
 | k + 1,_=>by
  have eM:ku f k≤k:=by
   cases k with
   | zero=>simp [ku]
   | succ j=>have:=Be f (j + 1) (by omega);omega
  unfold ku
  split
  ·split <;> omega
  ·omega
def sM (f:ey):Option Int:=f.ws[ku f f.ws.length]?
def mT (f:ey):Bool:=f.ok && ((f.sp == 0) && decide (0 < f.ws.length))
def rR (f:ey) (m:Int):ey:={f with sp:=m,ws:=f.ws.filter (fun x=>!(x == m))}
theorem Pv {f:ey} (h:0 < f.ws.length):∃m,sM f= some m∧m ∈ f.ws:=by
 have:=Be f f.ws.length h
 exact⟨f.ws[ku f f.ws.length],List.getElem?_eq_getElem this,List.getElem_mem _⟩
theorem ana {m:Int} (h:eG m= true):m≠0:=by
 have:=rM.1 h
 omega
theorem anx {f:ey} {m:Int} (h:mT f= true) (hm:m ∈ f.ws):(rR f m).ok= true:=by
 simp only [mT,Bool.and_eq_true,beq_iff_eq,decide_eq_true_eq] at h
 obtain⟨h0,h1,h2⟩:=h
 have H:=ln.1 h0;have Ss:=H.w m hm
 refine ln.2 ⟨H.t,H.s,Or.inr Ss.1,?_,H.ok,H.ord,?_,?_,Or.inr ?_⟩
 ·have:=List.length_filter_le (fun x=>!(x == m)) f.ws
  have:=H.l
  simp only [rR]
  omega
 ·intro x ay
  simp only [rR,List.mem_filter,Bool.not_eq_true',beq_eq_false_iff_ne] at ay
  have:=H.w x ay.1
  exact⟨this.1,ay.2,this.2.2⟩
 ·exact H.ef.sublist List.filter_sublist
 ·have:=Ss.2.2
  simp only [oN,Bool.and_eq_true,decide_eq_true_eq] at this
  exact this.1
theorem ahE {xs:List Int} (h:xs.Nodup) {k:Nat} {m:Int} (hm:xs[k]? =some m):xs.filter (fun x=>!(x == m))= xs.take k ++ xs.drop (k + 1):=by
 obtain⟨az,he⟩:=List.getElem?_eq_some_iff.1 hm
 have e:xs= xs.take k ++ m ::xs.drop (k + 1):=by rw [← he,← List.drop_eq_getElem_cons az,List.take_append_drop]
 clear hm he;have aO:=h
 rw [e] at aO
 have nk:=List.nodup_append.1 aO;have pH:=List.nodup_cons.1 nk.2.1
 conv=>lhs;rw [e]
 rw [List.filter_append,List.filter_cons]
 simp only [BEq.rfl,Bool.not_true,Bool.false_eq_true,if_false]
 congr 1
 ·rw [List.filter_eq_self]
  intro a cT
  simp only [Bool.not_eq_true',beq_eq_false_iff_ne]
  exact nk.2.2 a cT _ List.mem_cons_self
 ·rw [List.filter_eq_self]
  intro a cT
  simp only [Bool.not_eq_true',beq_eq_false_iff_ne]
  intro e2;subst e2;exact pH.1 cT
def fa:List aI→aI→List aI
 | [],s=>[s]
 | x ::xs,s=>if x.mem < s.mem then x ::fa xs s else if x.mem= s.mem then s ::xs else s ::x ::xs
theorem Qe:∀(xs:List aI) (s:aI),(fa xs s).length≤xs.length + 1
 | [],s=>by simp [fa]
 | x ::xs,s=>by
  unfold fa
  split
  ·have:=Qe xs s;simp;omega
  ·split <;> simp
theorem Ky:∀{xs:List aI} {s x:aI},x ∈ fa xs s→x= s∨x ∈ xs
 | [],s,x,h=>by simp [fa] at h;exact Or.inl h
 | y ::xs,s,x,h=>by
  unfold fa at h
  split at h
  ·rcases List.mem_cons.1 h with rfl | h
   ·exact Or.inr List.mem_cons_self
   ·rcases Ky h with e | e
    ·exact Or.inl e
    ·exact Or.inr (List.mem_cons_of_mem _ e)
  ·split at h
   ·rcases List.mem_cons.1 h with rfl | h
    ·exact Or.inl rfl
    ·exact Or.inr (List.mem_cons_of_mem _ h)
   ·rcases List.mem_cons.1 h with rfl | h
    ·exact Or.inl rfl
    ·exact Or.inr h
theorem Qf:∀{xs:List aI} {s:aI},xs.Pairwise (fun a b=>a.mem < b.mem)→(fa xs s).Pairwise (fun a b=>a.mem < b.mem)
 | [],s,_=>by simp [fa]
 | y ::xs,s,h=>by
  obtain⟨h1,h2⟩:=List.pairwise_cons.1 h
  unfold fa
  split
  ·next bl=>
   refine List.pairwise_cons.2 ⟨fun a cT=>?_,Qf h2⟩
   rcases Ky cT with rfl | cT
   ·exact bl
   ·exact h1 a cT
  ·split
   ·next bl he=>
    refine List.pairwise_cons.2 ⟨fun a cT=>?_,h2⟩
    rw [← he];exact h1 a cT
   ·next bl he=>
    refine List.pairwise_cons.2 ⟨fun a cT=>?_,h⟩
    rcases List.mem_cons.1 cT with rfl | cT
    ·omega
    ·have:=h1 a cT;omega
theorem DN (x:aI) (xs:List aI) (m:Int):ev (x ::xs) m= if x.mem= m then x else ev xs m:=by
 unfold ev
 rw [List.find?_cons]
 by_cases h:x.mem= m
 ·simp [pM,h]
 ·have:pM m x= false:=by simp [pM,h]
  simp [this,h]
theorem DM:∀{xs:List aI} {s:aI} (m:Int),xs.Pairwise (fun a b=>a.mem < b.mem)→ev (fa xs s) m= if m= s.mem then s else ev xs m
 | [],s,m,_=>by
  simp only [fa,DN]
  by_cases h:s.mem= m
  ·rw [if_pos h,if_pos h.symm]
  ·rw [if_neg h,if_neg (fun e=>h e.symm)]
 | y ::xs,s,m,h=>by
  obtain⟨h1,h2⟩:=List.pairwise_cons.1 h
  unfold fa
  split
  ·next bl=>
   rw [DN,DN,DM m h2]
   by_cases hm:m= s.mem
   ·rw [if_pos hm,if_pos hm,if_neg (by omega)]
   ·rw [if_neg hm,if_neg hm]
  ·split
   ·next bl he=>
    rw [DN,DN]
    by_cases hm:m= s.mem
    ·rw [if_pos hm.symm,if_pos hm]
    ·rw [if_neg (fun e=>hm e.symm),if_neg hm,if_neg (by omega)]
   ·next bl he=>
    rw [DN]
    by_cases hm:m= s.mem
    ·rw [if_pos hm.symm,if_pos hm]
    ·rw [if_neg (fun e=>hm e.symm),if_neg hm]
theorem KA {xs:List aI} {m:Int}:(ev xs m).mem= m:=by
 unfold ev
 cases h:xs.find? (pM m) with
 | none=>rfl
 | some s=>have:=List.find?_some h;simpa [pM] using this
theorem Zy {af ae:Int} {xs:List aI} {m:Int} (h:∀x,x ∈ xs→kL af ae x= true) (cE:0≤af) (aX:0≤ae) (hm:eG m= true):kL af ae (ev xs m)= true:=by
 unfold ev
 cases hf:xs.find? (pM m) with
 | none=>simp [kL,hm,fc,cE,aX]
 | some s=>exact h s (List.mem_of_find?_eq_some hf)
def tY (f:ey):aI:=⟨f.sp,(ev f.U f.sp).cZ + 1,(ev f.U f.sp).cQ⟩
def mZ (f:ey):ey:={f with sp:=0,U:=fa f.U (tY f)}
def mB (f:ey):Bool:=f.ok && !(f.sp == 0)
theorem Dz {f:ey} (h:f.ok= true) (h0:f.sp≠0):eG f.sp= true∧kL f.af f.ae (ev f.U f.sp)= true∧(ev f.U f.sp).cZ < f.af:=by
 have H:=ln.1 h;have aO:eG f.sp= true:=H.p.resolve_left h0;have:=H.t;have:=H.s
 exact⟨aO,Zy H.ok (by omega) (by omega) aO,H.k.resolve_left h0⟩
theorem vr {af ae:Int} {s:aI}:kL af ae s= true↔eG s.mem= true∧(0≤s.cZ∧s.cZ≤af)∧0≤s.cQ∧s.cQ≤ae:=by
 simp [kL,fc]
theorem aav {f:ey} (h:mB f= true):(mZ f).ok= true:=by
 simp only [mB,Bool.and_eq_true,Bool.not_eq_true',beq_eq_false_iff_ne] at h
 obtain⟨h0,h1⟩:=h
 obtain⟨aO,aX,cE⟩:=Dz h0 h1
 have H:=ln.1 h0
 refine ln.2 ⟨H.t,H.s,Or.inl rfl,H.l,?_,Qf H.ord,?_,H.ef,Or.inl rfl⟩
 ·intro x ay
  rcases Ky ay with rfl | ay
  ·have:=vr.1 aX
   exact vr.2 ⟨aO,⟨by simp only [tY];omega,by simp only [tY,mZ];omega⟩,by simp only [tY];omega,by simp only [tY,mZ];omega⟩
  ·exact H.ok x ay
 ·intro m hm
  have:=H.w m hm
  refine⟨this.1,ana this.1,?_⟩
  simp only [mZ]
  rw [DM m H.ord,if_neg (by simp only [tY];exact this.2.1)]
  exact this.2.2
def tM (f:ey) (n:Int):Int:=if n < f.ae - (ev f.U f.sp).cQ then n else f.ae - (ev f.U f.sp).cQ
def sc (f:ey) (n:Int):aI:=⟨f.sp,(ev f.U f.sp).cZ,(ev f.U f.sp).cQ + tM f n⟩
def wI (f:ey) (n:Int):ey:={f with U:=fa f.U (sc f n)}
def jG (f:ey) (n:Int):ey:=if (sc f n).cQ= f.ae then mZ (wI f n) else wI f n
def oB (f:ey) (n:Int):Bool:=f.ok && (!(f.sp == 0) && fc n 1 3600)
theorem HH {f:ey} {n:Int} (h:oB f n= true):f.ok= true∧f.sp≠0∧1≤n∧n≤3600:=by
 simpa only [oB,Bool.and_eq_true,Bool.not_eq_true',beq_eq_false_iff_ne,rM] using h
theorem aqt {f:ey} {n:Int} (h:oB f n= true):(wI f n).ok= true:=by
 obtain⟨h0,h1,h2,h3⟩:=HH h
 obtain⟨aO,aX,cE⟩:=Dz h0 h1
 have H:=ln.1 h0;have az:=vr.1 aX
 have hu:0≤tM f n∧(ev f.U f.sp).cQ + tM f n≤f.ae:=by unfold tM;split <;> omega
 refine ln.2 ⟨H.t,H.s,H.p,H.l,?_,Qf H.ord,?_,H.ef,?_⟩
 ·intro x ay
  rcases Ky ay with rfl | ay
  ·exact vr.2 ⟨aO,⟨by simp only [sc];omega,by simp only [sc,wI];omega⟩,by simp only [sc];omega,by simp only [sc,wI];omega⟩
  ·exact H.ok x ay
 ·intro m hm
  have:=H.w m hm
  refine⟨this.1,this.2.1,?_⟩
  simp only [wI]
  rw [DM m H.ord,if_neg (by simp only [sc];exact this.2.1)]
  exact this.2.2
 ·right
  simp only [wI]
  rw [DM f.sp H.ord,if_pos (show f.sp= (sc f n).mem from rfl)]
  exact cE
theorem aqs {f:ey} {n:Int} (h:oB f n= true):(jG f n).ok= true:=by
 have:=aqt h
 unfold jG
 split
 ·refine aav ?_
  have h1:=(HH h).2.1
  simp only [mB,this,Bool.true_and,Bool.not_eq_true',beq_eq_false_iff_ne]
  exact h1
 ·exact this
theorem DL:∀{xs:List aI} {s:aI} {k:Nat},k≤xs.length→(∀i x,i < k→xs[i]? =some x→x.mem < s.mem)→(∀x,xs[k]? =some x→¬x.mem < s.mem)→
  fa xs s= xs.take k ++ s ::(match xs[k]? with | some x=>if x.mem= s.mem then xs.drop (k + 1) else xs.drop k | none=>[])
 | [],s,k,az,_,_=>by
  have:k= 0:=by simpa using az
  subst this;rfl
 | x ::xs,s,0,_,_,h2=>by
  have:=h2 x rfl
  unfold fa
  rw [if_neg this]
  simp only [List.take_zero,List.nil_append,List.getElem?_cons_zero,List.drop_succ_cons,List.drop_zero]
  split <;> rfl
 | x ::xs,s,k + 1,az,h1,h2=>by
  have ay:=h1 0 x (by omega) rfl
  unfold fa
  rw [if_pos ay,DL (k:=k) (by simpa using az) (fun i y hi hy=>h1 (i + 1) y (by omega) (by simpa using hy)) (fun y hy=>h2 y (by simpa using hy))]
  simp
end Go.Proofs.YtlaaemmmbodaaaaGreatDoor
