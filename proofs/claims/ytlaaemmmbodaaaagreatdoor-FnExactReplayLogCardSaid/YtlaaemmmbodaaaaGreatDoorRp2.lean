/- Parts. -/
import Derived.Test.YtlaaemmmbodaaaaGreatDoorRp1
set_option maxHeartbeats 16000000
set_option maxRecDepth 100000
set_option linter.unnecessarySimpa false
set_option linter.unusedSimpArgs false
set_option linter.unusedVariables false
namespace Go.Proofs.YtlaaemmmbodaaaaGreatDoor
open Go.RowKit Go.G9
theorem HA {T:Type} (p:T→Bool):∀xs:List T,(xs.findIdx? p= none∧xs.find? p= none)∨∃(k:Nat) (x:T),xs.findIdx? p= some k∧xs[k]? =some x∧xs.find? p= some x
 | []=> .inl ⟨rfl,rfl⟩
 | y ::ys=>by
  cases aN:p y
  ·rcases HA p ys with ⟨h1,h2⟩ | ⟨k,x,h1,h2,h3⟩
   ·left;simp [List.findIdx?_cons,aN,h1,h2]
   ·right;exact⟨k + 1,x,by simp [List.findIdx?_cons,aN,h1],by simpa using h2,by simp [aN,h3]⟩
  ·right;exact⟨0,y,by simp [List.findIdx?_cons,aN],rfl,by simp [aN]⟩
theorem qq {T:Type} {p:T→Bool} {xs:List T} {x:T} (h:xs.find? p= some x):∃k:Nat,nz p xs= k∧xs[k]? =some x:=by
 rcases HA p xs with ⟨h1,h2⟩ | ⟨k,y,h1,h2,h3⟩
 ·rw [h2] at h;cases h
 ·rw [h3] at h;cases h;exact⟨k,by simp [nz,h1],h2⟩
theorem Bo {T:Type} {p:T→Bool} {xs:List T} (h:xs.find? p= none):nz p xs= -1:=by
 rcases HA p xs with ⟨h1,h2⟩ | ⟨k,y,h1,h2,h3⟩
 ·simp [nz,h1]
 ·rw [h3] at h;cases h
def hE (rs:List aK) (id:Int):Option aK:=rs.find? (fun r=>r.id == id)
def ey (n:Int):Bool:=eT n 1 99
def jS (r:aK) (q:aQ):Bool:=r.second && !q.sec
theorem iG (n:Int) (v:Bool) (ax:ey n= v) (w:World):Calls Tryz.prog 123 #[n] w fun e ah=>e= .returned v∧ah= w:=by
 go_in
 go_wp2_with (go_at_call 79;refine (iX _ _ _ _ ax _).mono ?_;rintro e ah ⟨rfl,rfl⟩)
 go_ret
 exact⟨rfl,rfl⟩
theorem iy (n:Int) (v:Bool) (ax:ey n= v) (w:World):Calls Tryz.prog 162 #[n] w fun e ah=>e= .returned v∧ah= w:=by
 go_in
 go_wp2_with (go_at_call 186;refine (jq _ _ _ _ ax _).mono ?_;rintro e ah ⟨rfl,rfl⟩)
 go_ret
 exact⟨rfl,rfl⟩
theorem pZ (A:Option Addr) (c:Nat) (rs:List aK) (aY:rs.length≤1048576) (q:aQ) (r:aK) (bp:hE rs q.fR= some r) (w:World) (bn:aS 7 aK.cells w A rs):
 Calls Tryz.prog 69 #[.slice A rs c,.agg #[q.fR,q.mover,q.sec]] w fun e ah=>e= .returned (.agg #[r.id,r.name,r.gD,r.second,r.kZ,r.lK,r.hx])∧Below w w ah:=by
 obtain⟨k,hi,aD⟩:=qq bp
 have bu:k < rs.length:=(List.getElem?_eq_some_iff.1 aD).1;have hT:=J hi;clear hi bp
 go_in
 go_upto_region 1 with fail
 refine fe fun XS au ec U=>?_
 replace bn:=bn.ae au;have I:=au;have ff:=ec.cq;obtain⟨z0,bW,z2,z3,z4,z5,eO⟩:=U.pC
 go_wp2_with fail
 refine (BL A c rs aY q.fR _ hT.out _ (bn.ae az)).mono ?_
 rintro e aJ ⟨rfl,aL⟩
 have al:=be XS aL;replace I:=aj I al;replace bn:=bn.ae al;clear ff;replace U:=U.to al;clear z0 bW z2 z3 z4 z5 eO;obtain⟨z0,bW,z2,z3,z4,z5,eO⟩:=U.pC
 obtain⟨b,off,fX,rfl,ew,aw,bz⟩:=bn.at_ (Below.refl _ _) bu
 obtain rfl:r= fX:=Option.some.inj (aD.symm.trans aw)
 have f0:=bz 0 _ rfl;have f1:=bz 1 _ rfl;have f2:=bz 2 _ rfl;have f3:=bz 3 _ rfl;have f4:=bz 4 _ rfl;have f5:=bz 5 _ rfl;have f6:=bz 6 _ rfl
 simp only [Nat.add_zero] at f0
 have g0:=f0 (ay.self _);have g1:=f1 (ay.self _);have g2:=f2 (ay.self _);have g3:=f3 (ay.self _);have g4:=f4 (ay.self _);have g5:=f5 (ay.self _);have g6:=f6 (ay.self _)
 simp only [ay.self] at g0
 simp only [ay.self] at g1
 simp only [ay.self] at g2
 simp only [ay.self] at g3
 simp only [ay.self] at g4
 simp only [ay.self] at g5
 simp only [ay.self] at g6
 clear aw bz aD;have dM:=U.Dn
 go_wp2
 clear z0 bW z2 z3 z4 z5 eO
 refine Fl 0 fun cD aE=>?_
 replace I:=aE.aH I;replace U:=aE.CS U
 have z0:=U.pC
 exact hD ⟨rfl,I⟩ (by simp [results,Tryz.results69,go_sem,z0])
theorem tI (A:Option Addr) (c:Nat) (rs:List aK) (aY:rs.length≤1048576) (q:aQ) (r:aK) (bp:hE rs q.fR= some r) (v:Bool) (ax:jS r q= v) (w:World) (bn:aS 7 aK.cells w A rs):
 Calls Tryz.prog 198 #[.slice A rs c,.agg #[q.fR,q.mover,q.sec]] w fun e ah=>e= .returned v∧Below w w ah:=by
 subst ax
 obtain⟨qr,cb,qs⟩:=q
 obtain⟨id,nm,rk,af,fs,am,dX,aV⟩:=r
 go_in
 go_wp2_with fail
 refine (pZ A c rs aY ⟨qr,cb,qs⟩ ⟨id,nm,rk,af,fs,am,dX,aV⟩ bp _ (bn.ae (bT _ _))).mono ?_
 rintro e bh ⟨rfl,br⟩
 have ec:=(aB.new w 115 #[qr,cb,qs]).ae br (by simp);have gv:=(ec.cell 2).trans (show _= some (.bool qs) from rfl);clear bp
 have ri:∀W:World,(Instr.field 89 (.agg #[id,nm,rk,af,fs,am,dX]) 3).run Tryz.prog W= .ok (.bool af) W:=fun _=>by kernel_rfl
 cases af <;> cases qs
 all_goals
  go_wp2
  go_ret
  exact⟨by simp [jS],aj (bT _ _) br⟩
theorem oC (A:Option Addr) (c:Nat) (rs:List aK) (aY:rs.length≤1048576) (q:aQ) (r:aK) (bp:hE rs q.fR= some r) (v:Bool) (ax:jS r q= v) (w:World) (bn:aS 7 aK.cells w A rs):
 Calls Tryz.prog 163 #[.slice A rs c,.agg #[q.fR,q.mover,q.sec]] w fun e ah=>e= .returned v∧Below w w ah:=by
 subst ax
 obtain⟨k,hi,aD⟩:=qq bp
 have bu:k < rs.length:=(List.getElem?_eq_some_iff.1 aD).1;have hT:=J hi;clear hi bp
 obtain⟨b,off,fX,rfl,ew,aw,bz⟩:=bn.at_ (bT w (.cells #[q.fR,q.mover,q.sec] 115)) bu
 obtain rfl:r= fX:=Option.some.inj (aD.symm.trans aw)
 obtain⟨qr,cb,qs⟩:=q
 obtain⟨id,nm,rk,af,fs,am,dX,aV⟩:=r
 have g3:=bz 3 _ rfl (ay.self _)
 simp only [ay.self] at g3
 clear bz aw
 cases af <;> cases qs
 all_goals
  go_in
  go_wp2_with fail
  refine (tG _ c rs aY qr _ hT.out _ (bn.ae (bT _ _))).mono ?_
  rintro e bh ⟨rfl,rfl⟩
  go_wp2
  go_ret
  exact⟨by simp [jS],bT _ _⟩
theorem By (A:Option Addr) (c:Nat) (rs:List aK) (aY:rs.length≤1048576) (q:aQ) (r:aK) (bp:hE rs q.fR= some r) (w:World) (bn:aS 7 aK.cells w A rs):
 Calls Tryz.prog 164 #[.slice A rs c,.agg #[q.fR,q.mover,q.sec]] w fun e ah=>e= .returned r.gD∧Below w w ah:=by
 obtain⟨k,hi,aD⟩:=qq bp
 have bu:k < rs.length:=(List.getElem?_eq_some_iff.1 aD).1;have hT:=J hi;clear hi bp
 obtain⟨b,off,fX,rfl,ew,aw,bz⟩:=bn.at_ (bT w (.cells #[q.fR,q.mover,q.sec] 115)) bu
 obtain rfl:r= fX:=Option.some.inj (aD.symm.trans aw)
 obtain⟨qr,cb,qs⟩:=q
 obtain⟨id,nm,rk,af,fs,am,dX,aV⟩:=r
 have g2:=bz 2 _ rfl (ay.self _)
 simp only [ay.self] at g2
 clear bz aw
 go_in
 go_wp2_with fail
 refine (tG _ c rs aY qr _ hT.out _ (bn.ae (bT _ _))).mono ?_
 rintro e bh ⟨rfl,rfl⟩
 go_wp2
 go_ret
 exact⟨rfl,bT _ _⟩
theorem zv (A:Option Addr) (c:Nat) (xs:List aK) (aY:xs.length≤1048576) (v:Bool) (ax:js xs= v) (w:World) (bn:aS 7 aK.cells w A xs):
 Calls Tryz.prog 135 #[.slice A xs c] w fun e ah=>e= .returned v∧Below w w ah:=by
 subst ax
 go_in
 go_wp2
 go_loopw [3,4] (fun i _ wr=>∃k:Nat,k≤xs.length∧k≤9∧i= .int .i64 k∧gy (qE xs) k= true∧Below w w wr) (fun i _ _=>xs.length - (intOf i).toNat)
 case atStart=>exact⟨0,Nat.zero_le _,by omega,rfl,rfl,Below.refl _ _⟩
 case round=>
  obtain⟨k,aD,apW,rfl,aT,aF⟩:=hrel
  have cB:=J aT;clear aT
  by_cases bu:k < xs.length
  ·by_cases h9:k≤8
   ·obtain⟨b,off,x,sZ,ew,aw,bz⟩:=bn.at_ aF bu
    have Li:=bn.ae aF
    subst sZ
    obtain⟨id,nm,rk,af,fs,am,dX,aV⟩:=x
    cases k with
    | zero=>
     have f0:=bz 0 _ rfl;have f1:=bz 1 _ rfl;have f2:=bz 2 _ rfl;have f3:=bz 3 _ rfl;have f4:=bz 4 _ rfl;have f5:=bz 5 _ rfl;have f6:=bz 6 _ rfl
     simp only [Nat.zero_mul,Nat.add_zero] at f0
     simp only [Nat.zero_mul] at f1
     simp only [Nat.zero_mul] at f2
     simp only [Nat.zero_mul] at f3
     simp only [Nat.zero_mul] at f4
     simp only [Nat.zero_mul] at f5
     simp only [Nat.zero_mul] at f6
     have g0:=f0 (ay.self _);have g1:=f1 (ay.self _);have g2:=f2 (ay.self _);have g3:=f3 (ay.self _);have g4:=f4 (ay.self _);have g5:=f5 (ay.self _);have g6:=f6 (ay.self _)
     simp only [ay.self] at g0
     simp only [ay.self] at g1
     simp only [ay.self] at g2
     simp only [ay.self] at g3
     simp only [ay.self] at g4
     simp only [ay.self] at g5
     simp only [ay.self] at g6
     have cc:=J aw;clear aw bz
     cases ax:qD ⟨id,nm,rk,af,fs,am,dX,aV⟩
     all_goals
      have bo:=J ax
      go_wp2
      refine eK (by kernel_rfl) (by kernel_rfl) ?_
      repeat (go_big_quiet_step ((go_at_call 215;exact ay.call _ (Nat.le_refl _) (HH ⟨id,nm,rk,af,fs,am,dX,aV⟩ _ bo.out _))))
      refine wpQuiet_nil ?_
      intro K
      go_wp2
     ·go_ret
      exact⟨ed (by rw [js,sQ bu (by simp [qE,cc.out,ax])];rfl),aj aF K.ae⟩
     ·go_loopw [4] (fun j Fy=>j= .int .i64 0∧Below w w Fy) (fun _ _=>0)
      case atStart=>exact⟨rfl,aj aF K.ae⟩
      case round=>
       obtain⟨rfl,aL⟩:=hrel
       go_wp2
       go_roundw
       case rel=>exact⟨1,by omega,by omega,by go_num,mv cB.out (by simp [qE,cc.out,ax]),aL⟩
       case measure=>simp [intOf];omega
    | succ j=>
     obtain⟨dc,uK,y,gz,_,hy,cX⟩:=bn.at_ aF (k:=j) (by omega)
     simp only [Option.some.injEq,Addr.mk.injEq,and_true] at gz
     obtain⟨rfl,rfl⟩:=gz
     obtain⟨sF,BW,BZ,ys,xT,ni,BX,BY⟩:=y
     have f0:=bz 0 _ rfl;have f1:=bz 1 _ rfl;have f2:=bz 2 _ rfl;have f3:=bz 3 _ rfl;have f4:=bz 4 _ rfl;have f5:=bz 5 _ rfl;have f6:=bz 6 _ rfl
     simp only [Nat.add_zero] at f0
     have g0:=f0 (ay.self _);have g1:=f1 (ay.self _);have g2:=f2 (ay.self _);have g3:=f3 (ay.self _);have g4:=f4 (ay.self _);have g5:=f5 (ay.self _);have g6:=f6 (ay.self _)
     simp only [ay.self] at g0
     simp only [ay.self] at g1
     simp only [ay.self] at g2
     simp only [ay.self] at g3
     simp only [ay.self] at g4
     simp only [ay.self] at g5
     simp only [ay.self] at g6
     have kE:=cX 0 _ rfl
     simp only [Nat.add_zero] at kE
     have cc:=J aw;clear aw bz;have gQ:=J hy;clear hy cX
     cases ax:qD ⟨id,nm,rk,af,fs,am,dX,aV⟩
     ·have bo:=J ax
      go_wp2
      refine eK (by kernel_rfl) (by kernel_rfl) ?_
      repeat (go_big_quiet_step ((go_at_call 215;exact ay.call _ (Nat.le_refl _) (HH ⟨id,nm,rk,af,fs,am,dX,aV⟩ _ bo.out _))))
      refine wpQuiet_nil ?_
      intro K
      go_wp2
      go_ret
      exact⟨ed (by rw [js,sQ bu (by rw [zS cc.out gQ.out,ax];rfl)];rfl),aj aF K.ae⟩
     ·have bo:=J ax
      by_cases hid:sF < id
      ·have hle:decide (id≤sF)= false:=decide_eq_false (by omega)
       go_wp2
       refine eK (by kernel_rfl) (by kernel_rfl) ?_
       repeat (go_big_quiet_step ((go_at_call 215;exact ay.call _ (Nat.le_refl _) (HH ⟨id,nm,rk,af,fs,am,dX,aV⟩ _ bo.out _))))
       refine wpQuiet_nil ?_
       intro K
       go_wp2
       go_loopw [4] (fun i Fy=>∃m:Nat,m≤j + 1∧i= .int .i64 m∧gy (fun i=>!jb (fun z:aK=>z.name.toList == nm.toList) xs i) m= true∧Below w w Fy) (fun i _=>j + 1 - (intOf i).toNat)
       case atStart=>exact⟨0,by omega,rfl,rfl,aj aF K.ae⟩
       case round=>
        clear f0 f1 f2 f3 f4 f5 f6 g0 g1 g2 g3 g4 g5 g6 kE
        obtain⟨m,hm,rfl,jo,aL⟩:=hrel
        have FP:=J jo;clear jo
        by_cases ny:m < j + 1
        ·obtain⟨fa,aqw,z,e3,_,ck,oW⟩:=bn.at_ aL (k:=m) (by omega)
         simp only [Option.some.injEq,Addr.mk.injEq,and_true] at e3
         obtain⟨rfl,rfl⟩:=e3
         obtain⟨fZ,aqx,eh,e4,_,Hr,SD⟩:=bn.at_ aL (k:=j + 1) (by omega)
         simp only [Option.some.injEq,Addr.mk.injEq,and_true] at e4
         obtain⟨rfl,rfl⟩:=e4
         obtain rfl:_= eh:=Option.some.inj (cc.out.symm.trans Hr)
         have dq:=oW 1 _ rfl;have q1:=SD 1 _ rfl;have bg:=J ck;clear ck oW SD Hr
         cases bJ:(z.name.toList == nm.toList)
         all_goals
          have fz:=J bJ
          go_wp2
          refine eK (by kernel_rfl) (by kernel_rfl) ?_
          repeat (go_big_quiet_step (fail))
          refine wpQuiet_nil ?_
          intro fT
          go_wp2
         ·go_roundw
          case rel=>exact⟨m + 1,by omega,by go_num,mv FP.out (by simp [jb,bg.out,fz.out]),aj aL fT.ae⟩
          case measure=>simp [intOf];omega
         ·go_ret
          exact⟨ed (by rw [js,sQ bu (by rw [zS cc.out gQ.out,adb ny bg.out fz.out,ax];simp)];rfl),aj aL fT.ae⟩
        ·obtain rfl:m= j + 1:=by omega
         go_wp2
         go_roundw
         case rel=>exact⟨j + 1 + 1,by omega,by omega,by go_num,mv cB.out (by rw [zS cc.out gQ.out,ax,ada FP.out,decide_eq_true (show (aK.id ⟨sF,BW,BZ,ys,xT,ni,BX,BY⟩) < (aK.id ⟨id,nm,rk,af,fs,am,dX,aV⟩) from hid)];rfl),aL⟩
         case measure=>simp [intOf];omega
      ·go_wp2
       refine eK (by kernel_rfl) (by kernel_rfl) ?_
       repeat (go_big_quiet_step ((go_at_call 215;exact ay.call _ (Nat.le_refl _) (HH ⟨id,nm,rk,af,fs,am,dX,aV⟩ _ bo.out _))))
       refine wpQuiet_nil ?_
       intro K
       go_wp2
       go_ret
       exact⟨ed (by rw [js,sQ bu (by rw [zS cc.out gQ.out,ax,decide_eq_false (show¬(aK.id ⟨sF,BW,BZ,ys,xT,ni,BX,BY⟩) < (aK.id ⟨id,nm,rk,af,fs,am,dX,aV⟩) from by show¬(sF < id);omega)];rfl)];rfl),aj aF K.ae⟩
   ·have h8:decide (xs.length≤8)= false:=decide_eq_false (by omega)
    go_wp2
    go_ret
    exact⟨ed (by rw [js,h8,Bool.and_false];exact decide_eq_false (by omega)),aF⟩
  ·exact Zr
open Go.RowKit Go.G9
def oG (rs:List aK) (q:aQ):Bool:=match hE rs q.fR with | some r=>ey q.mover && !(q.sec && !r.second) | none=>false
def BE (rs:List aK) (p q:aQ):Bool:=match hE rs p.fR,hE rs q.fR with | some t,some r=>!jS t p && decide (t.gD < r.gD) | _,_=>false
def oH (rs:List aK) (qs:List aQ):Nat→Bool
 | 0=>match qs[0]? with | some q=>oG rs q | none=>true
 | j + 1=>match qs[j]?,qs[j + 1]? with | some p,some q=>oG rs q && BE rs p q | _,_=>true
def dt (rs:List aK) (qs:List aQ):Bool:=js rs && (decide (qs.length≤6) && gy (oH rs qs) qs.length)
theorem wu {rs:List aK} {qs:List aQ} {j:Nat} {p q:aQ} (aN:qs[j]? =some p) (bj:qs[j + 1]? =some q):oH rs qs (j + 1)= (oG rs q && BE rs p q):=by simp only [oH,aN,bj]
theorem Il {rs:List aK} {qs:List aQ} {q:aQ} (bj:qs[0]? =some q):oH rs qs 0= oG rs q:=by simp only [oH,bj]
theorem EZ {rs:List aK} {q:aQ} (h:oG rs q= true):∃r,hE rs q.fR= some r:=by
 unfold oG at h
 split at h
 ·rename_i r bp;exact⟨r,bp⟩
 ·cases h
theorem xG {rs:List aK} {qs:List aQ} {k:Nat} {q:aQ} (h:oH rs qs k= true) (bj:qs[k]? =some q):oG rs q= true:=by
 cases k with
 | zero=>rw [Il bj] at h;exact h
 | succ j=>
  have bu:=(List.getElem?_eq_some_iff.1 bj).1;have aN:qs[j]? =some qs[j]:=List.getElem?_eq_getElem (by omega)
  rw [wu aN bj,Bool.and_eq_true] at h;exact h.1
theorem NC {rs:List aK} {qs:List aQ} {k:Nat} {q:aQ} (bj:qs[k]? =some q) (h:oG rs q= false):oH rs qs k= false:=by
 cases aH:oH rs qs k with
 | false=>rfl
 | true=>rw [xG aH bj] at h;cases h
theorem akE {rs:List aK} {q:aQ} (h:hE rs q.fR= none):oG rs q= false:=by simp [oG,h]
theorem uN {rs:List aK} {q:aQ} {r:aK} (h:hE rs q.fR= some r):oG rs q= (ey q.mover && !(q.sec && !r.second)):=by simp [oG,h]
theorem tK {rs:List aK} {p q:aQ} {t r:aK} (h:hE rs p.fR= some t) (h2:hE rs q.fR= some r):BE rs p q= (!jS t p && decide (t.gD < r.gD)):=by simp [BE,h,h2]
theorem nd {rs:List aK} {qs:List aQ} (h:dt rs qs= true) {k:Nat} {q:aQ} (bj:qs[k]? =some q):∃r,hE rs q.fR= some r:=by
 simp only [dt,Bool.and_eq_true] at h
 exact EZ (xG (lJ.1 h.2.2 k (List.getElem?_eq_some_iff.1 bj).1) bj)
theorem zH {rs:List aK} {qs:List aQ} {k:Nat} (aD:k < qs.length) (h:oH rs qs k= false):dt rs qs= false:=by rw [dt,sQ aD h];simp
theorem YQ {p:Prop} (h:p:=by
 rintro e bh ⟨rfl,br⟩
 have au:=be w br;have I:Below w w bh:=au
 go_wp2
 go_ret
 exact⟨ed (by simp [dt,bp]),(aj I az)⟩):p:=h
theorem YE {p:Prop} (h:p:=by
 rintro e bh ⟨rfl,br⟩
 have au:=be w br;have I:Below w w bh:=au
 go_wp2
 go_ret
 exact⟨ed (by rw [dt,decide_eq_false LZ];simp),(aj I az)⟩):p:=h
theorem Zg {p:Prop} (h:p:=by
 go_wp2
 go_ret
 exact⟨ed (zH bu (NC cc.out (akE (q:=⟨qr,cb,qA⟩) cC.out))).symm,(aj I az)⟩):p:=h
theorem YM {p:Prop} (h:p:=by
 go_wp2
 go_ret
 exact⟨ed (zH bu (NC cc.out (by rw [uN (q:=⟨qr,cb,qA⟩) cC.out];simp only [dP.out];rfl))).symm,(aj I az)⟩):p:=h
theorem YG {p:Prop} (h:p:=by
 go_wp2
 go_roundw
 case rel=>exact⟨1,by omega,by go_num,mv cB.out (by rw [Il cc.out];exact sK.out),(aj I az)⟩
 case measure=>simp [intOf];omega):p:=h
theorem aaD {p:Prop} (h:p:=by
 repeat (go_big_quiet_step (fail))
 refine wpQuiet_nil ?_
 intro K
 go_wp2
 go_roundw
 case rel=>exact⟨j + 1 + 1,by omega,by go_num,mv cB.out (by rw [wu gQ.out cc.out,sK.out,tK bO.out cC.out,ft.out,decide_eq_true (show (aK.gD ⟨tid,il,eX,gU,ik,ij,jL,tok⟩) < (aK.gD ⟨id,nm,rk,af,fs,am,dX,aV⟩) from Er)];rfl),aj I K.ae⟩
 case measure=>simp [intOf];omega):p:=h
theorem aaQ {p:Prop} (h:p:=by
 repeat (go_big_quiet_step (fail))
 refine wpQuiet_nil ?_
 intro K
 go_wp2
 go_ret
 exact⟨ed (zH bu (by rw [wu gQ.out cc.out,sK.out,tK bO.out cC.out,ft.out,decide_eq_false (show¬(aK.gD ⟨tid,il,eX,gU,ik,ij,jL,tok⟩) < (aK.gD ⟨id,nm,rk,af,fs,am,dX,aV⟩) from by show¬eX < rk;omega)];rfl)).symm,aj I K.ae⟩):p:=h
theorem aam {p:Prop} (h:p:=by
 have ft:=J nx;clear nx;clear bF
 refine eK (by kernel_rfl) (by kernel_rfl) ?_
 repeat (go_big_quiet_step (fail))
 go_big_quiet_step ((go_at_call 198;exact ay.call _ (by first | exact Nat.le_refl _ | omega) (tI A c rs aY ⟨ll,pm,ho⟩ ⟨tid,il,eX,gU,ik,ij,jL,tok⟩ bO.out _ ft.out _ (jj.out.ae (ay.ae _)))))
 repeat (go_big_quiet_step (fail))
 refine wpQuiet_nil ?_
 intro K
 go_wp2
 go_ret
 exact⟨ed (zH bu (by rw [wu gQ.out cc.out,sK.out,tK bO.out cC.out,ft.out];rfl)).symm,aj I K.ae⟩):p:=h
theorem YJ {p:Prop} (h:p:=by
 go_wp2
 go_ret
 exact⟨ed (zH bu (NC cc.out (by rw [uN (q:=⟨qr,cb,true⟩) cC.out];simp only [dP.out];rfl))).symm,(aj I az)⟩):p:=h
theorem aaC {p:Prop} (h:p:=by
 repeat (go_big_quiet_step (fail))
 refine wpQuiet_nil ?_
 intro K
 go_wp2
 go_roundw
 case rel=>exact⟨j + 1 + 1,by omega,by go_num,mv cB.out (by rw [wu gQ.out cc.out,sK.out,tK bO.out cC.out,ft.out,decide_eq_true (show (aK.gD ⟨tid,il,eX,gU,ik,ij,jL,tok⟩) < (aK.gD ⟨id,nm,rk,true,fs,am,dX,aV⟩) from Er)];rfl),aj I K.ae⟩
 case measure=>simp [intOf];omega):p:=h
theorem aaP {p:Prop} (h:p:=by
 repeat (go_big_quiet_step (fail))
 refine wpQuiet_nil ?_
 intro K
 go_wp2
 go_ret
 exact⟨ed (zH bu (by rw [wu gQ.out cc.out,sK.out,tK bO.out cC.out,ft.out,decide_eq_false (show¬(aK.gD ⟨tid,il,eX,gU,ik,ij,jL,tok⟩) < (aK.gD ⟨id,nm,rk,true,fs,am,dX,aV⟩) from by show¬eX < rk;omega)];rfl)).symm,aj I K.ae⟩):p:=h
theorem YZ {p:Prop} (h:p:=by
 obtain rfl:k= qs.length:=by omega
 go_wp2
 go_ret
 exact⟨ed (by rw [dt,bC.out,decide_eq_true LZ,cB.out];rfl),(aj I az)⟩):p:=h
theorem mx (A:Option Addr) (c:Nat) (rs:List aK) (aY:rs.length≤1048576) (aH:rs.length≤c) (B:Option Addr) (d:Nat) (qs:List aQ) (bj:qs.length≤1048576) (v:Bool) (ax:dt rs qs= v) (w:World) (bn:aS 7 aK.cells w A rs) (ec:aS 3 aQ.cells w B qs):
 Calls Tryz.prog 118 #[.slice A rs c,.slice B qs d] w fun e ah=>e= .returned v∧Below w w ah:=by
 subst ax
 cases bp:js rs
 ·have bC:=J bp
  go_in
  go_wp2_with fail
  refine (zp A c rs aY aH _ bC.out _ (bn.ae az)).mono ?_
  exact YQ
 by_cases LZ:qs.length≤6
 case neg=>
  have bC:=J bp
  go_in
  go_wp2_with fail
  refine (zp A c rs aY aH _ bC.out _ (bn.ae az)).mono ?_
  exact YE
 have bC:=J bp
 go_in
 have nP:=J bn;have Lg:=J ec
 go_wp2_with fail
 refine (zp A c rs aY aH _ bC.out _ (bn.ae az)).mono ?_
 rintro e bh ⟨rfl,br⟩
 have au:=be w br;have I:Below w w bh:=au;replace bn:=bn.ae au;replace ec:=ec.ae au
 go_wp2
 go_loopw [17] (fun i wr=>∃k:Nat,k≤qs.length∧i= .int .i64 k∧gy (oH rs qs) k= true∧Below w w wr) (fun i _=>qs.length - (intOf i).toNat)
 case atStart=>exact⟨0,Nat.zero_le _,rfl,rfl,I⟩
 case round=>
  obtain⟨k,aD,rfl,aT,aF⟩:=hrel
  have cB:=J aT;clear aT bn ec I;have bn:=nP.out;have ec:=Lg.out;have au:=be w aF;have I:Below w w wr:=au;replace bn:=bn.ae au;replace ec:=ec.ae au
  by_cases bu:k < qs.length
  ·obtain⟨b,off,q,rfl,ew,aw,bz⟩:=ec.at_ (Below.refl _ _) bu
   obtain⟨qr,cb,qA⟩:=q
   have f0:=bz 0 _ rfl;have f1:=bz 1 _ rfl;have f2:=bz 2 _ rfl
   simp only [Nat.add_zero] at f0
   have g0:=f0 (ay.self _);have g1:=f1 (ay.self _);have g2:=f2 (ay.self _)
   simp only [ay.self] at g0
   simp only [ay.self] at g1
   simp only [ay.self] at g2
   have cc:=J aw;clear aw bz
   go_upto_region 6 with fail
   refine cF fun aG al aR=>?_
   replace bn:=bn.ae al;replace ec:=ec.ae al;replace I:=aj I al;have bF:=aR.cq;clear f0 f1 f2 g0 g1 g2
   cases hf:hE rs qr with
   | none=>
    have cC:=J hf;clear hf
    go_wp2_with fail
    refine (BL A c rs aY qr _ (Bo cC.out) _ (bn.ae az)).mono ?_
    rintro e bB ⟨rfl,bx⟩
    have aP:=be aG bx;replace I:=aj I aP;clear bF
    exact Zg
   | some r=>
    have cC:=J hf;clear hf
    obtain⟨m,hm,ts⟩:=qq cC.out
    have Ag:=J hm;clear hm ts
    obtain⟨id,nm,rk,af,fs,am,dX,aV⟩:=r
    go_wp2_with fail
    refine (BL A c rs aY qr _ Ag.out _ (bn.ae az)).mono ?_
    rintro e bB ⟨rfl,bx⟩
    have aP:=be aG bx;replace I:=aj I aP;replace bn:=bn.ae aP;replace ec:=ec.ae aP;replace aR:=aR.to aP;clear bF;have bF:=aR.cq
    cases kl:ey cb
    ·have dP:=J kl;clear kl
     go_wp2_with fail
     refine (iG cb _ dP.out _).mono ?_
     rintro e w0 ⟨rfl,h0⟩
     rw [h0]
     clear h0 w0
     exact YM
    ·have dP:=J kl;clear kl
     cases qA
     ·clear bF
      have bF:=aR.cq
      go_wp2_with fail
      refine (iG cb _ dP.out _).mono ?_
      rintro e w0 ⟨rfl,h0⟩
      rw [h0]
      clear h0 w0
      go_upto_region 8 with fail
      have sK:Hid (oG rs ⟨qr,cb,false⟩ =true):=J (by rw [uN (q:=⟨qr,cb,false⟩) cC.out];simp only [dP.out];rfl)
      cases k with
      | zero=>
       clear bF
       refine eK (by kernel_rfl) (by kernel_rfl) ?_
       repeat (go_big_quiet_step ((fail)))
       refine wpQuiet_nil ?_
       intro K
       have bN:Below bB bB K.world:=aj az K.ae;replace I:=aj I bN
       exact YG
      | succ j=>
       obtain⟨dc,uK,p,gz,_,hy,cX⟩:=ec.at_ (Below.refl _ _) (k:=j) (by omega)
       simp only [Option.some.injEq,Addr.mk.injEq,and_true] at gz
       obtain⟨rfl,rfl⟩:=gz
       obtain⟨t,tz⟩:=EZ (xG (lJ.1 cB.out j (by omega)) hy)
       obtain⟨ll,pm,ho⟩:=p
       obtain⟨tid,il,eX,gU,ik,ij,jL,tok⟩:=t
       have kE:=cX 0 _ rfl;have zZ:=cX 1 _ rfl;have jB:=cX 2 _ rfl
       simp only [Nat.add_zero] at kE
       have gQ:=J hy;clear hy cX;have bO:=J tz;clear tz;have jj:=J bn
       have Bd:∀W:World,(Instr.field 89 (.agg #[tid,il,eX,gU,ik,ij,jL]) 2).run Tryz.prog W= .ok (.int .i64 eX) W:=fun _=>by kernel_rfl
       have Eb:∀W:World,(Instr.field 89 (.agg #[id,nm,rk,af,fs,am,dX]) 2).run Tryz.prog W= .ok (.int .i64 rk) W:=fun _=>by kernel_rfl
       cases nx:jS ⟨tid,il,eX,gU,ik,ij,jL,tok⟩ ⟨ll,pm,ho⟩
       ·have ft:=J nx;clear nx
        by_cases Er:eX < rk
        ·have hle:decide (rk≤eX)= false:=decide_eq_false (by omega)
         clear bF;have bF:=aB.jv (fun K:ay bB.heap.size bB=>(aR.ae K.ae aR.lt))
         refine eK (by kernel_rfl) (by kernel_rfl) ?_
         repeat (go_big_quiet_step (fail))
         go_big_quiet_step ((go_at_call 198;exact ay.call _ (by first | exact Nat.le_refl _ | omega) (tI A c rs aY ⟨ll,pm,ho⟩ ⟨tid,il,eX,gU,ik,ij,jL,tok⟩ bO.out _ ft.out _ (jj.out.ae (ay.ae _)))))
         repeat (go_big_quiet_step (fail))
         go_big_quiet_step ((go_at_call 69;exact ay.call _ (by first | exact Nat.le_refl _ | omega) (pZ A c rs aY ⟨ll,pm,ho⟩ ⟨tid,il,eX,gU,ik,ij,jL,tok⟩ bO.out _ (jj.out.ae (ay.ae _)))))
         repeat (go_big_quiet_step (fail))
         go_big_quiet_step ((go_at_call 69;exact ay.call _ (by first | exact Nat.le_refl _ | omega) (pZ A c rs aY ⟨qr,cb,false⟩ ⟨id,nm,rk,af,fs,am,dX,aV⟩ cC.out _ (jj.out.ae (ay.ae _)))))
         exact aaD
        ·have hle:decide (rk≤eX)= true:=decide_eq_true (by omega)
         clear bF;have bF:=aB.jv (fun K:ay bB.heap.size bB=>(aR.ae K.ae aR.lt))
         refine eK (by kernel_rfl) (by kernel_rfl) ?_
         repeat (go_big_quiet_step (fail))
         go_big_quiet_step ((go_at_call 198;exact ay.call _ (by first | exact Nat.le_refl _ | omega) (tI A c rs aY ⟨ll,pm,ho⟩ ⟨tid,il,eX,gU,ik,ij,jL,tok⟩ bO.out _ ft.out _ (jj.out.ae (ay.ae _)))))
         repeat (go_big_quiet_step (fail))
         go_big_quiet_step ((go_at_call 69;exact ay.call _ (by first | exact Nat.le_refl _ | omega) (pZ A c rs aY ⟨ll,pm,ho⟩ ⟨tid,il,eX,gU,ik,ij,jL,tok⟩ bO.out _ (jj.out.ae (ay.ae _)))))
         repeat (go_big_quiet_step (fail))
         go_big_quiet_step ((go_at_call 69;exact ay.call _ (by first | exact Nat.le_refl _ | omega) (pZ A c rs aY ⟨qr,cb,false⟩ ⟨id,nm,rk,af,fs,am,dX,aV⟩ cC.out _ (jj.out.ae (ay.ae _)))))
         exact aaQ
       ·exact aam
     ·have afT:∀W:World,(Instr.field 89 (.agg #[id,nm,rk,af,fs,am,dX]) 3).run Tryz.prog W= .ok (.bool af) W:=fun _=>by kernel_rfl
      cases af
      ·clear bF
       have bF:=aR.cq
       go_wp2_with fail
       refine (iG cb _ dP.out _).mono ?_
       rintro e w0 ⟨rfl,h0⟩
       rw [h0]
       clear h0 w0
       go_wp2_with fail
       refine (pZ A c rs aY ⟨qr,cb,true⟩ ⟨id,nm,rk,false,fs,am,dX,aV⟩ cC.out _ (bn.ae az)).mono ?_
       rintro e bU ⟨rfl,cY⟩
       have bN:=be bB cY;replace I:=aj I bN;clear bF
       exact YJ
      ·clear bF
       have bF:=aR.cq
       go_wp2_with fail
       refine (iG cb _ dP.out _).mono ?_
       rintro e w0 ⟨rfl,h0⟩
       rw [h0]
       clear h0 w0
       go_wp2_with fail
       refine (pZ A c rs aY ⟨qr,cb,true⟩ ⟨id,nm,rk,true,fs,am,dX,aV⟩ cC.out _ (bn.ae az)).mono ?_
       rintro e bU ⟨rfl,cY⟩
       have bN:=be bB cY;replace I:=aj I bN;replace bn:=bn.ae bN;replace ec:=ec.ae bN;replace aR:=aR.to bN;clear bF;have bF:=aR.cq
       go_upto_region 8 with fail
       clear afT;have sK:Hid (oG rs ⟨qr,cb,true⟩ =true):=J (by rw [uN (q:=⟨qr,cb,true⟩) cC.out];simp only [dP.out];rfl)
       cases k with
       | zero=>
        clear bF
        refine eK (by kernel_rfl) (by kernel_rfl) ?_
        repeat (go_big_quiet_step ((fail)))
        refine wpQuiet_nil ?_
        intro K
        have cK:Below bU bU K.world:=aj az K.ae;replace I:=aj I cK
        exact YG
       | succ j=>
        obtain⟨dc,uK,p,gz,_,hy,cX⟩:=ec.at_ (Below.refl _ _) (k:=j) (by omega)
        simp only [Option.some.injEq,Addr.mk.injEq,and_true] at gz
        obtain⟨rfl,rfl⟩:=gz
        obtain⟨t,tz⟩:=EZ (xG (lJ.1 cB.out j (by omega)) hy)
        obtain⟨ll,pm,ho⟩:=p
        obtain⟨tid,il,eX,gU,ik,ij,jL,tok⟩:=t
        have kE:=cX 0 _ rfl;have zZ:=cX 1 _ rfl;have jB:=cX 2 _ rfl
        simp only [Nat.add_zero] at kE
        have gQ:=J hy;clear hy cX;have bO:=J tz;clear tz;have jj:=J bn
        have Bd:∀W:World,(Instr.field 89 (.agg #[tid,il,eX,gU,ik,ij,jL]) 2).run Tryz.prog W= .ok (.int .i64 eX) W:=fun _=>by kernel_rfl
        have Eb:∀W:World,(Instr.field 89 (.agg #[id,nm,rk,true,fs,am,dX]) 2).run Tryz.prog W= .ok (.int .i64 rk) W:=fun _=>by kernel_rfl
        cases nx:jS ⟨tid,il,eX,gU,ik,ij,jL,tok⟩ ⟨ll,pm,ho⟩
        ·have ft:=J nx;clear nx
         by_cases Er:eX < rk
         ·have hle:decide (rk≤eX)= false:=decide_eq_false (by omega)
          clear bF;have bF:=aB.jv (fun K:ay bU.heap.size bU=>(aR.ae K.ae aR.lt))
          refine eK (by kernel_rfl) (by kernel_rfl) ?_
          repeat (go_big_quiet_step (fail))
          go_big_quiet_step ((go_at_call 198;exact ay.call _ (by first | exact Nat.le_refl _ | omega) (tI A c rs aY ⟨ll,pm,ho⟩ ⟨tid,il,eX,gU,ik,ij,jL,tok⟩ bO.out _ ft.out _ (jj.out.ae (ay.ae _)))))
          repeat (go_big_quiet_step (fail))
          go_big_quiet_step ((go_at_call 69;exact ay.call _ (by first | exact Nat.le_refl _ | omega) (pZ A c rs aY ⟨ll,pm,ho⟩ ⟨tid,il,eX,gU,ik,ij,jL,tok⟩ bO.out _ (jj.out.ae (ay.ae _)))))
          repeat (go_big_quiet_step (fail))
          go_big_quiet_step ((go_at_call 69;exact ay.call _ (by first | exact Nat.le_refl _ | omega) (pZ A c rs aY ⟨qr,cb,true⟩ ⟨id,nm,rk,true,fs,am,dX,aV⟩ cC.out _ (jj.out.ae (ay.ae _)))))
          exact aaC
         ·have hle:decide (rk≤eX)= true:=decide_eq_true (by omega)
          clear bF;have bF:=aB.jv (fun K:ay bU.heap.size bU=>(aR.ae K.ae aR.lt))
          refine eK (by kernel_rfl) (by kernel_rfl) ?_
          repeat (go_big_quiet_step (fail))
          go_big_quiet_step ((go_at_call 198;exact ay.call _ (by first | exact Nat.le_refl _ | omega) (tI A c rs aY ⟨ll,pm,ho⟩ ⟨tid,il,eX,gU,ik,ij,jL,tok⟩ bO.out _ ft.out _ (jj.out.ae (ay.ae _)))))
          repeat (go_big_quiet_step (fail))
          go_big_quiet_step ((go_at_call 69;exact ay.call _ (by first | exact Nat.le_refl _ | omega) (pZ A c rs aY ⟨ll,pm,ho⟩ ⟨tid,il,eX,gU,ik,ij,jL,tok⟩ bO.out _ (jj.out.ae (ay.ae _)))))
          repeat (go_big_quiet_step (fail))
          go_big_quiet_step ((go_at_call 69;exact ay.call _ (by first | exact Nat.le_refl _ | omega) (pZ A c rs aY ⟨qr,cb,true⟩ ⟨id,nm,rk,true,fs,am,dX,aV⟩ cC.out _ (jj.out.ae (ay.ae _)))))
          exact aaP
        ·exact aam
  ·exact YZ
theorem aaO {p:Prop} (h:p:=by
 refine eK (by kernel_rfl) (by kernel_rfl) ?_
 repeat (go_big_quiet_step ((fail)))
 refine wpQuiet_nil ?_
 intro K
 have al:Below wr wr K.world:=aj az K.ae;replace I:=aj I al
 go_wp2
 go_roundw
 case rel=>exact⟨1,by omega,by go_num,mv cB.out (by rw [Il cc.out];exact sK.out),(aj I az)⟩
 case measure=>simp [intOf];omega):p:=h
theorem aas {p:Prop} (h:p:=by
 have ft:=J nx;clear nx
 refine eK (by kernel_rfl) (by kernel_rfl) ?_
 repeat (go_big_quiet_step (fail))
 go_big_quiet_step ((go_at_call 163;exact ay.call _ (by first | exact Nat.le_refl _ | omega) (oC _ c rs aY ⟨ll,pm,ho⟩ ⟨tid,il,eX,gU,ik,ij,jL,tok⟩ bO.out _ ft.out _ (jj.out.ae (ay.ae _)))))
 repeat (go_big_quiet_step (fail))
 refine wpQuiet_nil ?_
 intro K
 go_wp2
 go_ret
 exact⟨ed (zH bu (by rw [wu gQ.out cc.out,sK.out,tK bO.out cC.out,ft.out];rfl)).symm,aj I K.ae⟩):p:=h
theorem nb (A:Option Addr) (c:Nat) (rs:List aK) (aY:rs.length≤1048576) (B:Option Addr) (d:Nat) (qs:List aQ) (bj:qs.length≤1048576) (v:Bool) (ax:dt rs qs= v) (w:World) (bn:aS 7 aK.cells w A rs) (ec:aS 3 aQ.cells w B qs):
 Calls Tryz.prog 93 #[.slice A rs c,.slice B qs d] w fun e ah=>e= .returned v∧Below w w ah:=by
 subst ax
 cases bp:js rs
 ·have bC:=J bp
  go_in
  go_wp2_with fail
  refine (zv A c rs aY _ bC.out _ (bn.ae az)).mono ?_
  exact YQ
 by_cases LZ:qs.length≤6
 case neg=>
  have bC:=J bp
  go_in
  go_wp2_with fail
  refine (zv A c rs aY _ bC.out _ (bn.ae az)).mono ?_
  exact YE
 have bC:=J bp
 go_in
 have nP:=J bn;have Lg:=J ec
 go_wp2_with fail
 refine (zv A c rs aY _ bC.out _ (bn.ae az)).mono ?_
 rintro e bh ⟨rfl,br⟩
 have au:=be w br;have I:Below w w bh:=au;replace bn:=bn.ae au;replace ec:=ec.ae au
 go_wp2
 go_loopw [5] (fun i wr=>∃k:Nat,k≤qs.length∧i= .int .i64 k∧gy (oH rs qs) k= true∧Below w w wr) (fun i _=>qs.length - (intOf i).toNat)
 case atStart=>exact⟨0,Nat.zero_le _,rfl,rfl,I⟩
 case round=>
  obtain⟨k,aD,rfl,aT,aF⟩:=hrel
  have cB:=J aT;clear aT bn ec I;have bn:=nP.out;have ec:=Lg.out;have au:=be w aF;have I:Below w w wr:=au;replace bn:=bn.ae au;replace ec:=ec.ae au
  by_cases bu:k < qs.length
  ·obtain⟨b,off,q,rfl,ew,aw,bz⟩:=ec.at_ (Below.refl _ _) bu
   obtain⟨qr,cb,qA⟩:=q
   have f0:=bz 0 _ rfl;have f1:=bz 1 _ rfl;have f2:=bz 2 _ rfl
   simp only [Nat.add_zero] at f0
   have g0:=f0 (ay.self _);have g1:=f1 (ay.self _);have g2:=f2 (ay.self _)
   simp only [ay.self] at g0
   simp only [ay.self] at g1
   simp only [ay.self] at g2
   have cc:=J aw;clear aw bz
   cases hf:hE rs qr with
   | none=>
    have cC:=J hf;clear hf
    go_wp2_with fail
    refine (tG A c rs aY qr _ (Bo cC.out) _ (bn.ae az)).mono ?_
    rintro e w0 ⟨rfl,h0⟩
    rw [h0]
    clear h0 w0
    exact Zg
   | some r=>
    have cC:=J hf;clear hf
    obtain⟨m,hm,ts⟩:=qq cC.out
    have jo:m < rs.length:=(List.getElem?_eq_some_iff.1 ts).1
    obtain⟨dJ,Ns,fX,rfl,th,uE,rZ⟩:=bn.at_ (Below.refl _ _) jo
    obtain rfl:r= fX:=Option.some.inj (ts.symm.trans uE)
    obtain⟨id,nm,rk,af,fs,am,dX,aV⟩:=r
    have e2:=rZ 2 _ rfl;have e3:=rZ 3 _ rfl;have Ky:=e3 (ay.self _)
    simp only [ay.self] at Ky
    have Ag:=J hm;clear hm ts uE rZ
    go_wp2_with fail
    refine (tG _ c rs aY qr _ Ag.out _ (bn.ae az)).mono ?_
    rintro e w0 ⟨rfl,h0⟩
    rw [h0]
    clear h0 w0
    cases kl:ey cb
    ·have dP:=J kl;clear kl
     go_wp2_with fail
     refine (iy cb _ dP.out _).mono ?_
     rintro e w0 ⟨rfl,h0⟩
     rw [h0]
     exact YM
    ·have dP:=J kl;clear kl
     cases qA
     ·go_wp2_with fail
      refine (iy cb _ dP.out _).mono ?_
      rintro e w0 ⟨rfl,h0⟩
      rw [h0]
      go_upto_region 9 with fail
      clear g0 g1 g2 e3 Ky f0 f1 f2;have sK:Hid (oG rs ⟨qr,cb,false⟩ =true):=J (by rw [uN (q:=⟨qr,cb,false⟩) cC.out];simp only [dP.out];rfl)
      cases k with
      | zero=>
       exact aaO
      | succ j=>
       obtain⟨dc,uK,p,gz,_,hy,cX⟩:=ec.at_ (Below.refl _ _) (k:=j) (by omega)
       simp only [Option.some.injEq,Addr.mk.injEq,and_true] at gz
       obtain⟨rfl,rfl⟩:=gz
       obtain⟨t,tz⟩:=EZ (xG (lJ.1 cB.out j (by omega)) hy)
       obtain⟨ll,pm,ho⟩:=p
       obtain⟨tid,il,eX,gU,ik,ij,jL,tok⟩:=t
       have kE:=cX 0 _ rfl;have zZ:=cX 1 _ rfl;have jB:=cX 2 _ rfl
       simp only [Nat.add_zero] at kE
       have gQ:=J hy;clear hy cX;have bO:=J tz;clear tz;have jj:=J bn
       cases nx:jS ⟨tid,il,eX,gU,ik,ij,jL,tok⟩ ⟨ll,pm,ho⟩
       ·have ft:=J nx;clear nx
        by_cases Er:eX < rk
        ·have hle:decide (rk≤eX)= false:=decide_eq_false (by omega)
         refine eK (by kernel_rfl) (by kernel_rfl) ?_
         repeat (go_big_quiet_step (fail))
         go_big_quiet_step ((go_at_call 163;exact ay.call _ (by first | exact Nat.le_refl _ | omega) (oC _ c rs aY ⟨ll,pm,ho⟩ ⟨tid,il,eX,gU,ik,ij,jL,tok⟩ bO.out _ ft.out _ (jj.out.ae (ay.ae _)))))
         repeat (go_big_quiet_step (fail))
         go_big_quiet_step ((go_at_call 164;exact ay.call _ (by first | exact Nat.le_refl _ | omega) (By _ c rs aY ⟨ll,pm,ho⟩ ⟨tid,il,eX,gU,ik,ij,jL,tok⟩ bO.out _ (jj.out.ae (ay.ae _)))))
         exact aaD
        ·have hle:decide (rk≤eX)= true:=decide_eq_true (by omega)
         refine eK (by kernel_rfl) (by kernel_rfl) ?_
         repeat (go_big_quiet_step (fail))
         go_big_quiet_step ((go_at_call 163;exact ay.call _ (by first | exact Nat.le_refl _ | omega) (oC _ c rs aY ⟨ll,pm,ho⟩ ⟨tid,il,eX,gU,ik,ij,jL,tok⟩ bO.out _ ft.out _ (jj.out.ae (ay.ae _)))))
         repeat (go_big_quiet_step (fail))
         go_big_quiet_step ((go_at_call 164;exact ay.call _ (by first | exact Nat.le_refl _ | omega) (By _ c rs aY ⟨ll,pm,ho⟩ ⟨tid,il,eX,gU,ik,ij,jL,tok⟩ bO.out _ (jj.out.ae (ay.ae _)))))
         exact aaQ
       ·exact aas
     ·cases af
      ·go_wp2_with fail
       refine (iy cb _ dP.out _).mono ?_
       rintro e w0 ⟨rfl,h0⟩
       rw [h0]
       exact YJ
      ·go_wp2_with fail
       refine (iy cb _ dP.out _).mono ?_
       rintro e w0 ⟨rfl,h0⟩
       rw [h0]
       go_upto_region 9 with fail
       clear g0 g1 g2 e3 Ky f0 f1 f2;have sK:Hid (oG rs ⟨qr,cb,true⟩ =true):=J (by rw [uN (q:=⟨qr,cb,true⟩) cC.out];simp only [dP.out];rfl)
       cases k with
       | zero=>
        exact aaO
       | succ j=>
        obtain⟨dc,uK,p,gz,_,hy,cX⟩:=ec.at_ (Below.refl _ _) (k:=j) (by omega)
        simp only [Option.some.injEq,Addr.mk.injEq,and_true] at gz
        obtain⟨rfl,rfl⟩:=gz
        obtain⟨t,tz⟩:=EZ (xG (lJ.1 cB.out j (by omega)) hy)
        obtain⟨ll,pm,ho⟩:=p
        obtain⟨tid,il,eX,gU,ik,ij,jL,tok⟩:=t
        have kE:=cX 0 _ rfl;have zZ:=cX 1 _ rfl;have jB:=cX 2 _ rfl
        simp only [Nat.add_zero] at kE
        have gQ:=J hy;clear hy cX;have bO:=J tz;clear tz;have jj:=J bn
        cases nx:jS ⟨tid,il,eX,gU,ik,ij,jL,tok⟩ ⟨ll,pm,ho⟩
        ·have ft:=J nx;clear nx
         by_cases Er:eX < rk
         ·have hle:decide (rk≤eX)= false:=decide_eq_false (by omega)
          refine eK (by kernel_rfl) (by kernel_rfl) ?_
          repeat (go_big_quiet_step (fail))
          go_big_quiet_step ((go_at_call 163;exact ay.call _ (by first | exact Nat.le_refl _ | omega) (oC _ c rs aY ⟨ll,pm,ho⟩ ⟨tid,il,eX,gU,ik,ij,jL,tok⟩ bO.out _ ft.out _ (jj.out.ae (ay.ae _)))))
          repeat (go_big_quiet_step (fail))
          go_big_quiet_step ((go_at_call 164;exact ay.call _ (by first | exact Nat.le_refl _ | omega) (By _ c rs aY ⟨ll,pm,ho⟩ ⟨tid,il,eX,gU,ik,ij,jL,tok⟩ bO.out _ (jj.out.ae (ay.ae _)))))
          exact aaC
         ·have hle:decide (rk≤eX)= true:=decide_eq_true (by omega)
          refine eK (by kernel_rfl) (by kernel_rfl) ?_
          repeat (go_big_quiet_step (fail))
          go_big_quiet_step ((go_at_call 163;exact ay.call _ (by first | exact Nat.le_refl _ | omega) (oC _ c rs aY ⟨ll,pm,ho⟩ ⟨tid,il,eX,gU,ik,ij,jL,tok⟩ bO.out _ ft.out _ (jj.out.ae (ay.ae _)))))
          repeat (go_big_quiet_step (fail))
          go_big_quiet_step ((go_at_call 164;exact ay.call _ (by first | exact Nat.le_refl _ | omega) (By _ c rs aY ⟨ll,pm,ho⟩ ⟨tid,il,eX,gU,ik,ij,jL,tok⟩ bO.out _ (jj.out.ae (ay.ae _)))))
          exact aaP
        ·exact aas
  ·exact YZ
open Go.RowKit Go.G9
def jx (rs:List aK) (qs:List aQ):Bool:=match qs[qs.length - 1]? with
 | some q=>(match hE rs q.fR with | some r=>jS r q | none=>false)
 | none=>false
def hv (rs:List aK) (qs:List aQ):List Int:=match qs[qs.length - 1]? with
 | none=>rs.map (fun r=>r.id)
 | some q=>(match hE rs q.fR with
  | some t=>if jS t q || decide (qs.length= 6) then [] else (rs.filter (fun r=>decide (t.gD < r.gD))).map (fun r=>r.id)
  | none=>[])
def jy (rs:List aK) (qs:List aQ) (id mem:Int):Option (List aQ):=if dt rs qs && (ey mem && hasB (hv rs qs) id) then some (qs ++ [⟨id,mem,false⟩]) else none
def BN (qs:List aQ):List aQ:=match qs[qs.length - 1]? with | some q=>qs.take (qs.length - 1) ++ [⟨q.fR,q.mover,true⟩] | none=>qs
def EI (qs:List aQ) (mem:Int):Bool:=match qs[qs.length - 1]? with | some q=>q.mover == mem | none=>true
def jJ (rs:List aK) (qs:List aQ) (mem:Int):Option (List aQ):=if dt rs qs && (jx rs qs && (ey mem && !EI qs mem)) then some (BN qs) else none
def qg (rs:List aK) (qs:List aQ):Option (List aQ×aQ):=match qs[qs.length - 1]? with
 | some q=>if dt rs qs && !jx rs qs then some (qs.take (qs.length - 1),q) else none
 | none=>none
def ng (qs:List aQ) (mem:Int):Nat→Option Nat
 | 0=>none
 | k + 1=>match qs[k]? with | some q=>if q.mover == mem then some k else ng qs mem k | none=>ng qs mem k
def jX (rs:List aK) (qs:List aQ) (mem:Int):Option (List aQ):=if dt rs qs then (ng qs mem qs.length).map (fun k=>qs.take k) else none
def uo (rs:List aK) (qs:List aQ):List aQ:=if jx rs qs then qs.take (qs.length - 1) else qs
def kL (rs:List aK) (qs:List aQ):Option (List aQ):=if dt rs qs then some (uo rs qs) else none
theorem VT {rs:List aK} {qs ps:List aQ} {i:Nat} (h:∀j,j≤i→qs[j]? =ps[j]?):oH rs qs i= oH rs ps i:=by
 cases i with
 | zero=>simp only [oH,h 0 (Nat.le_refl _)]
 | succ j=>simp only [oH,h j (by omega),h (j + 1) (Nat.le_refl _)]
theorem mj {rs:List aK} {qs:List aQ} (h:dt rs qs= true):js rs= true∧qs.length≤6∧∀i,i < qs.length→oH rs qs i= true:=by
 simp only [dt,Bool.and_eq_true,decide_eq_true_eq] at h
 exact⟨h.1,h.2.1,lJ.1 h.2.2⟩
theorem VH {rs:List aK} {qs:List aQ} (h1:js rs= true) (h2:qs.length≤6) (h3:∀i,i < qs.length→oH rs qs i= true):dt rs qs= true:=by
 simp only [dt,Bool.and_eq_true,decide_eq_true_eq]
 exact⟨h1,h2,lJ.2 h3⟩
theorem Ih {rs:List aK} {qs:List aQ} (h:dt rs qs= true) (k:Nat):dt rs (qs.take k)= true:=by
 obtain⟨h1,h2,h3⟩:=mj h
 refine VH h1 (by rw [List.length_take];omega) (fun i hi=>?_)
 rw [List.length_take] at hi
 rw [VT (ps:=qs) (fun j bE=>by rw [List.getElem?_take,if_pos (by omega)])]
 exact h3 i (by omega)
theorem VI {rs:List aK} {qs:List aQ} {q:aQ} (h:dt rs qs= true) (aT:qs.length < 6) (bj:oG rs q= true) (cG:∀j p,qs.length= j + 1→qs[j]? =some p→BE rs p q= true):dt rs (qs ++ [q])= true:=by
 obtain⟨h1,h2,h3⟩:=mj h
 refine VH h1 (by simp;omega) (fun i hi=>?_)
 rw [List.length_append,List.length_singleton] at hi
 by_cases bu:i < qs.length
 ·rw [VT (ps:=qs) (fun j bE=>by rw [List.getElem?_append_left (by omega)])]
  exact h3 i bu
 ·obtain rfl:i= qs.length:=by omega
  have xo:(qs ++ [q])[qs.length]? =some q:=by simp
  cases aY:qs.length with
  | zero=>rw [aY] at xo;rw [Il xo];exact bj
  | succ j=>
   have aN:qs[j]? =some qs[j]:=List.getElem?_eq_getElem (by omega)
   rw [aY] at xo
   rw [wu (p:=qs[j]) (by rw [List.getElem?_append_left (by omega)];exact aN) xo,bj,cG j _ aY aN];rfl
theorem wa {rs:List aK} {qs:List aQ} {j:Nat} {q:aQ} {r:aK} (aT:qs.length= j + 1) (bj:qs[j]? =some q) (bp:hE rs q.fR= some r):jx rs qs= jS r q:=by
 have:qs.length - 1= j:=by omega
 simp only [jx,this,bj,bp]
theorem HL {rs:List aK} {qs:List aQ} (h:qs.length= 0):jx rs qs= false:=by
 obtain rfl:=List.length_eq_zero_iff.1 h;rfl
theorem UT {rs:List aK} {qs:List aQ} (h:qs.length= 0):hv rs qs= rs.map (fun r=>r.id):=by
 obtain rfl:=List.length_eq_zero_iff.1 h;rfl
theorem Nd {rs:List aK} {qs:List aQ} {j:Nat} {q:aQ} {t:aK} (aT:qs.length= j + 1) (bj:qs[j]? =some q) (bp:hE rs q.fR= some t):hv rs qs= if jS t q || decide (qs.length= 6) then [] else (rs.filter (fun r=>decide (t.gD < r.gD))).map (fun r=>r.id):=by
 have:qs.length - 1= j:=by omega
 simp only [hv,this,bj,bp]
theorem Zf {p:Prop} (h:p:=by
 unfold hv
 split
 ·simp
 ·split
  ·split
   ·simp
   ·rw [List.length_map];exact List.length_filter_le _ _
  ·simp):p:=h
theorem US (rs:List aK) (qs:List aQ):(hv rs qs).length≤rs.length:=by
 exact Zf
theorem Wz {rs:List aK} (h:js rs= true):rs.length≤8∧∀k,k < rs.length→qE rs k= true:=by
 simp only [js,Bool.and_eq_true,decide_eq_true_eq] at h
 exact⟨h.2,lJ.1 h.1⟩
theorem xK {rs:List aK} (h:js rs= true) {k:Nat} {r:aK} (bp:rs[k]? =some r):qD r= true:=by
 have aD:=(List.getElem?_eq_some_iff.1 bp).1;have h1:=(Wz h).2 k aD
 cases k with
 | zero=>simp only [qE,bp] at h1;exact h1
 | succ j=>
  have aN:rs[j]? =some rs[j]:=List.getElem?_eq_getElem (by omega)
  simp only [qE,aN,bp,Bool.and_eq_true] at h1;exact h1.1
theorem xJ {r:aK} (h:qD r= true):1≤r.id∧r.id≤20∧0≤r.gD∧r.gD≤9∧1≤r.hx∧r.hx≤3∧vb r.name= true:=by
 simp only [qD,Bool.and_eq_true,qt] at h
 obtain⟨a,b,c,d⟩:=h
 exact⟨a.1,a.2,c.1,c.2,d.1,d.2,b⟩
theorem Wy {rs:List aK} (h:js rs= true) {j:Nat} {x y:aK} (hy:rs[j]? =some y) (aw:rs[j + 1]? =some x):y.id < x.id:=by
 have h1:=(Wz h).2 (j + 1) (List.getElem?_eq_some_iff.1 aw).1
 simp only [qE,hy,aw,Bool.and_eq_true,decide_eq_true_eq] at h1;exact h1.2.1
theorem NV {rs:List aK} (h:js rs= true):∀d j x y,rs[j]? =some y→rs[j + 1 + d]? =some x→y.id < x.id
 | 0,j,x,y,hy,aw=>Wy h hy aw
 | d + 1,j,x,y,hy,aw=>by
  have bu:j + 1 + d < rs.length:=by have:=(List.getElem?_eq_some_iff.1 aw).1;omega
  have ck:rs[j + 1 + d]? =some rs[j + 1 + d]:=List.getElem?_eq_getElem bu;have h1:=NV h d j _ y hy ck;have h2:=Wy h ck (show rs[j + 1 + d + 1]? =some x from aw)
  omega
theorem Wx {rs:List aK} (h:js rs= true) {k:Nat} {r:aK} (bp:rs[k]? =some r):hE rs r.id= some r:=by
 rcases HA (fun x:aK=>x.id == r.id) rs with ⟨h1,h2⟩ | ⟨j,x,h1,h2,h3⟩
 ·rw [List.find?_eq_none] at h2
  have:=h2 r (List.mem_of_getElem? bp)
  simp at this
 ·have aw:x.id= r.id:=by have:=List.find?_some h3;simpa using this
  have vP:j= k:=by
   rcases Nat.lt_trichotomy j k with bu | he | bu
   ·obtain⟨d,rfl⟩ :∃d,k= j + 1 + d:=⟨k - j - 1,by omega⟩
    have:=NV h d j r x h2 bp
    omega
   ·exact he
   ·obtain⟨d,rfl⟩ :∃d,j= k + 1 + d:=⟨j - k - 1,by omega⟩
    have:=NV h d k x r bp h2
    omega
  subst vP
  rw [h2] at bp;cases bp;exact h3
theorem afv {xs:List Int} {n:Int} (h:hasB xs n= true):n ∈ xs:=by simpa [hasB] using h
theorem ajO {rs:List aK} {qs:List aQ} {id:Int} (h:dt rs qs= true) (hid:hasB (hv rs qs) id= true):qs.length < 6∧∃r,hE rs id= some r∧∀j q,qs.length= j + 1→qs[j]? =some q→BE rs q ⟨id,0,false⟩ =true:=by
 obtain⟨h1,h2,h3⟩:=mj h
 have hm:=afv hid
 cases aY:qs.length with
 | zero=>
  rw [UT aY] at hm
  obtain⟨r,bp,rfl⟩:=List.mem_map.1 hm
  obtain⟨k,aD⟩:=List.mem_iff_getElem?.1 bp
  exact⟨by omega,r,Wx h1 aD,fun j q bE=>by omega⟩
 | succ j=>
  have bj:qs[j]? =some qs[j]:=List.getElem?_eq_getElem (by omega)
  obtain⟨t,ct⟩:=nd h bj
  rw [Nd aY bj ct] at hm
  split at hm
  ·simp at hm
  ·rename_i aH
   simp only [Bool.or_eq_true,decide_eq_true_eq,not_or,Bool.not_eq_true] at aH
   obtain⟨r,bp,rfl⟩:=List.mem_map.1 hm
   rw [List.mem_filter] at bp
   obtain⟨k,aD⟩:=List.mem_iff_getElem?.1 bp.1
   have hf:=Wx h1 aD
   refine⟨by omega,r,hf,fun qu ff bE Eo=>?_⟩
   obtain rfl:qu= j:=by omega
   rw [bj] at Eo;cases Eo
   rw [tK ct hf,aH.1,bp.2];rfl
theorem ajV {rs:List aK} {qs ps:List aQ} {id mem:Int} (h:jy rs qs id mem= some ps):dt rs ps= true:=by
 unfold jy at h
 split at h
 ·rename_i aH
  simp only [Bool.and_eq_true] at aH
  cases h
  obtain⟨aT,r,bp,cG⟩:=ajO aH.1 aH.2.2
  refine VI aH.1 aT ?_ (fun j p bE aN=>?_)
  ·rw [uN (q:=⟨id,mem,false⟩) bp];simpa using aH.2.1
  ·have h2:=cG j p bE aN
   obtain⟨t,ct⟩:=nd aH.1 aN
   rw [tK (q:=⟨id,0,false⟩) ct bp] at h2
   rw [tK (q:=⟨id,mem,false⟩) ct bp];exact h2
 ·cases h
theorem ajs {qs:List aQ} {j:Nat} {q:aQ} (aT:qs.length= j + 1) (bj:qs[j]? =some q):qs= qs.take j ++ [q]:=by
 have h1:=List.take_succ_eq_append_getElem (l:=qs) (i:=j) (by omega)
 rw [List.take_of_length_le (by omega),(List.getElem?_eq_some_iff.1 bj).2] at h1
 exact h1
theorem ane {rs:List aK} {qs ps:List aQ} {mem:Int} (h:jJ rs qs mem= some ps):dt rs ps= true:=by
 unfold jJ at h
 split at h
 ·rename_i aH
  simp only [Bool.and_eq_true] at aH
  cases h
  cases aY:qs.length with
  | zero=>have:=HL (rs:=rs) aY;rw [this] at aH;simp at aH
  | succ j=>
   have bj:qs[j]? =some qs[j]:=List.getElem?_eq_getElem (by omega)
   obtain⟨t,ct⟩:=nd aH.1 bj
   have nx:=aH.2.1
   rw [wa aY bj ct] at nx
   have aV:t.second= true:=by simp only [jS,Bool.and_eq_true] at nx;exact nx.1
   obtain⟨h1,h2,h3⟩:=mj aH.1
   have Hq:=h3 j (by omega);have Ms:=xG Hq bj
   rw [uN ct] at Ms
   simp only [Bool.and_eq_true] at Ms
   have agM:BN qs= qs.take j ++ [⟨qs[j].fR,qs[j].mover,true⟩]:=by
    have:qs.length - 1= j:=by omega
    simp only [BN,this,bj]
   rw [agM]
   refine VI (Ih aH.1 j) (by rw [List.length_take];omega) ?_ (fun i p hi aN=>?_)
   ·rw [uN (q:=⟨qs[j].fR,qs[j].mover,true⟩) ct,aV];simpa using Ms.1
   ·rw [List.length_take] at hi
    rw [List.getElem?_take,if_pos (by omega)] at aN
    obtain rfl:j= i + 1:=by omega
    rw [wu aN bj] at Hq
    simp only [Bool.and_eq_true] at Hq
    obtain⟨u,hu⟩:=nd aH.1 aN
    have h5:=Hq.2
    rw [tK hu ct] at h5
    rw [tK (q:=⟨qs[i + 1].fR,qs[i + 1].mover,true⟩) hu ct];exact h5
 ·cases h
theorem Rg {rs:List aK} {qs ps:List aQ} {q:aQ} (h:qg rs qs= some (ps,q)):dt rs ps= true∧dt rs qs= true∧∃j,qs.length= j + 1∧qs[j]? =some q∧ps= qs.take j:=by
 unfold qg at h
 split at h
 ·rename_i ff Eo
  split at h
  ·rename_i aH
   simp only [Bool.and_eq_true] at aH
   cases h
   have:=(List.getElem?_eq_some_iff.1 Eo).1
   exact⟨Ih aH.1 _,aH.1,qs.length - 1,by omega,Eo,rfl⟩
  ·cases h
 ·cases h
theorem aob {rs:List aK} {qs ps:List aQ} {mem:Int} (h:jX rs qs mem= some ps):dt rs ps= true:=by
 unfold jX at h
 split at h
 ·rename_i aH
  cases hw:ng qs mem qs.length with
  | none=>rw [hw] at h;cases h
  | some k=>rw [hw] at h;cases h;exact Ih aH k
 ·cases h
theorem adI {rs:List aK} {qs ps:List aQ} (h:kL rs qs= some ps):dt rs ps= true:=by
 unfold kL at h
 split at h
 ·rename_i aH
  cases h
  unfold uo
  split
  ·exact Ih aH _
  ·exact aH
 ·cases h
theorem VG {rs:List aK} {qs:List aQ} (h:dt rs qs= true) {k:Nat} {q:aQ} (bj:qs[k]? =some q):ey q.mover= true:=by
 obtain⟨r,bp⟩:=nd h bj
 have h1:=xG ((mj h).2.2 k (List.getElem?_eq_some_iff.1 bj).1) bj
 rw [uN bp] at h1
 simp only [Bool.and_eq_true] at h1;exact h1.1
theorem Ov {qs:List aQ} {mem:Int}:∀{k j:Nat},ng qs mem k= some j→∃q,qs[j]? =some q∧q.mover= mem
 | 0,j,h=>by simp [ng] at h
 | k + 1,j,h=>by
  unfold ng at h
  split at h
  ·rename_i q bj
   split at h
   ·rename_i hm;cases h;exact⟨q,bj,by simpa using hm⟩
   ·exact Ov h
  ·exact Ov h
open Go.RowKit Go.G9
def JY (w:World):Prop:=0 < w.heap.size∧∀(i:Nat) (s:ByteArray),[⟨#[]⟩,(⟨#[109,97,106,111,114,105,116,121]⟩ :ByteArray),(⟨#[116,119,111,45,116,104,105,114,100,115]⟩ :ByteArray),(⟨#[97,108,108]⟩ :ByteArray)][i]? =some s→w.cell? ⟨0,i,none⟩ =some (.string s)
theorem JY.ae {w ah:World} (h:JY w) (aF:Below w w ah):JY ah:=by
 obtain⟨cT,aN⟩:=h
 exact⟨Nat.lt_of_lt_of_le cT aF.size,fun i s hi=>(aF.cell (p:=⟨0,i,none⟩) cT).trans (aN i s hi)⟩
open Go.RowKit Go.G9
def lB (rk:Int) (rs:List aK):Nat→List Int
 | 0=>[]
 | k + 1=>match rs[k]? with | some r=>if rk < r.gD then lB rk rs k ++ [r.id] else lB rk rs k | none=>lB rk rs k
theorem wb (rk:Int) (rs:List aK):∀k,(lB rk rs k).length≤k
 | 0=>Nat.le_refl _
 | k + 1=>by
  have:=wb rk rs k
  unfold lB
  split
  ·split <;> simp <;> omega
  ·omega
theorem EJ {rk:Int} {rs:List aK} {k:Nat} {r:aK} (aw:rs[k]? =some r) (h:rk < r.gD):lB rk rs (k + 1)= lB rk rs k ++ [r.id]:=by simp [lB,aw,h]
theorem HN {rk:Int} {rs:List aK} {k:Nat} {r:aK} (aw:rs[k]? =some r) (h:¬rk < r.gD):lB rk rs (k + 1)= lB rk rs k:=by simp [lB,aw,h]
theorem UQ (rk:Int) (rs:List aK):∀k,k≤rs.length→lB rk rs k= ((rs.take k).filter (fun r=>decide (rk < r.gD))).map (fun r=>r.id)
 | 0,_=>by simp [lB]
 | k + 1,h=>by
  have aw:rs[k]? =some rs[k]:=List.getElem?_eq_getElem (by omega);have er:=UQ rk rs k (by omega)
  rw [List.take_add_one,aw,Option.toList_some,List.filter_append,List.map_append,← er]
  by_cases bp:rk < rs[k].gD
  ·rw [EJ aw bp];simp [bp]
  ·rw [HN aw bp];simp [bp]
theorem UP (rk:Int) (rs:List aK):lB rk rs rs.length= (rs.filter (fun r=>decide (rk < r.gD))).map (fun r=>r.id):=by
 rw [UQ rk rs _ (Nat.le_refl _),List.take_length]
theorem UR {rs:List aK} {qs:List aQ} (aN:dt rs qs= true) (h:qs.length= 0):hv rs qs= lB (-1) rs rs.length:=by
 rw [UT h,UP]
 congr 1
 symm
 rw [List.filter_eq_self]
 intro r bp
 obtain⟨k,aD⟩:=List.mem_iff_getElem?.1 bp
 have:=xJ (xK (mj aN).1 aD)
 simp;omega
theorem UU {rs:List aK} {qs:List aQ} {j:Nat} {q:aQ} {t:aK} (aT:qs.length= j + 1) (bj:qs[j]? =some q) (bp:hE rs q.fR= some t) (aD:jS t q= false) (h6:qs.length≠6):hv rs qs= lB t.gD rs rs.length:=by
 rw [Nd aT bj bp,aD,decide_eq_false h6,UP];rfl
theorem HO {rs:List aK} {qs:List aQ} {j:Nat} {q:aQ} {t:aK} (aT:qs.length= j + 1) (bj:qs[j]? =some q) (bp:hE rs q.fR= some t) (aD:jS t q= true∨qs.length= 6):hv rs qs= []:=by
 rw [Nd aT bj bp,if_pos]
 rcases aD with h | h
 ·rw [h];rfl
 ·rw [h];simp
theorem abl {p:Prop} (h:p:=by
 have xv:Below w w bU:=(iO.alloc iO.size _).grown gq (by have:=iO.size;simp;omega) (fun q bj=>(qi.lt q bj).1)
 go_roundw
 case rel=>exact⟨k + 1,by omega,by go_num,by rw [jD.out];exact fb,xv⟩
 case measure=>simp [intOf];omega):p:=h
theorem OR {p:Prop} (h:p:=by
 have jD:=J cS;clear cS
 go_wp2
 go_roundw
 case rel=>exact⟨k + 1,by omega,by go_num,by rw [jD.out];exact qi,iO⟩
 case measure=>simp [intOf];omega):p:=h
theorem YV {p:Prop} (h:p:=by
 obtain rfl:k= rs.length:=by omega
 obtain⟨Y,gV,rfl,_,_,_⟩:=bM.form fW
 go_wp2
 go_ret
 rw [cB.out]
 exact⟨Y,gV,rfl,bM,aF⟩):p:=h
theorem Zh {p:Prop} (h:p:=by
 rintro e bh ⟨rfl,aF⟩
 go_wp2
 go_ret
 rw [cB.out]
 exact⟨some ⟨w.heap.size,0,none⟩,0,rfl,hL.bm aF,aj mT aF⟩):p:=h
theorem Nc (aq:Option Addr) (c0:Nat) (rs:List aK) (h0:rs.length≤1048576) (ar:Option Addr) (av:Nat) (qs:List aQ) (h1:qs.length≤1048576) (aN:dt rs qs= true) (w:World) (bf:aS 7 aK.cells w aq rs) (aW:aS 3 aQ.cells w ar qs):
 Calls Tryz.prog 172 #[.slice aq rs c0,.slice ar qs av] w fun e ah=>∃A c,e= .returned (.slice A (hv rs qs).length c)∧bd w 3 1 bV ah (.slice A (hv rs qs).length c) (hv rs qs)∧Below w w ah:=by
 obtain⟨i0,hi,dn,dC,dz⟩:=info_parts rr
 have eL:=J bf;have hL:bd w 3 1 bV (w.alloc (.cells #[] 3)) (.slice w.heap.size 0 0) ([]:List Int):=bd.made w (Nat.le_refl _) _;have mT:Below w w (w.alloc (.cells #[] 3)):=bT w _
 by_cases ix:qs.length= 0
 ·have cB:=J (UR aN ix)
  have bE:decide ((qs.length:Int) - 1≥0)= false:=by rw [ix];decide
  have acs:=J ix;clear bf aW
  obtain rfl:=List.length_eq_zero_iff.1 ix
  clear bE ix acs
  go_in
  go_wp2
  go_loopw [5,37] (fun y i wr=>∃k:Nat,k≤rs.length∧i= .int .i64 k∧bd w 3 1 bV wr y (lB (-1) rs k)∧Below w w wr) (fun _ i _=>rs.length - (intOf i).toNat)
  case atStart=>exact⟨0,Nat.zero_le _,rfl,hL,mT⟩
  case round=>
   clear hL mT
   obtain⟨k,aD,rfl,bM,aF⟩:=hrel
   by_cases bu:k < rs.length
   ·obtain⟨dY,gP,x,rfl,ew,aw,bz⟩:=eL.out.at_ aF bu
    have gB:=xJ (xK (mj aN).1 aw)
    obtain⟨oN,tX,hb,xs,tV,jh,tW,OD⟩:=x
    have ch:=bz 0 _ rfl;have dq:=bz 1 _ rfl;have cZ:=bz 2 _ rfl;have uL:=bz 3 _ rfl;have oF:=bz 4 _ rfl;have tL:=bz 5 _ rfl;have zG:=bz 6 _ rfl
    simp only [Nat.add_zero] at ch
    have g0:=ch (ay.self _);have g1:=dq (ay.self _);have g2:=cZ (ay.self _);have g3:=uL (ay.self _);have g4:=oF (ay.self _);have g5:=tL (ay.self _);have g6:=zG (ay.self _)
    simp only [ay.self] at g0
    simp only [ay.self] at g1
    simp only [ay.self] at g2
    simp only [ay.self] at g3
    simp only [ay.self] at g4
    simp only [ay.self] at g5
    simp only [ay.self] at g6
    have cc:=J aw;clear aw bz ch dq cZ uL oF tL zG
    go_upto_region 10 with fail
    have qi:=bM.alloc (.cells #[oN,tX,hb,xs,tV,jh,tW] 89);have bG:=aB.new wr 89 #[oN,tX,hb,xs,tV,jh,tW];have iO:=aF.alloc aF.size (.cells #[oN,tX,hb,xs,tV,jh,tW] 89)
    generalize wr.alloc (.cells #[oN,tX,hb,xs,tV,jh,tW] 89)= hJ at *
    clear g0 g1 g2 g3 g4 g5 g6 bM;have dd:=(bG.cell 0).trans (show _= some (.int .i64 oN) from rfl);have dN:=(bG.cell 2).trans (show _= some (.int .i64 hb) from rfl)
    by_cases bp:(-1) < hb
    ·have cS:=EJ (rk:=(-1)) cc.out bp
     have jD:=J cS;clear cS
     go_wp2_with ((at_builtin;refine kC rfl _ _ 38 rfl w.heap.size 3 i0 _ 1 8 Tryz.underlying38 hi dn dC dz rfl (by decide) bV fW nS _ (lB (-1) rs k) rfl (qi.alloc _) ⟨hJ.heap.size,0,none⟩ 1 oN rfl (aS.one _ _) (by have:=wb (-1) rs k;unfold maxLen;omega) (by have:=wb (-1) rs k;omega) (by have:=iO.size;simp;omega) ?_;intro v4 bU fb gq ld))
     exact abl
    ·have cS:=HN (rk:=(-1)) cc.out bp
     exact OR
   ·exact YV
 ·obtain⟨j,bE⟩ :∃j,qs.length= j + 1:=⟨qs.length - 1,by omega⟩
  obtain⟨dF,iz,q,rfl,br,bj,mW⟩:=aW.at_ (Below.refl _ _) (k:=j) (by omega)
  obtain⟨t,ct⟩:=nd aN bj
  obtain⟨qr,cb,dp⟩:=q
  have ch:=mW 0 _ rfl;have dq:=mW 1 _ rfl;have cZ:=mW 2 _ rfl
  simp only [Nat.add_zero] at ch
  have g0:=ch (ay.self _);have g1:=dq (ay.self _);have g2:=cZ (ay.self _)
  simp only [ay.self] at g0
  simp only [ay.self] at g1
  simp only [ay.self] at g2
  have dH:=J bj;have bO:=J ct;have eA:=J bE;have FT:Hid (aS 3 aQ.cells w (some ⟨dF,iz,none⟩) qs):=J aW;clear bj ct mW ch dq cZ aW
  have ic:j≤1048576:=by omega
  rw [bE]
  clear bE ix h1
  cases aD:jS t ⟨qr,cb,dp⟩
  case true=>
   have ft:=J aD;have cB:=J (HO eA.out dH.out bO.out (Or.inl aD));clear aD
   go_in
   go_wp2_with fail
   refine (tI aq c0 rs h0 ⟨qr,cb,dp⟩ t bO.out true ft.out _ (eL.out.ae (bT _ _))).mono ?_
   exact Zh
  case false=>
   have ft:=J aD
   by_cases h6:j + 1= 6
   ·obtain rfl:j= 5:=by omega
    have cB:=J (HO eA.out dH.out bO.out (Or.inr eA.out));clear aD
    go_in
    go_wp2_with fail
    refine (tI aq c0 rs h0 ⟨qr,cb,dp⟩ t bO.out false ft.out _ (eL.out.ae (bT _ _))).mono ?_
    exact Zh
   ·have cB:=J (UU eA.out dH.out bO.out aD (by have:=eA.out;omega))
    have aeR:((j:Int) + 1 == 6)= false:=beq_eq_false_iff_ne.2 (by omega);clear aD
    obtain⟨xP,il,eX,gU,ik,ij,xO,XL⟩:=t
    go_in
    go_wp2_with fail
    refine (tI aq c0 rs h0 ⟨qr,cb,dp⟩ ⟨xP,il,eX,gU,ik,ij,xO,XL⟩ bO.out false ft.out _ (eL.out.ae (bT _ _))).mono ?_
    rintro e bh ⟨rfl,aF⟩
    replace hL:=hL.bm aF;replace mT:=aj mT aF
    obtain⟨_,_,y,e9,fL,hy,cX⟩:=FT.out.at_ mT (k:=j) (by have:=eA.out;omega)
    cases e9
    obtain rfl:(⟨qr,cb,dp⟩ :aQ)= y:=Option.some.inj (dH.out.symm.trans hy)
    clear g0 g1 g2 hy;have ch:=cX 0 _ rfl;have dq:=cX 1 _ rfl;have cZ:=cX 2 _ rfl
    simp only [Nat.add_zero] at ch
    have g0:=ch (ay.self _);have g1:=dq (ay.self _);have g2:=cZ (ay.self _)
    simp only [ay.self] at g0
    simp only [ay.self] at g1
    simp only [ay.self] at g2
    clear cX ch dq cZ
    go_wp2_with fail
    refine (pZ aq c0 rs h0 ⟨qr,cb,dp⟩ ⟨xP,il,eX,gU,ik,ij,xO,XL⟩ bO.out _ (eL.out.ae mT)).mono ?_
    rintro e aJ ⟨rfl,aL⟩
    replace hL:=hL.bm aL;replace mT:=aj mT aL;clear g0 g1 g2
    have hf:=fun W=>(show (Instr.field 89 (.agg #[xP,il,eX,gU,ik,ij,xO]) 2).run Tryz.prog W= .ok (.int .i64 eX) W by kernel_rfl)
    go_wp2
    clear hf
    go_loopw [5,37] (fun y i wr=>∃k:Nat,k≤rs.length∧i= .int .i64 k∧bd w 3 1 bV wr y (lB eX rs k)∧Below w w wr) (fun _ i _=>rs.length - (intOf i).toNat)
    case atStart=>exact⟨0,Nat.zero_le _,rfl,hL,mT⟩
    case round=>
     clear hL mT
     obtain⟨k,aD,rfl,bM,aF⟩:=hrel
     by_cases bu:k < rs.length
     ·obtain⟨dY,gP,x,rfl,ew,aw,bz⟩:=eL.out.at_ aF bu
      have gB:=xJ (xK (mj aN).1 aw)
      obtain⟨oN,tX,hb,xs,tV,jh,tW,OD⟩:=x
      have ch:=bz 0 _ rfl;have dq:=bz 1 _ rfl;have cZ:=bz 2 _ rfl;have uL:=bz 3 _ rfl;have oF:=bz 4 _ rfl;have tL:=bz 5 _ rfl;have zG:=bz 6 _ rfl
      simp only [Nat.add_zero] at ch
      have g0:=ch (ay.self _);have g1:=dq (ay.self _);have g2:=cZ (ay.self _);have g3:=uL (ay.self _);have g4:=oF (ay.self _);have g5:=tL (ay.self _);have g6:=zG (ay.self _)
      simp only [ay.self] at g0
      simp only [ay.self] at g1
      simp only [ay.self] at g2
      simp only [ay.self] at g3
      simp only [ay.self] at g4
      simp only [ay.self] at g5
      simp only [ay.self] at g6
      have cc:=J aw;clear aw bz ch dq cZ uL oF tL zG
      go_upto_region 10 with fail
      have qi:=bM.alloc (.cells #[oN,tX,hb,xs,tV,jh,tW] 89);have bG:=aB.new wr 89 #[oN,tX,hb,xs,tV,jh,tW];have iO:=aF.alloc aF.size (.cells #[oN,tX,hb,xs,tV,jh,tW] 89)
      generalize wr.alloc (.cells #[oN,tX,hb,xs,tV,jh,tW] 89)= hJ at *
      clear g0 g1 g2 g3 g4 g5 g6 bM;have dd:=(bG.cell 0).trans (show _= some (.int .i64 oN) from rfl);have dN:=(bG.cell 2).trans (show _= some (.int .i64 hb) from rfl)
      by_cases bp:eX < hb
      ·have cS:=EJ (rk:=eX) cc.out bp
       have jD:=J cS;clear cS
       go_wp2_with ((at_builtin;refine kC rfl _ _ 38 rfl w.heap.size 3 i0 _ 1 8 Tryz.underlying38 hi dn dC dz rfl (by decide) bV fW nS _ (lB eX rs k) rfl (qi.alloc _) ⟨hJ.heap.size,0,none⟩ 1 oN rfl (aS.one _ _) (by have:=wb eX rs k;unfold maxLen;omega) (by have:=wb eX rs k;omega) (by have:=iO.size;simp;omega) ?_;intro v4 bU fb gq ld))
       exact abl
      ·have cS:=HN (rk:=eX) cc.out bp
       exact OR
     ·exact YV
open Go.RowKit Go.G9
def oE (m:Int) (s:aO):Bool:=s.mem == m
def ej (xs:List aO) (m:Int):aO:=match xs.find? (oE m) with | some s=>s | none=>⟨m,0,0⟩
def nt (ag af:Int) (s:aO):Bool:=decide (s.ek < ag) && decide (s.dS < af)
theorem Xh {xs:List aO} {m:Int} (h:xs.find? (oE m)= none):ej xs m=⟨m,0,0⟩:=by simp [ej,h]
theorem Xj {xs:List aO} {m:Int} {s:aO} (h:xs.find? (oE m)= some s):ej xs m= s:=by simp [ej,h]
theorem KF {T:Type} {p:T→Bool}:∀{xs:List T} {k:Nat} {x:T},gy (fun i=>!jb p xs i) k= true→xs[k]? =some x→p x= true→xs.find? p= some x
 | [],k,x,_,h,_=>by simp at h
 | y ::ys,0,x,_,h,aN=>by simp at h;subst h;simp [List.find?_cons,aN]
 | y ::ys,k + 1,x,cS,h,aN=>by
  have h0:=lJ.1 cS 0 (by omega)
  have hy:p y= false:=by simpa [jb] using h0
  rw [List.find?_cons,hy]
  refine KF (k:=k) (lJ.2 fun i hi=>?_) (by simpa using h) aN
  have:=lJ.1 cS (i + 1) (by omega)
  simpa [jb] using this
theorem Ru {T:Type} {p:T→Bool} {xs:List T} (h:gy (fun i=>!jb p xs i) xs.length= true):xs.find? p= none:=by
 rw [List.find?_eq_none]
 intro x aw
 obtain⟨i,hi⟩:=List.mem_iff_getElem?.1 aw
 have:=lJ.1 h i (List.getElem?_eq_some_iff.1 hi).1
 simpa [jb,hi] using this
theorem Ub (A:Option Addr) (c:Nat) (xs:List aO) (aY:xs.length≤1048576) (f:FuncId) (oU:Array Value) (Ba:∀args W,(callFunc f args).run Tryz.prog W= .ok (.enter f args) W) (p:aO→Bool) (v:Int) (ax:nz p xs= v) (w:World) (bn:aS 3 aO.cells w A xs)
  (hf:∀x,x ∈ xs→∀W,Below w w W→Calls Tryz.prog f (#[.agg #[.int .i64 x.mem,.int .i64 x.ek,.int .i64 x.dS]] ++ oU) W fun e ah=>e= .returned (.bool (p x))∧Below W W ah):
 Calls Tryz.prog 271 #[.slice A xs c,.func (.func f) #[] oU] w fun e ah=>e= .returned v∧Below w w ah:=by
 subst ax
 have cC:=J hf;clear hf
 go_in
 go_wp2
 go_loopw [8] (fun i wr=>∃k:Nat,k≤xs.length∧i= .int .i64 k∧gy (fun i=>!jb p xs i) k= true∧Below w w wr) (fun i _=>xs.length - (intOf i).toNat)
 case atStart=>exact⟨0,Nat.zero_le _,rfl,rfl,Below.refl _ _⟩
 case round=>
  obtain⟨k,aD,rfl,aT,aF⟩:=hrel
  have cB:=J aT;clear aT
  by_cases bu:k < xs.length
  ·obtain⟨b,off,x,rfl,ew,aw,bz⟩:=bn.at_ aF bu
   have Ck:=J (cC.out x (List.mem_of_getElem? aw))
   obtain⟨sm,st,cm⟩:=x
   have f0:=bz 0 _ rfl;have f1:=bz 1 _ rfl;have f2:=bz 2 _ rfl
   simp only [Nat.add_zero] at f0
   have g0:=f0 (ay.self _);have g1:=f1 (ay.self _);have g2:=f2 (ay.self _)
   simp only [ay.self] at g0
   simp only [ay.self] at g1
   simp only [ay.self] at g2
   have cc:=J aw;clear aw bz
   go_wp2_with fail
   refine (Ck.out _ aF).mono ?_
   rintro e ah ⟨rfl,fh⟩
   cases aN:p ⟨sm,st,cm⟩
   ·exact OS
   ·exact OV
  ·exact IW
theorem Xk (m:Int) (g:Nat) (x:aO) (W:World) (cT:W.cell? ⟨g,0,none⟩ =some (.int .i64 m)) (aT:g < W.heap.size):
 Calls Tryz.prog 272 (#[.agg #[x.mem,x.ek,x.dS]] ++ #[.pointer (some ⟨g,0,none⟩)]) W fun e ah=>e= .returned (.bool (x.mem == m))∧Below W W ah:=by
 cases aF:x.mem == m
 all_goals
  have aL:=J aF
  go_in
  go_wp2
  go_ret
  exact⟨rfl,bT _ _⟩
theorem wA (ag af sp:Int) (W:Option Addr) (wl wc:Nat) (S:Option Addr) (fm:Nat) (ad:List aO) (aY:ad.length≤1048576) (m:Int) (s:aO) (aV:ej ad m= s) (w:World) (bH:aS 3 aO.cells w S ad):
 Calls Tryz.prog 201 #[.agg #[ag,af,sp,.slice W wl wc,.slice S ad fm],m] w fun e ah=>e= .returned (.agg #[s.mem,s.ek,s.dS])∧Below w w ah:=by
 cases ri:ad.find? (oE m) with
 | none=>
  obtain rfl:(⟨m,0,0⟩ :aO)= s:=(Xh ri).symm.trans aV
  have hT:=J (Bo ri);clear ri aV
  go_in
  go_upto_region 1 with fail
  refine fv fun aG au ai aU U=>?_
  replace bH:=bH.ae au;have I:=au;have aC:=ai.aM;have zA:=(aU.cell 0).trans (show _= some (.int .i64 m) from rfl);have ak:=U.cq;have dn:=U.lt
  have dH:Hid (∀x,x ∈ ad→∀V,Below aG aG V→Calls Tryz.prog 272 (#[.agg #[.int .i64 x.mem,.int .i64 x.ek,.int .i64 x.dS]] ++ #[.pointer (some ⟨w.heap.size + 1,0,none⟩)]) V fun e ah=>e= .returned (.bool (oE m x))∧Below V V ah):=J fun x _ V hM=>Xk m (w.heap.size + 1) x V ((aU.to hM).cell 0) (aU.to hM).lt
  go_wp2_with fail
  refine (Ub S fm ad aY 272 #[.pointer (some ⟨w.heap.size + 1,0,none⟩)] (zT Tryz.func272 (by kernel_rfl) (by kernel_rfl)) (oE m) _ hT.out _ (bH.ae az) dH.out).mono ?_
  rintro e aJ ⟨rfl,aL⟩
  have al:=be aG aL;replace I:=aj I al;replace bH:=bH.ae al;replace ai:=ai.to al;clear aC;have aC:=ai.aM;replace aU:=aU.to al;replace zA:=(aU.cell 0).trans (show _= some (.int .i64 m) from rfl);replace U:=U.to al;clear ak;have ak:=U.cq;have dM:=U.mQ;have pn:=ai.lt;have vf:=aU.lt;have lV:=U.lt
  go_wp2
  clear aC zA ak
  refine su 0 fun cD aE=>?_
  replace I:=aE.aH I;replace ai:=aE.dV ai;replace aU:=aE.dV aU;replace U:=aE.uh U;have aC:=ai.aM;have zA:=(aU.cell 0).trans (show _= some (.int .i64 m) from rfl);have ak:=U.cq
  refine bodyPost_ret (v:= .agg #[m,(0:Int),(0:Int)]) (by simp [results,Tryz.results201,go_sem,ak]) rfl ?_
  exact⟨rfl,I⟩
 | some t=>
  obtain rfl:t= s:=(Xj ri).symm.trans aV
  obtain⟨k,aD,LX⟩:=qq ri
  have bu:k < ad.length:=(List.getElem?_eq_some_iff.1 LX).1;have hT:=J aD;clear ri aV aD
  go_in
  go_upto_region 1 with fail
  refine fv fun aG au ai aU U=>?_
  replace bH:=bH.ae au;have I:=au;have aC:=ai.aM;have zA:=(aU.cell 0).trans (show _= some (.int .i64 m) from rfl);have ak:=U.cq;have dn:=U.lt
  have dH:Hid (∀x,x ∈ ad→∀V,Below aG aG V→Calls Tryz.prog 272 (#[.agg #[.int .i64 x.mem,.int .i64 x.ek,.int .i64 x.dS]] ++ #[.pointer (some ⟨w.heap.size + 1,0,none⟩)]) V fun e ah=>e= .returned (.bool (oE m x))∧Below V V ah):=J fun x _ V hM=>Xk m (w.heap.size + 1) x V ((aU.to hM).cell 0) (aU.to hM).lt
  go_wp2_with fail
  refine (Ub S fm ad aY 272 #[.pointer (some ⟨w.heap.size + 1,0,none⟩)] (zT Tryz.func272 (by kernel_rfl) (by kernel_rfl)) (oE m) _ hT.out _ (bH.ae az) dH.out).mono ?_
  rintro e aJ ⟨rfl,aL⟩
  have al:=be aG aL;replace I:=aj I al;replace bH:=bH.ae al;replace ai:=ai.to al;clear aC;have aC:=ai.aM;replace aU:=aU.to al;replace zA:=(aU.cell 0).trans (show _= some (.int .i64 m) from rfl);replace U:=U.to al;clear ak;have ak:=U.cq
  obtain⟨b,off,fX,rfl,ew,aw,bz⟩:=bH.at_ (Below.refl _ _) bu
  clear aC;have aC:=ai.aM
  obtain rfl:t= fX:=Option.some.inj (LX.symm.trans aw)
  have ch:=bz 0 _ rfl;have dq:=bz 1 _ rfl;have cZ:=bz 2 _ rfl
  simp only [Nat.add_zero] at ch
  have g0:=ch (ay.self _);have g1:=dq (ay.self _);have g2:=cZ (ay.self _)
  simp only [ay.self] at g0
  simp only [ay.self] at g1
  simp only [ay.self] at g2
  clear aw bz LX;have dM:=U.mQ;have vf:=aU.lt;have lV:=U.lt;have pn:=ai.lt
  go_wp2
  clear zA ak aC
  refine su 0 fun cD aE=>?_
  replace I:=aE.aH I;replace aU:=aE.dV aU;replace U:=aE.uh U;replace ai:=aE.dV ai;have zA:=(aU.cell 0).trans (show _= some (.int .i64 m) from rfl);have ak:=U.cq;have aC:=ai.aM
  refine bodyPost_ret (v:= .agg #[t.mem,t.ek,t.dS]) (by simp [results,Tryz.results201,go_sem,ak]) rfl ?_
  exact⟨rfl,I⟩
theorem tH (ag af sp:Int) (W:Option Addr) (wl wc:Nat) (S:Option Addr) (fm:Nat) (ad:List aO) (aY:ad.length≤1048576) (m:Int) (s:aO) (aV:ej ad m= s) (w:World) (bH:aS 3 aO.cells w S ad):
 Calls Tryz.prog 267 #[.agg #[ag,af,sp,.slice W wl wc,.slice S ad fm],m] w fun e ah=>e= .returned (.agg #[s.mem,s.ek,s.dS])∧Below w w ah:=by
 have dU:=J aV;clear aV
 go_in
 go_upto_region 1 with fail
 refine fe fun aG au ai U=>?_
 replace bH:=bH.ae au;have I:=au;have aC:=ai.aM;have ak:=U.cq;have dn:=U.lt
 go_wp2
 go_loop [5] (fun i=>∃k:Nat,k≤ad.length∧i= .int .i64 k∧gy (fun i=>!jb (oE m) ad i) k= true) (fun i=>ad.length - (intOf i).toNat)
 case atStart=>exact⟨0,Nat.zero_le _,rfl,rfl⟩
 case round=>
  obtain⟨k,aD,rfl,aT⟩:=hrel
  have cB:=J aT;clear aT
  by_cases bu:k < ad.length
  ·obtain⟨b,off,t,rfl,ew,aw,bz⟩:=bH.at_ (Below.refl _ _) bu
   clear aC;have aC:=ai.aM;have ch:=bz 0 _ rfl;have dq:=bz 1 _ rfl;have cZ:=bz 2 _ rfl
   simp only [Nat.add_zero] at ch
   have g0:=ch (ay.self _);have g1:=dq (ay.self _);have g2:=cZ (ay.self _)
   simp only [ay.self] at g0
   simp only [ay.self] at g1
   simp only [ay.self] at g2
   have cc:=J aw;clear aw bz
   cases he:t.mem == m
   ·go_wp2
    go_round
    case rel=>exact⟨k + 1,by omega,by go_num,mv cB.out (by simp [jb,cc.out,oE,he])⟩
    case measure=>simp [intOf];omega
   ·have cW:=J he
    obtain rfl:t= s:=(Xj (KF cB.out cc.out (p:=oE m) cW.out)).symm.trans dU.out
    have dM:=U.mQ;have lV:=U.lt;have pn:=ai.lt
    go_wp2
    clear ak aC
    refine su 0 fun cD aE=>?_
    replace I:=aE.aH I;replace U:=aE.uh U;replace ai:=aE.dV ai;have ak:=U.cq;have aC:=ai.aM
    refine bodyPost_ret (v:= .agg #[t.mem,t.ek,t.dS]) (by simp [results,Tryz.results267,go_sem,ak]) rfl ?_
    exact⟨rfl,I⟩
  ·obtain rfl:k= ad.length:=by omega
   obtain rfl:(⟨m,0,0⟩ :aO)= s:=(Xh (Ru cB.out)).symm.trans dU.out
   have dM:=U.mQ;have pn:=ai.lt;have lV:=U.lt
   go_wp2
   clear aC ak
   refine su 0 fun cD aE=>?_
   replace I:=aE.aH I;replace ai:=aE.dV ai;replace U:=aE.uh U;have aC:=ai.aM;have ak:=U.cq
   refine bodyPost_ret (v:= .agg #[m,(0:Int),(0:Int)]) (by simp [results,Tryz.results267,go_sem,ak]) rfl ?_
   exact⟨rfl,I⟩
theorem aaJ {p:Prop} (h:p:=by
 rintro e bh ⟨rfl,br⟩
 have ai:=(aB.new w 41 #[ag,af,sp,.slice W wl wc,.slice S ad fm]).ae br (by simp);have f0:=(ai.cell 0).trans (show _= some (.int .i64 ag) from rfl);have f1:=(ai.cell 1).trans (show _= some (.int .i64 af) from rfl);have RU:=ai.lt
 go_wp2
 go_ret
 exact⟨by simp [nt,h1] <;> omega,aj (aj (bT _ _) br) (bT _ _)⟩):p:=h
theorem zn (ag af sp:Int) (W:Option Addr) (wl wc:Nat) (S:Option Addr) (fm:Nat) (ad:List aO) (aY:ad.length≤1048576) (m:Int) (v:Bool) (ax:nt ag af (ej ad m)= v) (w:World) (bH:aS 3 aO.cells w S ad):
 Calls Tryz.prog 200 #[.agg #[ag,af,sp,.slice W wl wc,.slice S ad fm],m] w fun e ah=>e= .returned v∧Below w w ah:=by
 subst ax
 obtain⟨s,aV⟩ :∃s,ej ad m= s:=⟨_,rfl⟩
 rw [aV]
 have dU:=J aV;clear aV
 obtain⟨sm,st,cm⟩:=s
 by_cases h1:st < ag
 ·by_cases h2:cm < af
  all_goals
   go_in
   go_wp2_with fail
   refine (wA ag af sp W wl wc S fm ad aY m _ dU.out _ (bH.ae (bT _ _))).mono ?_
   rintro e bh ⟨rfl,br⟩
   have ai:=(aB.new w 41 #[ag,af,sp,.slice W wl wc,.slice S ad fm]).ae br (by simp);have f0:=(ai.cell 0).trans (show _= some (.int .i64 ag) from rfl);have f1:=(ai.cell 1).trans (show _= some (.int .i64 af) from rfl);have RU:=ai.lt
   go_wp2
   go_ret
   exact⟨by simp [nt,h1,h2],aj (aj (bT _ _) br) (bT _ _)⟩
 ·go_in
  go_wp2_with fail
  refine (wA ag af sp W wl wc S fm ad aY m _ dU.out _ (bH.ae (bT _ _))).mono ?_
  exact aaJ
theorem zw (ag af sp:Int) (W:Option Addr) (wl wc:Nat) (S:Option Addr) (fm:Nat) (ad:List aO) (aY:ad.length≤1048576) (m:Int) (v:Bool) (ax:nt ag af (ej ad m)= v) (w:World) (bH:aS 3 aO.cells w S ad):
 Calls Tryz.prog 266 #[.agg #[ag,af,sp,.slice W wl wc,.slice S ad fm],m] w fun e ah=>e= .returned v∧Below w w ah:=by
 subst ax
 obtain⟨s,aV⟩ :∃s,ej ad m= s:=⟨_,rfl⟩
 rw [aV]
 have dU:=J aV;clear aV
 obtain⟨sm,st,cm⟩:=s
 by_cases h1:st < ag
 ·by_cases h2:cm < af
  all_goals
   go_in
   go_wp2_with fail
   refine (tH ag af sp W wl wc S fm ad aY m _ dU.out _ (bH.ae (bT _ _))).mono ?_
   rintro e bh ⟨rfl,br⟩
   have ai:=(aB.new w 41 #[ag,af,sp,.slice W wl wc,.slice S ad fm]).ae br (by simp);have f0:=(ai.cell 0).trans (show _= some (.int .i64 ag) from rfl);have f1:=(ai.cell 1).trans (show _= some (.int .i64 af) from rfl);have RU:=ai.lt
   go_wp2
   go_ret
   exact⟨by simp [nt,h1,h2],aj (aj (bT _ _) br) (bT _ _)⟩
 ·go_in
  go_wp2_with fail
  refine (tH ag af sp W wl wc S fm ad aY m _ dU.out _ (bH.ae (bT _ _))).mono ?_
  exact aaJ
open Go.RowKit Go.G9
def ke (ag af:Int) (s:aO):Bool:=ey s.mem && (eT s.ek 0 ag && eT s.dS 0 af)
def qG (ag af:Int) (xs:List aO):Nat→Bool
 | 0=>match xs[0]? with | some x=>ke ag af x | none=>true
 | j + 1=>match xs[j]?,xs[j + 1]? with | some y,some x=>ke ag af x && decide (y.mem < x.mem) | _,_=>true
def sC (ag af sp:Int) (ws:List Int) (ad:List aO) (i:Nat):Bool:=match ws[i]? with | some m=>ey m && (!(m == sp) && (!hasB (ws.take i) m && nt ag af (ej ad m))) | none=>true
def Od (ag sp:Int) (ad:List aO):Bool:=(sp == 0) || decide ((ej ad sp).ek < ag)
def rG (ag af:Int) (ad:List aO):Bool:=gy (qG ag af ad) ad.length
def gd (ag af sp:Int) (ws:List Int) (ad:List aO):Bool:=
 eT ag 1 3 && (eT af 1 3600 && (((sp == 0) || ey sp) && (decide (ws.length≤10) && (rG ag af ad && (gy (sC ag af sp ws ad) ws.length && Od ag sp ad)))))
theorem xL {ag af:Int} {xs:List aO} {x:aO} (aw:xs[0]? =some x):qG ag af xs 0= ke ag af x:=by simp only [qG,aw]
theorem uS {ag af:Int} {xs:List aO} {j:Nat} {x y:aO} (hy:xs[j]? =some y) (aw:xs[j + 1]? =some x):qG ag af xs (j + 1)= (ke ag af x && decide (y.mem < x.mem)):=by simp only [qG,aw,hy]
theorem va {ag af sp:Int} {ws:List Int} {ad:List aO} {i:Nat} {m:Int} (hm:ws[i]? =some m):sC ag af sp ws ad i= (ey m && (!(m == sp) && (!hasB (ws.take i) m && nt ag af (ej ad m)))):=by simp only [sC,hm]
theorem xM {ag af:Int} {xs:List aO} {k:Nat} (aD:k < xs.length) (h:qG ag af xs k= false):rG ag af xs= false:=sQ aD h
theorem Dm {ag af sp:Int} {ws:List Int} {ad:List aO} (h:rG ag af ad= false):gd ag af sp ws ad= false:=by rw [gd,h];simp
theorem xa {ag af sp:Int} {ws:List Int} {ad:List aO} {k:Nat} (aD:k < ws.length) (h:sC ag af sp ws ad k= false):gd ag af sp ws ad= false:=by rw [gd,sQ aD h];simp
theorem HJ (ag af sp:Int) (W:Option Addr) (ws:List Int) (wc:Nat) (S:Option Addr) (fm:Nat) (ad:List aO) (hw:ws.length≤1048576) (aY:ad.length≤1048576) (v:Bool) (ax:rG ag af ad= v) (w:World) (bL:aS 1 bV w W ws) (bH:aS 3 aO.cells w S ad):
 Calls Tryz.prog 264 #[.agg #[ag,af,sp,.slice W ws wc,.slice S ad fm]] w fun e ah=>e= .returned v∧Below w w ah:=by
 subst ax
 go_in
 have td:=J bH
 go_upto_region 1 with fail
 refine cF fun aG au ai=>?_
 replace bH:=bH.ae au;have I:=au
 obtain⟨f0,f1,f2,f3,f4⟩:=ai.aM
 go_wp2
 go_loopw [3] (fun i wr=>∃k:Nat,k≤ad.length∧i= .int .i64 k∧gy (qG ag af ad) k= true∧Below w w wr∧aB wr w.heap.size 41 #[ag,af,sp,.slice W ws wc,.slice S ad fm]) (fun i _=>ad.length - (intOf i).toNat)
 case atStart=>exact⟨0,Nat.zero_le _,rfl,rfl,I,ai⟩
 case round=>
  clear bH bL I f0 f1 f2 f3 f4 ai
  obtain⟨k,aD,rfl,aT,aF,ai⟩:=hrel
  have cB:=J aT;clear aT;have bH:=td.out;have au:=be w aF;have I:Below w w wr:=au;replace bH:=bH.ae au
  by_cases bu:k < ad.length
  ·obtain⟨b,off,x,rfl,ew,aw,bz⟩:=bH.at_ (Below.refl _ _) bu
   obtain⟨dO,iA,xs⟩:=x
   have f4:=(ai.cell 4).trans (show _= some (.slice (some ⟨b,off,none⟩) ad fm) from rfl);have ch:=bz 0 _ rfl;have dq:=bz 1 _ rfl;have cZ:=bz 2 _ rfl
   simp only [Nat.add_zero] at ch
   have g0:=ch (ay.self _);have g1:=dq (ay.self _);have g2:=cZ (ay.self _)
   simp only [ay.self] at g0
   simp only [ay.self] at g1
   simp only [ay.self] at g2
   have cc:=J aw;clear aw bz
   go_upto_region 5 with fail
   clear f4
   refine cF fun aG al aR=>?_
   replace bH:=bH.ae al;replace I:=aj I al;have bF:=aR.cq;replace ai:=ai.to al
   obtain⟨f0,f1,f2,f3,f4⟩:=ai.aM
   clear ch dq cZ g0 g1 g2
   cases h1:ey dO
   ·have H1:=J h1;clear h1
    clear bF;have bF:=aB.jv (fun K:ay aG.heap.size aG=>(aR.ae K.ae aR.lt));clear f0 f1 f2 f3 f4
    refine eK (by kernel_rfl) (by kernel_rfl) ?_
    repeat (go_big_quiet_step (fail))
    go_big_quiet_step ((go_at_call 162;exact ay.same _ (iy dO _ H1.out _)))
    repeat (go_big_quiet_step (fail))
    refine wpQuiet_nil ?_
    intro K
    go_wp2
    go_ret
    exact⟨ed (xM bu (by cases k with | zero=>(rw [xL cc.out,ke];simp only [H1.out];simp) | succ j=>(have hy:ad[j]? =some ad[j]:=List.getElem?_eq_getElem (by omega);rw [uS hy cc.out,ke];simp only [H1.out];simp))).symm,aj I K.ae⟩
   have H1:=J h1;clear h1
   cases h2:eT iA 0 ag
   ·have fY:=J h2;clear h2
    clear bF;have bF:=aB.jv (fun K:ay aG.heap.size aG=>(aR.ae K.ae aR.lt));clear f0 f1 f2 f3 f4
    obtain⟨f0,f1,f2,f3,f4⟩:=aB.jH (fun K:ay aG.heap.size aG=>(ai.ae K.ae ai.lt))
    refine eK (by kernel_rfl) (by kernel_rfl) ?_
    repeat (go_big_quiet_step (fail))
    go_big_quiet_step ((go_at_call 162;exact ay.same _ (iy dO _ H1.out _)))
    repeat (go_big_quiet_step (fail))
    go_big_quiet_step ((go_at_call 186;exact ay.same _ (jq iA 0 ag _ fY.out _)))
    repeat (go_big_quiet_step (fail))
    refine wpQuiet_nil ?_
    intro K
    go_wp2
    go_ret
    exact⟨ed (xM bu (by cases k with | zero=>(rw [xL cc.out,ke];simp only [H1.out,fY.out];simp) | succ j=>(have hy:ad[j]? =some ad[j]:=List.getElem?_eq_getElem (by omega);rw [uS hy cc.out,ke];simp only [H1.out,fY.out];simp))).symm,aj I K.ae⟩
   have fY:=J h2;clear h2
   cases h3:eT xs 0 af
   ·have hr:=J h3;clear h3
    clear bF;have bF:=aB.jv (fun K:ay aG.heap.size aG=>(aR.ae K.ae aR.lt));clear f0 f1 f2 f3 f4
    obtain⟨f0,f1,f2,f3,f4⟩:=aB.jH (fun K:ay aG.heap.size aG=>(ai.ae K.ae ai.lt))
    refine eK (by kernel_rfl) (by kernel_rfl) ?_
    repeat (go_big_quiet_step (fail))
    go_big_quiet_step ((go_at_call 162;exact ay.same _ (iy dO _ H1.out _)))
    repeat (go_big_quiet_step (fail))
    go_big_quiet_step ((go_at_call 186;exact ay.same _ (jq iA 0 ag _ fY.out _)))
    repeat (go_big_quiet_step (fail))
    go_big_quiet_step ((go_at_call 186;exact ay.same _ (jq xs 0 af _ hr.out _)))
    repeat (go_big_quiet_step (fail))
    refine wpQuiet_nil ?_
    intro K
    go_wp2
    go_ret
    exact⟨ed (xM bu (by cases k with | zero=>(rw [xL cc.out,ke];simp only [H1.out,fY.out,hr.out];simp) | succ j=>(have hy:ad[j]? =some ad[j]:=List.getElem?_eq_getElem (by omega);rw [uS hy cc.out,ke];simp only [H1.out,fY.out,hr.out];simp))).symm,aj I K.ae⟩
   have hr:=J h3;clear h3;have dm:Hid (ke ag af ⟨dO,iA,xs⟩ =true):=J (by rw [ke];simp only [H1.out,fY.out,hr.out];rfl)
   cases k with
   | zero=>
    clear bF;have bF:=aB.jv (fun K:ay aG.heap.size aG=>(aR.ae K.ae aR.lt));clear f0 f1 f2 f3 f4
    obtain⟨f0,f1,f2,f3,f4⟩:=aB.jH (fun K:ay aG.heap.size aG=>(ai.ae K.ae ai.lt))
    refine eK (by kernel_rfl) (by kernel_rfl) ?_
    repeat (go_big_quiet_step (fail))
    go_big_quiet_step ((go_at_call 162;exact ay.same _ (iy dO _ H1.out _)))
    repeat (go_big_quiet_step (fail))
    go_big_quiet_step ((go_at_call 186;exact ay.same _ (jq iA 0 ag _ fY.out _)))
    repeat (go_big_quiet_step (fail))
    go_big_quiet_step ((go_at_call 186;exact ay.same _ (jq xs 0 af _ hr.out _)))
    repeat (go_big_quiet_step (fail))
    refine wpQuiet_nil ?_
    intro K
    go_wp2
    go_roundw
    case rel=>exact⟨1,by omega,by go_num,mv cB.out (by rw [xL cc.out];exact dm.out),aj I K.ae,ai.ae K.ae ai.lt⟩
    case measure=>simp [intOf];omega
   | succ j=>
    obtain⟨dc,uK,y,gz,_,hy,cX⟩:=bH.at_ (Below.refl _ _) (k:=j) (by omega)
    simp only [Option.some.injEq,Addr.mk.injEq,and_true] at gz
    obtain⟨rfl,rfl⟩:=gz
    obtain⟨nj,ob,ys⟩:=y
    have iI:=cX 0 _ rfl
    simp only [Nat.add_zero] at iI
    have gQ:=J hy;clear hy cX
    by_cases xr:nj < dO
    ·have hle:decide (dO≤nj)= false:=decide_eq_false (by omega)
     clear bF;have bF:=aB.jv (fun K:ay aG.heap.size aG=>(aR.ae K.ae aR.lt));clear f0 f1 f2 f3 f4
     obtain⟨f0,f1,f2,f3,f4⟩:=aB.jH (fun K:ay aG.heap.size aG=>(ai.ae K.ae ai.lt))
     refine eK (by kernel_rfl) (by kernel_rfl) ?_
     repeat (go_big_quiet_step (fail))
     go_big_quiet_step ((go_at_call 162;exact ay.same _ (iy dO _ H1.out _)))
     repeat (go_big_quiet_step (fail))
     go_big_quiet_step ((go_at_call 186;exact ay.same _ (jq iA 0 ag _ fY.out _)))
     repeat (go_big_quiet_step (fail))
     go_big_quiet_step ((go_at_call 186;exact ay.same _ (jq xs 0 af _ hr.out _)))
     repeat (go_big_quiet_step (fail))
     refine wpQuiet_nil ?_
     intro K
     go_wp2
     go_roundw
     case rel=>exact⟨j + 1 + 1,by omega,by go_num,mv cB.out (by rw [uS gQ.out cc.out,dm.out,decide_eq_true (show (aO.mem ⟨nj,ob,ys⟩) < (aO.mem ⟨dO,iA,xs⟩) from xr)];rfl),aj I K.ae,ai.ae K.ae ai.lt⟩
     case measure=>simp [intOf];omega
    ·have hle:decide (dO≤nj)= true:=decide_eq_true (by omega)
     clear bF;have bF:=aB.jv (fun K:ay aG.heap.size aG=>(aR.ae K.ae aR.lt));clear f0 f1 f2 f3 f4
     obtain⟨f0,f1,f2,f3,f4⟩:=aB.jH (fun K:ay aG.heap.size aG=>(ai.ae K.ae ai.lt))
     refine eK (by kernel_rfl) (by kernel_rfl) ?_
     repeat (go_big_quiet_step (fail))
     go_big_quiet_step ((go_at_call 162;exact ay.same _ (iy dO _ H1.out _)))
     repeat (go_big_quiet_step (fail))
     go_big_quiet_step ((go_at_call 186;exact ay.same _ (jq iA 0 ag _ fY.out _)))
     repeat (go_big_quiet_step (fail))
     go_big_quiet_step ((go_at_call 186;exact ay.same _ (jq xs 0 af _ hr.out _)))
     repeat (go_big_quiet_step (fail))
     refine wpQuiet_nil ?_
     intro K
     go_wp2
     go_ret
     exact⟨ed (xM bu (by rw [uS gQ.out cc.out,dm.out,decide_eq_false (show¬(aO.mem ⟨nj,ob,ys⟩) < (aO.mem ⟨dO,iA,xs⟩) from by show¬nj < dO;omega)];rfl)).symm,aj I K.ae⟩
  ·obtain⟨f0,f1,f2,f3,f4⟩:=ai.aM
   obtain rfl:k= ad.length:=by omega
   go_wp2
   go_ret
   exact⟨ed cB.out.symm,(aj I az)⟩
open Go.RowKit Go.G9
structure eo where
 ag:Int
 af:Int
 sp:Int
 ws:List Int
 ad:List aO
def eo.ok (f:eo):Bool:=gd f.ag f.af f.sp f.ws f.ad
structure Pm (ag af sp:Int) (ws:List Int) (ad:List aO):Prop where
 t:1≤ag∧ag≤3
 s:1≤af∧af≤3600
 p:sp= 0∨ey sp= true
 l:ws.length≤10
 ok:∀x,x ∈ ad→ke ag af x= true
 ord:ad.Pairwise (fun a b=>a.mem < b.mem)
 w:∀m,m ∈ ws→ey m= true∧m≠sp∧nt ag af (ej ad m)= true
 dX:ws.Nodup
 k:sp= 0∨(ej ad sp).ek < ag
theorem ani {ag af:Int} {ad:List aO}:rG ag af ad= true↔(∀x,x ∈ ad→ke ag af x= true)∧ad.Pairwise (fun a b=>a.mem < b.mem):=by
 unfold rG
 rw [lJ]
 constructor
 ·intro h
  have ga:∀(k:Nat) (x:aO),ad[k]? =some x→ke ag af x= true:=by
   intro k x aw
   have aD:=(List.getElem?_eq_some_iff.1 aw).1;have aV:=h k aD
   cases k with
   | zero=>simpa only [qG,aw] using aV
   | succ j=>
    have hy:ad[j]? =some ad[j]:=List.getElem?_eq_getElem (by omega)
    simp only [qG,aw,hy,Bool.and_eq_true] at aV
    exact aV.1
  have iF:∀(j:Nat) (y x:aO),ad[j]? =some y→ad[j + 1]? =some x→y.mem < x.mem:=by
   intro j y x hy aw
   have aV:=h (j + 1) (List.getElem?_eq_some_iff.1 aw).1
   simp only [qG,aw,hy,Bool.and_eq_true,decide_eq_true_eq] at aV
   exact aV.2
  have hm:∀(d j:Nat) (y x:aO),ad[j]? =some y→ad[j + 1 + d]? =some x→y.mem < x.mem:=by
   intro d
   induction d with
   | zero=>exact iF
   | succ d er=>
    intro j y x hy aw
    have aT:=(List.getElem?_eq_some_iff.1 aw).1;have ck:ad[j + 1 + d]? =some ad[j + 1 + d]:=List.getElem?_eq_getElem (by omega);have h1:=er j y _ hy ck;have h2:=iF (j + 1 + d) _ x ck aw
    omega
  refine⟨fun x aw=>?_,List.pairwise_iff_getElem.2 fun i j hi bE xn=>?_⟩
  ·obtain⟨k,aD⟩:=List.mem_iff_getElem?.1 aw
   exact ga k x aD
  ·have e:i + 1 + (j - i - 1)= j:=by omega
   exact hm (j - i - 1) i _ _ (List.getElem?_eq_getElem hi) (by rw [e];exact List.getElem?_eq_getElem bE)
 ·rintro ⟨h1,h2⟩ k aD
  have aw:ad[k]? =some ad[k]:=List.getElem?_eq_getElem aD
  cases k with
  | zero=>simp only [qG,aw];exact h1 _ (List.getElem_mem _)
  | succ j=>
   have hy:ad[j]? =some ad[j]:=List.getElem?_eq_getElem (by omega)
   simp only [qG,aw,hy,Bool.and_eq_true,decide_eq_true_eq]
   exact⟨h1 _ (List.getElem_mem _),List.pairwise_iff_getElem.1 h2 j (j + 1) _ _ (by omega)⟩
theorem GK {ag af sp:Int} {ws:List Int} {ad:List aO}:gd ag af sp ws ad= true↔Pm ag af sp ws ad:=by
 unfold gd
 simp only [Bool.and_eq_true,Bool.or_eq_true,beq_iff_eq,decide_eq_true_eq,qt,ani,lJ,Od]
 constructor
 ·rintro ⟨h1,h2,h3,h4,⟨h5,h6⟩,h7,h8⟩
  have hw:∀(k:Nat) (m:Int),ws[k]? =some m→ey m= true∧m≠sp∧hasB (ws.take k) m= false∧nt ag af (ej ad m)= true:=by
   intro k m hm
   have:=h7 k (List.getElem?_eq_some_iff.1 hm).1
   simpa only [sC,hm,Bool.and_eq_true,Bool.not_eq_true',beq_eq_false_iff_ne] using this
  refine⟨h1,h2,h3,h4,h5,h6,fun m hm=>?_,List.pairwise_iff_getElem.2 fun i j hi bE xn e=>?_,h8⟩
  ·obtain⟨k,aD⟩:=List.mem_iff_getElem?.1 hm
   have:=hw k m aD
   exact⟨this.1,this.2.1,this.2.2.2⟩
  ·have:=(hw j _ (List.getElem?_eq_getElem bE)).2.2.1
   unfold hasB at this
   rw [List.any_eq_false] at this
   refine this ws[i] (List.mem_iff_getElem.2 ⟨i,by simp;omega,by simp⟩) ?_
   rw [e];simp
 ·rintro ⟨h1,h2,h3,h4,h5,h6,h7,h8,h9⟩
  refine⟨h1,h2,h3,h4,⟨h5,h6⟩,fun k aD=>?_,h9⟩
  have aw:ws[k]? =some ws[k]:=List.getElem?_eq_getElem aD
  simp only [sC,aw,Bool.and_eq_true,Bool.not_eq_true',beq_eq_false_iff_ne]
  have:=h7 _ (List.getElem_mem aD)
  refine⟨this.1,this.2.1,?_,this.2.2⟩
  unfold hasB
  rw [List.any_eq_false]
  intro x aw e
  obtain⟨i,hi,e2⟩:=List.mem_iff_getElem.1 aw
  simp at hi e2 e
  exact List.pairwise_iff_getElem.1 h8 i k (by omega) aD (by omega) (e2.trans e)
theorem ks {f:eo}:f.ok= true↔Pm f.ag f.af f.sp f.ws f.ad:=GK
def mM (f:eo) (m:Int):Bool:=f.ok && (ey m && (!(m == f.sp) && (!hasB f.ws m && (nt f.ag f.af (ej f.ad m) && !decide (f.ws.length= 10)))))
def py (f:eo) (m:Int):eo:={f with ws:=f.ws ++ [m]}
theorem acX {f:eo} {m:Int} (h:mM f m= true):(py f m).ok= true:=by
 simp only [mM,Bool.and_eq_true,Bool.not_eq_true',beq_eq_false_iff_ne,decide_eq_false_iff_not] at h
 obtain⟨h0,h1,h2,h3,h4,h5⟩:=h
 have H:=ks.1 h0
 refine ks.2 ⟨H.t,H.s,H.p,?_,H.ok,H.ord,?_,?_,H.k⟩
 ·have:=H.l;simp [py];omega
 ·intro x aw
  simp only [py,List.mem_append,List.mem_cons,List.not_mem_nil,or_false] at aw
  rcases aw with aw | rfl
  ·exact H.w x aw
  ·exact⟨h1,h2,h4⟩
 ·simp only [py]
  refine List.nodup_append.2 ⟨H.dX,by simp,?_⟩
  intro a cS b aF e
  simp at aF
  subst e;subst aF
  unfold hasB at h3
  rw [List.any_eq_false] at h3
  exact h3 _ cS (by simp)
def jU (f:eo):Nat→Nat
 | 0=>0
 | k + 1=>match f.ws[k]?,f.ws[jU f k]? with | some x,some y=>if (ej f.ad x).ek < (ej f.ad y).ek then k else jU f k | _,_=>jU f k
theorem zB (f:eo):∀k,0 < k→jU f k < k
 | 0,h=>absurd h (by omega)
 | k + 1,_=>by
  have er:jU f k≤k:=by
   cases k with
   | zero=>simp [jU]
   | succ j=>have:=zB f (j + 1) (by omega);omega
  unfold jU
  split
  ·split <;> omega
  ·omega
def rA (f:eo):Option Int:=f.ws[jU f f.ws.length]?
def lP (f:eo):Bool:=f.ok && ((f.sp == 0) && decide (0 < f.ws.length))
def qx (f:eo) (m:Int):eo:={f with sp:=m,ws:=f.ws.filter (fun x=>!(x == m)) }
theorem Np {f:eo} (h:0 < f.ws.length):∃m,rA f= some m∧m ∈ f.ws:=by
 have:=zB f f.ws.length h
 exact⟨f.ws[jU f f.ws.length],List.getElem?_eq_getElem this,List.getElem_mem _⟩
theorem ajT {m:Int} (h:ey m= true):m≠0:=by
 have:=qt.1 h
 omega
theorem akj {f:eo} {m:Int} (h:lP f= true) (hm:m ∈ f.ws):(qx f m).ok= true:=by
 simp only [lP,Bool.and_eq_true,beq_iff_eq,decide_eq_true_eq] at h
 obtain⟨h0,h1,h2⟩:=h
 have H:=ks.1 h0;have Qd:=H.w m hm
 refine ks.2 ⟨H.t,H.s,Or.inr Qd.1,?_,H.ok,H.ord,?_,?_,Or.inr ?_⟩
 ·have:=List.length_filter_le (fun x=>!(x == m)) f.ws
  have:=H.l
  simp only [qx]
  omega
 ·intro x aw
  simp only [qx,List.mem_filter,Bool.not_eq_true',beq_eq_false_iff_ne] at aw
  have:=H.w x aw.1
  exact⟨this.1,aw.2,this.2.2⟩
 ·exact H.dX.sublist List.filter_sublist
 ·have:=Qd.2.2
  simp only [nt,Bool.and_eq_true,decide_eq_true_eq] at this
  exact this.1
theorem aeD {xs:List Int} (h:xs.Nodup) {k:Nat} {m:Int} (hm:xs[k]? =some m):xs.filter (fun x=>!(x == m))= xs.take k ++ xs.drop (k + 1):=by
 obtain⟨aD,he⟩:=List.getElem?_eq_some_iff.1 hm
 have e:xs= xs.take k ++ m ::xs.drop (k + 1):=by rw [← he,← List.drop_eq_getElem_cons aD,List.take_append_drop]
 clear hm he;have aN:=h
 rw [e] at aN
 have mi:=List.nodup_append.1 aN;have oz:=List.nodup_cons.1 mi.2.1
 conv=>lhs;rw [e]
 rw [List.filter_append,List.filter_cons]
 simp only [BEq.rfl,Bool.not_true,Bool.false_eq_true,if_false]
 congr 1
 ·rw [List.filter_eq_self]
  intro a cS
  simp only [Bool.not_eq_true',beq_eq_false_iff_ne]
  exact mi.2.2 a cS _ List.mem_cons_self
 ·rw [List.filter_eq_self]
  intro a cS
  simp only [Bool.not_eq_true',beq_eq_false_iff_ne]
  intro e2;subst e2;exact oz.1 cS
def eW:List aO→aO→List aO
 | [],s=>[s]
 | x ::xs,s=>if x.mem < s.mem then x ::eW xs s else if x.mem= s.mem then s ::xs else s ::x ::xs
theorem Oa:∀(xs:List aO) (s:aO),(eW xs s).length≤xs.length + 1
 | [],s=>by simp [eW]
 | x ::xs,s=>by
  unfold eW
  split
  ·have:=Oa xs s;simp;omega
  ·split <;> simp
theorem Iv:∀{xs:List aO} {s x:aO},x ∈ eW xs s→x= s∨x ∈ xs
 | [],s,x,h=>by simp [eW] at h;exact Or.inl h
 | y ::xs,s,x,h=>by
  unfold eW at h
  split at h
  ·rcases List.mem_cons.1 h with rfl | h
   ·exact Or.inr List.mem_cons_self
   ·rcases Iv h with e | e
    ·exact Or.inl e
    ·exact Or.inr (List.mem_cons_of_mem _ e)
  ·split at h
   ·rcases List.mem_cons.1 h with rfl | h
    ·exact Or.inl rfl
    ·exact Or.inr (List.mem_cons_of_mem _ h)
   ·rcases List.mem_cons.1 h with rfl | h
    ·exact Or.inl rfl
    ·exact Or.inr h
theorem Ob:∀{xs:List aO} {s:aO},xs.Pairwise (fun a b=>a.mem < b.mem)→(eW xs s).Pairwise (fun a b=>a.mem < b.mem)
 | [],s,_=>by simp [eW]
 | y ::xs,s,h=>by
  obtain⟨h1,h2⟩:=List.pairwise_cons.1 h
  unfold eW
  split
  ·next bu=>
   refine List.pairwise_cons.2 ⟨fun a cS=>?_,Ob h2⟩
   rcases Iv cS with rfl | cS
   ·exact bu
   ·exact h1 a cS
  ·split
   ·next bu he=>
    refine List.pairwise_cons.2 ⟨fun a cS=>?_,h2⟩
    rw [← he];exact h1 a cS
   ·next bu he=>
    refine List.pairwise_cons.2 ⟨fun a cS=>?_,h⟩
    rcases List.mem_cons.1 cS with rfl | cS
    ·omega
    ·have:=h1 a cS;omega
theorem BQ (x:aO) (xs:List aO) (m:Int):ej (x ::xs) m= if x.mem= m then x else ej xs m:=by
 unfold ej
 rw [List.find?_cons]
 by_cases h:x.mem= m
 ·simp [oE,h]
 ·have:oE m x= false:=by simp [oE,h]
  simp [this,h]
theorem BP:∀{xs:List aO} {s:aO} (m:Int),xs.Pairwise (fun a b=>a.mem < b.mem)→ej (eW xs s) m= if m= s.mem then s else ej xs m
 | [],s,m,_=>by
  simp only [eW,BQ]
  by_cases h:s.mem= m
  ·rw [if_pos h,if_pos h.symm]
  ·rw [if_neg h,if_neg (fun e=>h e.symm)]
 | y ::xs,s,m,h=>by
  obtain⟨h1,h2⟩:=List.pairwise_cons.1 h
  unfold eW
  split
  ·next bu=>
   rw [BQ,BQ,BP m h2]
   by_cases hm:m= s.mem
   ·rw [if_pos hm,if_pos hm,if_neg (by omega)]
   ·rw [if_neg hm,if_neg hm]
  ·split
   ·next bu he=>
    rw [BQ,BQ]
    by_cases hm:m= s.mem
    ·rw [if_pos hm.symm,if_pos hm]
    ·rw [if_neg (fun e=>hm e.symm),if_neg hm,if_neg (by omega)]
   ·next bu he=>
    rw [BQ]
    by_cases hm:m= s.mem
    ·rw [if_pos hm.symm,if_pos hm]
    ·rw [if_neg (fun e=>hm e.symm),if_neg hm]
theorem Ix {xs:List aO} {m:Int}:(ej xs m).mem= m:=by
 unfold ej
 cases h:xs.find? (oE m) with
 | none=>rfl
 | some s=>have:=List.find?_some h;simpa [oE] using this
theorem Xi {ag af:Int} {xs:List aO} {m:Int} (h:∀x,x ∈ xs→ke ag af x= true) (ct:0≤ag) (aV:0≤af) (hm:ey m= true):ke ag af (ej xs m)= true:=by
 unfold ej
 cases hf:xs.find? (oE m) with
 | none=>simp [ke,hm,eT,ct,aV]
 | some s=>exact h s (List.mem_of_find?_eq_some hf)
def sG (f:eo):aO:=⟨f.sp,(ej f.ad f.sp).ek + 1,(ej f.ad f.sp).dS⟩
def lW (f:eo):eo:={f with sp:=0,ad:=eW f.ad (sG f) }
def lE (f:eo):Bool:=f.ok && !(f.sp == 0)
theorem BD {f:eo} (h:f.ok= true) (h0:f.sp≠0):ey f.sp= true∧ke f.ag f.af (ej f.ad f.sp)= true∧(ej f.ad f.sp).ek < f.ag:=by
 have H:=ks.1 h;have aN:ey f.sp= true:=H.p.resolve_left h0;have:=H.t;have:=H.s
 exact⟨aN,Xi H.ok (by omega) (by omega) aN,H.k.resolve_left h0⟩
theorem tQ {ag af:Int} {s:aO}:ke ag af s= true↔ey s.mem= true∧(0≤s.ek∧s.ek≤ag)∧0≤s.dS∧s.dS≤af:=by
 simp [ke,eT]
theorem Yg {f:eo} (h:lE f= true):(lW f).ok= true:=by
 simp only [lE,Bool.and_eq_true,Bool.not_eq_true',beq_eq_false_iff_ne] at h
 obtain⟨h0,h1⟩:=h
 obtain⟨aN,aV,ct⟩:=BD h0 h1
 have H:=ks.1 h0
 refine ks.2 ⟨H.t,H.s,Or.inl rfl,H.l,?_,Ob H.ord,?_,H.dX,Or.inl rfl⟩
 ·intro x aw
  rcases Iv aw with rfl | aw
  ·have:=tQ.1 aV
   exact tQ.2 ⟨aN,⟨by simp only [sG];omega,by simp only [sG,lW];omega⟩,by simp only [sG];omega,by simp only [sG,lW];omega⟩
  ·exact H.ok x aw
 ·intro m hm
  have:=H.w m hm
  refine⟨this.1,ajT this.1,?_⟩
  simp only [lW]
  rw [BP m H.ord,if_neg (by simp only [sG];exact this.2.1)]
  exact this.2.2
def ss (f:eo) (n:Int):Int:=if n < f.af - (ej f.ad f.sp).dS then n else f.af - (ej f.ad f.sp).dS
def qH (f:eo) (n:Int):aO:=⟨f.sp,(ej f.ad f.sp).ek,(ej f.ad f.sp).dS + ss f n⟩
def uU (f:eo) (n:Int):eo:={f with ad:=eW f.ad (qH f n) }
def jt (f:eo) (n:Int):eo:=if (qH f n).dS= f.af then lW (uU f n) else uU f n
def nf (f:eo) (n:Int):Bool:=f.ok && (!(f.sp == 0) && eT n 1 3600)
theorem Fk {f:eo} {n:Int} (h:nf f n= true):f.ok= true∧f.sp≠0∧1≤n∧n≤3600:=by
 simpa only [nf,Bool.and_eq_true,Bool.not_eq_true',beq_eq_false_iff_ne,qt] using h
theorem anm {f:eo} {n:Int} (h:nf f n= true):(uU f n).ok= true:=by
 obtain⟨h0,h1,h2,h3⟩:=Fk h
 obtain⟨aN,aV,ct⟩:=BD h0 h1
 have H:=ks.1 h0;have aD:=tQ.1 aV
 have hu:0≤ss f n∧(ej f.ad f.sp).dS + ss f n≤f.af:=by unfold ss;split <;> omega
 refine ks.2 ⟨H.t,H.s,H.p,H.l,?_,Ob H.ord,?_,H.dX,?_⟩
 ·intro x aw
  rcases Iv aw with rfl | aw
  ·exact tQ.2 ⟨aN,⟨by simp only [qH];omega,by simp only [qH,uU];omega⟩,by simp only [qH];omega,by simp only [qH,uU];omega⟩
  ·exact H.ok x aw
 ·intro m hm
  have:=H.w m hm
  refine⟨this.1,this.2.1,?_⟩
  simp only [uU]
  rw [BP m H.ord,if_neg (by simp only [qH];exact this.2.1)]
  exact this.2.2
 ·right
  simp only [uU]
  rw [BP f.sp H.ord,if_pos (show f.sp= (qH f n).mem from rfl)]
  exact ct
theorem anl {f:eo} {n:Int} (h:nf f n= true):(jt f n).ok= true:=by
 have:=anm h
 unfold jt
 split
 ·refine Yg ?_
  have h1:=(Fk h).2.1
  simp only [lE,this,Bool.true_and,Bool.not_eq_true',beq_eq_false_iff_ne]
  exact h1
 ·exact this
theorem BO:∀{xs:List aO} {s:aO} {k:Nat},k≤xs.length→(∀i x,i < k→xs[i]? =some x→x.mem < s.mem)→(∀x,xs[k]? =some x→¬x.mem < s.mem)→
  eW xs s= xs.take k ++ s ::(match xs[k]? with | some x=>if x.mem= s.mem then xs.drop (k + 1) else xs.drop k | none=>[])
 | [],s,k,aD,_,_=>by
  have:k= 0:=by simpa using aD
  subst this;rfl
 | x ::xs,s,0,_,_,h2=>by
  have:=h2 x rfl
  unfold eW
  rw [if_neg this]
  simp only [List.take_zero,List.nil_append,List.getElem?_cons_zero,List.drop_succ_cons,List.drop_zero]
  split <;> rfl
 | x ::xs,s,k + 1,aD,h1,h2=>by
  have aw:=h1 0 x (by omega) rfl
  unfold eW
  rw [if_pos aw,BO (k:=k) (by simpa using aD) (fun i y hi hy=>h1 (i + 1) y (by omega) (by simpa using hy)) (fun y hy=>h2 y (by simpa using hy))]
  simp
open Go.RowKit Go.G9
def AI (a b:Int):Int:=if a < b then -1 else if b < a then 1 else 0
theorem QJ (a b:Int):AI a b < 0↔a < b:=by
 unfold AI
 by_cases h:a < b
 ·simp [h]
 ·rw [if_neg h];split <;> simp [h]
section
variable {t:Int→Int}
def qR (t:Int→Int) (x z:Int):Int:=AI (t x) (t z)
theorem WV {p:Int→Bool} {S:List Int}:∀n,n≤S.length→(∀i z,oK p S n≤i→i < n→S[i]? =some z→p z= true)∧(∀j z,oK p S n= j + 1→S[j]? =some z→p z= false)
 | 0,_=>⟨fun i z _ h=>absurd h (by omega),fun j z h=>by simp [oK] at h⟩
 | n + 1,h=>by
  obtain⟨h1,h2⟩:=WV (p:=p) (S:=S) n (by omega)
  have ck:S[n]? =some S[n]:=List.getElem?_eq_getElem (by omega)
  cases aN:p S[n] with
  | true=>
   rw [WW ck aN]
   refine⟨fun i z hi iP aw=>?_,h2⟩
   by_cases e:i= n
   ·subst e;rw [ck] at aw;cases aw;exact aN
   ·exact h1 i z hi (by omega) aw
  | false=>
   rw [WU ck aN]
   refine⟨fun i z hi iP aw=>by omega,fun j z bE aw=>?_⟩
   obtain rfl:n= j:=by omega
   rw [ck] at aw;cases aw;exact aN
theorem aiM {S:List Int} {x:Int} (bH:S.Pairwise (fun a b=>t a≤t b)):∃A B,S= A ++ B∧xz (fun z=>decide (qR t x z < 0)) S x= A ++ x ::B∧(∀z ∈ A,t z≤t x)∧(∀z ∈ B,t x < t z):=by
 obtain⟨h1,h2⟩:=WV (p:=fun z=>decide (qR t x z < 0)) (S:=S) S.length (Nat.le_refl _)
 have hle:=NY (fun z=>decide (qR t x z < 0)) S S.length
 unfold xz
 generalize oK (fun z=>decide (qR t x z < 0)) S S.length= j at *
 refine⟨S.take j,S.drop j,(List.take_append_drop _ _).symm,rfl,fun z ck=>?_,fun z ck=>?_⟩
 ·obtain⟨i,hi⟩:=List.mem_iff_getElem?.1 ck
  rw [List.getElem?_take] at hi
  split at hi
  ·rename_i xn
   obtain⟨qu,rfl⟩ :∃qu,j= qu + 1:=⟨j - 1,by omega⟩
   have hy:S[qu]? =some S[qu]:=List.getElem?_eq_getElem (by omega);have h3:=h2 qu _ rfl hy
   have h3:¬t x < t S[qu]:=fun h=>of_decide_eq_false h3 ((QJ _ _).2 h)
   by_cases e:i= qu
   ·subst e;rw [hy] at hi;cases hi;omega
   ·obtain⟨afZ,aga⟩:=List.getElem?_eq_some_iff.1 hi
    have:=List.pairwise_iff_getElem.1 bH i qu afZ (by omega) (by omega)
    rw [aga] at this;omega
  ·cases hi
 ·obtain⟨i,hi⟩:=List.mem_iff_getElem?.1 ck
  rw [List.getElem?_drop] at hi
  have h3:=h1 (j + i) z (by omega) (List.getElem?_eq_some_iff.1 hi).1 hi
  exact (QJ _ _).1 (of_decide_eq_true h3)
theorem Fo {xs:List Int}:∀k,k≤xs.length→(ih (qR t) xs k).Pairwise (fun a b=>t a≤t b)∧∀v:Int,(ih (qR t) xs k).filter (fun z=>t z == v)= (xs.take k).filter (fun z=>t z == v)
 | 0,_=>⟨List.Pairwise.nil,fun v=>rfl⟩
 | k + 1,h=>by
  obtain⟨h1,h2⟩:=Fo (xs:=xs) k (by omega)
  have aw:xs[k]? =some xs[k]:=List.getElem?_eq_getElem (by omega)
  generalize xs[k]= x at *
  rw [Iz aw]
  obtain⟨A,B,e1,e2,e3,e4⟩:=aiM (x:=x) h1
  rw [e2]
  rw [e1] at h1 h2
  obtain⟨dq,cZ,uL⟩:=List.pairwise_append.1 h1
  refine⟨List.pairwise_append.2 ⟨dq,List.pairwise_cons.2 ⟨fun z ck=>by have:=e4 z ck;omega,cZ⟩,fun a cS b aF=>?_⟩,fun v=>?_⟩
  ·rcases List.mem_cons.1 aF with rfl | aF
   ·exact e3 a cS
   ·exact uL a cS b aF
  ·have h3:=h2 v
   rw [List.take_add_one,aw,Option.toList_some]
   simp only [List.filter_append] at h3 ⊢
   rw [← h3,List.filter_cons]
   by_cases ax:t x= v
   ·have bG:B.filter (fun z=>t z == v)= []:=by
     rw [List.filter_eq_nil_iff]
     intro z ck
     have:=e4 z ck
     simp;omega
    rw [bG]
    simp [ax]
   ·simp [ax]
theorem Xw:∀{nA pU:List Int},nA.Pairwise (fun a b=>t a≤t b)→pU.Pairwise (fun a b=>t a≤t b)→(∀v:Int,nA.filter (fun z=>t z == v)= pU.filter (fun z=>t z == v))→nA= pU
 | [],[],_,_,_=>rfl
 | [],b ::pU,_,_,h=>by
  have:=h (t b)
  simp at this
 | a ::nA,[],_,_,h=>by
  have:=h (t a)
  simp at this
 | a ::nA,b ::pU,h1,h2,h=>by
  obtain⟨a1,a2⟩:=List.pairwise_cons.1 h1
  obtain⟨dF,dJ⟩:=List.pairwise_cons.1 h2
  have DL:t a= t b:=by
   by_cases bu:t a < t b
   ·have h3:=h (t a)
    have:(b ::pU).filter (fun z=>t z == t a)= []:=by
     rw [List.filter_eq_nil_iff]
     intro z ck
     rcases List.mem_cons.1 ck with rfl | ck
     ·simp;omega
     ·have:=dF z ck;simp;omega
    rw [this] at h3
    simp at h3
   ·by_cases Hf:t b < t a
    ·have h3:=h (t b)
     have:(a ::nA).filter (fun z=>t z == t b)= []:=by
      rw [List.filter_eq_nil_iff]
      intro z ck
      rcases List.mem_cons.1 ck with rfl | ck
      ·simp;omega
      ·have:=a1 z ck;simp;omega
     rw [this] at h3
     simp at h3
    ·omega
  have h3:=h (t a)
  rw [List.filter_cons,List.filter_cons,DL] at h3
  simp only [BEq.rfl,if_true] at h3
  injection h3 with h4 h5
  subst h4
  congr 1
  refine Xw a2 dJ fun v=>?_
  have h6:=h v
  rw [List.filter_cons,List.filter_cons] at h6
  split at h6
  ·injection h6
  ·exact h6
end
def iS (f:eo) (x:Int):Int:=(ej f.ad x).ek
def kf (f:eo):List Int:=ih (qR (iS f)) f.ws f.ws.length
theorem BR (f:eo):(kf f).length= f.ws.length:=uW _ (Nat.le_refl _)
theorem No (f:eo):∀k,0 < k→k≤f.ws.length→∃m,f.ws[jU f k]? =some m∧(∀i x,i < k→f.ws[i]? =some x→iS f m≤iS f x)∧(∀i x,i < jU f k→f.ws[i]? =some x→iS f m < iS f x)
 | 0,h,_=>absurd h (by omega)
 | 1,_,aT=>by
  have aw:f.ws[0]? =some f.ws[0]:=List.getElem?_eq_getElem (by omega)
  have e:jU f 1= 0:=by
   have:=zB f 1 (by omega)
   omega
  rw [e]
  refine⟨_,aw,fun i x hi h=>?_,fun i x hi=>absurd hi (by omega)⟩
  obtain rfl:i= 0:=by omega
  rw [aw] at h;cases h;exact Int.le_refl _
 | k + 2,_,aT=>by
  obtain⟨m,h1,h2,h3⟩:=No f (k + 1) (by omega) (by omega)
  have aw:f.ws[k + 1]? =some f.ws[k + 1]:=List.getElem?_eq_getElem (by omega)
  generalize f.ws[k + 1]= x at *
  have bu:=zB f (k + 1) (by omega)
  rw [jU,aw,h1]
  dsimp only
  by_cases aH:(ej f.ad x).ek < (ej f.ad m).ek
  ·rw [if_pos aH]
   have ql:iS f x < iS f m:=aH
   refine⟨x,aw,fun i y hi hy=>?_,fun i y hi hy=>?_⟩
   ·by_cases e:i= k + 1
    ·subst e;rw [aw] at hy;cases hy;exact Int.le_refl _
    ·have:=h2 i y (by omega) hy;omega
   ·have:=h2 i y hi hy;omega
  ·rw [if_neg aH]
   have ql:¬iS f x < iS f m:=aH
   refine⟨m,h1,fun i y hi hy=>?_,h3⟩
   by_cases e:i= k + 1
   ·subst e;rw [aw] at hy;cases hy;omega
   ·exact h2 i y (by omega) hy
theorem Rt {P:Int→Bool}:∀{xs:List Int} {j:Nat} {m:Int},xs[j]? =some m→P m= true→(∀i x,i < j→xs[i]? =some x→P x= false)→∃r,xs.filter P= m ::r
 | [],j,m,h,_,_=>by simp at h
 | y ::xs,0,m,h,aN,_=>by
  simp at h;subst h
  exact⟨xs.filter P,by simp [aN]⟩
 | y ::xs,j + 1,m,h,aN,aY=>by
  have hy:=aY 0 y (by omega) rfl
  obtain⟨r,bp⟩:=Rt (xs:=xs) (j:=j) (m:=m) (by simpa using h) aN (fun i x hi aw=>aY (i + 1) x (by omega) (by simpa using aw))
  exact⟨r,by rw [List.filter_cons,hy];simpa using bp⟩
theorem ann {f:eo} (h:0 < f.ws.length):(kf f)[0]? =rA f:=by
 obtain⟨m,h1,h2,h3⟩:=No f f.ws.length h (Nat.le_refl _)
 obtain⟨s1,s2⟩:=Fo (t:=iS f) (xs:=f.ws) f.ws.length (Nat.le_refl _)
 have aT:=BR f
 unfold rA
 rw [h1]
 have e0:ih (qR (iS f)) f.ws f.ws.length= kf f:=rfl
 rw [e0] at s1 s2
 generalize kf f= S at *
 cases S with
 | nil=>simp at aT;omega
 | cons a S=>
  obtain⟨a1,a2⟩:=List.pairwise_cons.1 s1
  rw [List.take_length] at s2
  have ham:a ∈ f.ws:=by
   have h5:=s2 (iS f a)
   rw [List.filter_cons] at h5
   simp only [BEq.rfl,if_true] at h5
   have:a ∈ f.ws.filter (fun z=>iS f z == iS f a):=by rw [← h5];exact List.mem_cons_self
   exact (List.mem_filter.1 this).1
  obtain⟨i,hi⟩:=List.mem_iff_getElem?.1 ham
  have eI:=h2 i a (List.getElem?_eq_some_iff.1 hi).1 hi
  obtain⟨r,bp⟩:=Rt (P:=fun z=>iS f z == iS f m) h1 (by simp) (fun i x hi aw=>by have:=h3 i x hi aw;simp;omega)
  have h5:=s2 (iS f m)
  rw [bp] at h5
  have hm:m ∈ a ::S:=by
   have:m ∈ (a ::S).filter (fun z=>iS f z == iS f m):=by rw [h5];exact List.mem_cons_self
   exact (List.mem_filter.1 this).1
  have cp:iS f a≤iS f m:=by
   rcases List.mem_cons.1 hm with rfl | hm
   ·exact Int.le_refl _
   ·exact a1 m hm
  rw [List.filter_cons] at h5
  have:(iS f a == iS f m)= true:=by simp;omega
  rw [this] at h5
  simp only [if_true] at h5
  injection h5 with h6 h7
  subst h6;rfl
open Go.RowKit Go.G9
def wG (f:eo) (k:Nat):eo:={f with ws:=f.ws.take k ++ f.ws.drop (k + 1) }
theorem UX {t:Int→Int} {xs:List Int} {x:Int} (h:x ∈ ih (qR t) xs xs.length):x ∈ xs:=by
 have h2:=(Fo (t:=t) (xs:=xs) xs.length (Nat.le_refl _)).2 (t x)
 rw [List.take_length] at h2
 have h3:x ∈ (ih (qR t) xs xs.length).filter (fun z=>t z == t x):=List.mem_filter.2 ⟨h,by simp⟩
 rw [h2] at h3
 exact (List.mem_filter.1 h3).1
theorem ano {f:eo} (h:f.ws.length= 0):kf f= []:=List.length_eq_zero_iff.1 ((BR f).trans h)
theorem anp (f:eo) (h:0 < f.ws.length):∃m,f.ws[jU f f.ws.length]? =some m∧kf f= m ::kf (wG f (jU f f.ws.length)):=by
 obtain⟨m,h1,h2,h3⟩:=No f f.ws.length h (Nat.le_refl _)
 refine⟨m,h1,?_⟩
 generalize jU f f.ws.length= k at *
 obtain⟨s1,s2⟩:=Fo (t:=iS f) (xs:=f.ws) f.ws.length (Nat.le_refl _)
 obtain⟨dL,r2⟩:=Fo (t:=iS f) (xs:=(wG f k).ws) (wG f k).ws.length (Nat.le_refl _)
 have aD:k < f.ws.length:=(List.getElem?_eq_some_iff.1 h1).1
 have hw:f.ws= f.ws.take k ++ m ::f.ws.drop (k + 1):=by
  have e:=List.take_append_drop k f.ws
  rw [List.drop_eq_getElem_cons aD,(List.getElem?_eq_some_iff.1 h1).2] at e
  exact e.symm
 have qX:∀x ∈ f.ws,iS f m≤iS f x:=fun x aw=>by
  obtain⟨i,hi⟩:=List.mem_iff_getElem?.1 aw
  exact h2 i x (List.getElem?_eq_some_iff.1 hi).1 hi
 have qY:∀x ∈ f.ws.take k,iS f m < iS f x:=fun x aw=>by
  obtain⟨i,hi⟩:=List.mem_iff_getElem?.1 aw
  have bu:i < k:=by have:=(List.getElem?_eq_some_iff.1 hi).1;rw [List.length_take] at this;omega
  rw [List.getElem?_take_of_lt bu] at hi
  exact h3 i x bu hi
 rw [List.take_length] at s2 r2
 refine Xw (t:=iS f) s1 (List.pairwise_cons.2 ⟨fun x aw=>?_,dL⟩) fun v=>?_
 ·have hm:=UX (t:=iS f) aw
  refine qX x ?_
  rw [hw]
  simp only [wG,List.mem_append,List.mem_cons] at hm ⊢
  rcases hm with hm | hm
  ·exact .inl hm
  ·exact .inr (.inr hm)
 ·have e1:=s2 v
  have e2:=r2 v;have e3:kf (wG f k)= ih (qR (iS f)) (wG f k).ws (wG f k).ws.length:=rfl;have e0:kf f= ih (qR (iS f)) f.ws f.ws.length:=rfl
  rw [e0,e1,List.filter_cons,e3,e2]
  conv=>lhs;rw [hw]
  simp only [wG,List.filter_append,List.filter_cons]
  by_cases ax:(iS f m == v)= true
  ·have e4:(f.ws.take k).filter (fun z=>iS f z == v)= []:=by
    rw [List.filter_eq_nil_iff]
    intro x aw
    have:=qY x aw;have:=beq_iff_eq.1 ax
    simp;omega
   rw [e4,if_pos ax,if_pos ax];rfl
  ·rw [if_neg ax,if_neg ax]
end Go.Proofs.YtlaaemmmbodaaaaGreatDoor
