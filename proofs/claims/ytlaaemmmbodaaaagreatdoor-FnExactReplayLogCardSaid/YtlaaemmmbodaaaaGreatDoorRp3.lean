/- Parts. -/
import Derived.Test.YtlaaemmmbodaaaaGreatDoorRp2
set_option maxHeartbeats 16000000
set_option maxRecDepth 100000
set_option linter.unnecessarySimpa false
set_option linter.unusedSimpArgs false
set_option linter.unusedVariables false
namespace Go.Proofs.YtlaaemmmbodaaaaGreatDoor
open Go.RowKit Go.G9
theorem Dc (b off c k:Nat) (xs:List Int) (n:Int) (aD:k≤xs.length) (aY:xs.length≤1048576) (v:Bool) (ax:hasB (xs.take k) n= v) (w:World) (bn:aS 1 bV w (some ⟨b,off,none⟩) xs):
 Calls Tryz.prog 199 #[.slice (some ⟨b,off,none⟩) k c,n] w fun e ah=>e= .returned v∧Below w w ah:=by
 have pO:(xs.take k).length= k:=by rw [List.length_take];omega
 have h:=yA (some ⟨b,off,none⟩) c (xs.take k) n (by omega) v ax w (NP bn k)
 rw [pO] at h;exact h
theorem Bx (b off c k:Nat) (xs:List Int) (n:Int) (aD:k≤xs.length) (aY:xs.length≤1048576) (v:Bool) (ax:hasB (xs.take k) n= v) (w:World) (bn:aS 1 bV w (some ⟨b,off,none⟩) xs):
 Calls Tryz.prog 265 #[.slice (some ⟨b,off,none⟩) k c,n] w fun e ah=>e= .returned v∧Below w w ah:=by
 have pO:(xs.take k).length= k:=by rw [List.length_take];omega
 have h:=xB (some ⟨b,off,none⟩) c (xs.take k) n (by omega) v ax w (NP bn k)
 rw [pO] at h;exact h
theorem aeG {ag af sp:Int} {ws:List Int} {ad:List aO} (h:eT ag 1 3= false):gd ag af sp ws ad= false:=by rw [gd,h];simp
theorem aeH {ag af sp:Int} {ws:List Int} {ad:List aO} (h:eT af 1 3600= false):gd ag af sp ws ad= false:=by rw [gd,h];simp
theorem Rz {ag af sp:Int} {ws:List Int} {ad:List aO} (h0:sp≠0) (h:ey sp= false):gd ag af sp ws ad= false:=by rw [gd,h,beq_eq_false_iff_ne.2 h0];simp
theorem RA {ag af sp:Int} {ws:List Int} {ad:List aO} (h:¬ws.length≤10):gd ag af sp ws ad= false:=by rw [gd,decide_eq_false h];simp
theorem aeI {ag af:Int} {ws:List Int} {ad:List aO} (h1:eT ag 1 3= true) (h2:eT af 1 3600= true) (h4:ws.length≤10) (h5:rG ag af ad= true) (h6:gy (sC ag af 0 ws ad) ws.length= true):gd ag af 0 ws ad= true:=by
 rw [gd,h1,h2,decide_eq_true h4,h5,h6];rfl
theorem RB {ag af sp:Int} {ws:List Int} {ad:List aO} (h1:eT ag 1 3= true) (h2:eT af 1 3600= true) (h0:sp≠0) (h3:ey sp= true) (h4:ws.length≤10) (h5:rG ag af ad= true) (h6:gy (sC ag af sp ws ad) ws.length= true):gd ag af sp ws ad= decide ((ej ad sp).ek < ag):=by
 rw [gd,h1,h2,h3,decide_eq_true h4,h5,h6,Od,beq_eq_false_iff_ne.2 h0];simp
theorem Yh {p:Prop} (h:p:=by
 obtain⟨b,off,x,rfl,ew,aw,bz⟩:=bH.at_ (Below.refl _ _) bu
 obtain⟨dO,iA,xs⟩:=x
 have f4:=(ai.cell 4).trans (show _= some (.slice (some ⟨b,off,none⟩) ad fm) from rfl);have ch:=bz 0 _ rfl;have dq:=bz 1 _ rfl;have cZ:=bz 2 _ rfl
 simp only [Nat.add_zero] at ch
 have g0:=ch (ay.self _);have g1:=dq (ay.self _);have g2:=cZ (ay.self _)
 simp only [ay.self] at g0
 simp only [ay.self] at g1
 simp only [ay.self] at g2
 have cc:=J aw;clear aw bz
 go_upto_region 6 with fail
 clear f4
 refine cF fun aG al aR=>?_
 replace bH:=bH.ae al;replace bL:=bL.ae al;replace I:=aj I al;have bF:=aR.cq;replace ai:=ai.to al
 obtain⟨f0,f1,f2,f3,f4⟩:=ai.aM
 clear ch dq cZ g0 g1 g2
 cases h1:ey dO
 ·have H1:=J h1;clear h1
  clear bF;have bF:=aB.jv (fun K:ay aG.heap.size aG=>(aR.ae K.ae aR.lt));clear f0 f1 f2 f3 f4
  obtain⟨f0,f1,f2,f3,f4⟩:=aB.jH (fun K:ay aG.heap.size aG=>(ai.ae K.ae ai.lt))
  refine eK (by kernel_rfl) (by kernel_rfl) ?_
  repeat (go_big_quiet_step (fail))
  go_big_quiet_step ((go_at_call 123;exact ay.same _ (iG dO _ H1.out _)))
  repeat (go_big_quiet_step (fail))
  refine wpQuiet_nil ?_
  intro K
  go_wp2
  go_ret
  exact⟨ed (Dm (xM bu (by cases k with | zero=>(rw [xL cc.out,ke];simp only [H1.out];simp) | succ j=>(have hy:ad[j]? =some ad[j]:=List.getElem?_eq_getElem (by omega);rw [uS hy cc.out,ke];simp only [H1.out];simp)))).symm,aj I K.ae⟩
 have H1:=J h1;clear h1
 cases h2:eT iA 0 ag
 ·have fY:=J h2;clear h2
  clear bF;have bF:=aB.jv (fun K:ay aG.heap.size aG=>(aR.ae K.ae aR.lt));clear f0 f1 f2 f3 f4
  obtain⟨f0,f1,f2,f3,f4⟩:=aB.jH (fun K:ay aG.heap.size aG=>(ai.ae K.ae ai.lt))
  refine eK (by kernel_rfl) (by kernel_rfl) ?_
  repeat (go_big_quiet_step (fail))
  go_big_quiet_step ((go_at_call 123;exact ay.same _ (iG dO _ H1.out _)))
  repeat (go_big_quiet_step (fail))
  go_big_quiet_step ((go_at_call 79;exact ay.same _ (iX iA 0 ag _ fY.out _)))
  repeat (go_big_quiet_step (fail))
  refine wpQuiet_nil ?_
  intro K
  go_wp2
  go_ret
  exact⟨ed (Dm (xM bu (by cases k with | zero=>(rw [xL cc.out,ke];simp only [H1.out,fY.out];simp) | succ j=>(have hy:ad[j]? =some ad[j]:=List.getElem?_eq_getElem (by omega);rw [uS hy cc.out,ke];simp only [H1.out,fY.out];simp)))).symm,aj I K.ae⟩
 have fY:=J h2;clear h2
 cases h3:eT xs 0 af
 ·have hr:=J h3;clear h3
  clear bF;have bF:=aB.jv (fun K:ay aG.heap.size aG=>(aR.ae K.ae aR.lt));clear f0 f1 f2 f3 f4
  obtain⟨f0,f1,f2,f3,f4⟩:=aB.jH (fun K:ay aG.heap.size aG=>(ai.ae K.ae ai.lt))
  refine eK (by kernel_rfl) (by kernel_rfl) ?_
  repeat (go_big_quiet_step (fail))
  go_big_quiet_step ((go_at_call 123;exact ay.same _ (iG dO _ H1.out _)))
  repeat (go_big_quiet_step (fail))
  go_big_quiet_step ((go_at_call 79;exact ay.same _ (iX iA 0 ag _ fY.out _)))
  repeat (go_big_quiet_step (fail))
  go_big_quiet_step ((go_at_call 79;exact ay.same _ (iX xs 0 af _ hr.out _)))
  repeat (go_big_quiet_step (fail))
  refine wpQuiet_nil ?_
  intro K
  go_wp2
  go_ret
  exact⟨ed (Dm (xM bu (by cases k with | zero=>(rw [xL cc.out,ke];simp only [H1.out,fY.out,hr.out];simp) | succ j=>(have hy:ad[j]? =some ad[j]:=List.getElem?_eq_getElem (by omega);rw [uS hy cc.out,ke];simp only [H1.out,fY.out,hr.out];simp)))).symm,aj I K.ae⟩
 have hr:=J h3;clear h3;have dm:Hid (ke ag af ⟨dO,iA,xs⟩ =true):=J (by rw [ke];simp only [H1.out,fY.out,hr.out];rfl)
 cases k with
 | zero=>
  clear bF;have bF:=aB.jv (fun K:ay aG.heap.size aG=>(aR.ae K.ae aR.lt));clear f0 f1 f2 f3 f4
  obtain⟨f0,f1,f2,f3,f4⟩:=aB.jH (fun K:ay aG.heap.size aG=>(ai.ae K.ae ai.lt))
  refine eK (by kernel_rfl) (by kernel_rfl) ?_
  repeat (go_big_quiet_step (fail))
  go_big_quiet_step ((go_at_call 123;exact ay.same _ (iG dO _ H1.out _)))
  repeat (go_big_quiet_step (fail))
  go_big_quiet_step ((go_at_call 79;exact ay.same _ (iX iA 0 ag _ fY.out _)))
  repeat (go_big_quiet_step (fail))
  go_big_quiet_step ((go_at_call 79;exact ay.same _ (iX xs 0 af _ hr.out _)))
  repeat (go_big_quiet_step (fail))
  refine wpQuiet_nil ?_
  intro K
  go_wp2
  go_roundw
  case rel=>exact⟨1,by omega,by go_num,mv cB.out (by rw [xL cc.out];exact dm.out),aj I K.ae,ai.ae K.ae ai.lt⟩
  case measure=>simp [intOf];omega
 | succ j=>
  obtain⟨dc,uK,y,gz,_,hy,cX⟩:=bH.at_ (Below.refl _ _) (k:=j) (by omega)
  simp only [Option.some.injEq,Addr.mk.injEq,and_true] at gz
  obtain⟨rfl,rfl⟩:=gz
  obtain⟨nj,ob,ys⟩:=y
  have iI:=cX 0 _ rfl
  simp only [Nat.add_zero] at iI
  have gQ:=J hy;clear hy cX
  by_cases xr:nj < dO
  ·have hle:decide (dO≤nj)= false:=decide_eq_false (by omega)
   clear bF;have bF:=aB.jv (fun K:ay aG.heap.size aG=>(aR.ae K.ae aR.lt));clear f0 f1 f2 f3 f4
   obtain⟨f0,f1,f2,f3,f4⟩:=aB.jH (fun K:ay aG.heap.size aG=>(ai.ae K.ae ai.lt))
   refine eK (by kernel_rfl) (by kernel_rfl) ?_
   repeat (go_big_quiet_step (fail))
   go_big_quiet_step ((go_at_call 123;exact ay.same _ (iG dO _ H1.out _)))
   repeat (go_big_quiet_step (fail))
   go_big_quiet_step ((go_at_call 79;exact ay.same _ (iX iA 0 ag _ fY.out _)))
   repeat (go_big_quiet_step (fail))
   go_big_quiet_step ((go_at_call 79;exact ay.same _ (iX xs 0 af _ hr.out _)))
   repeat (go_big_quiet_step (fail))
   refine wpQuiet_nil ?_
   intro K
   go_wp2
   go_roundw
   case rel=>exact⟨j + 1 + 1,by omega,by go_num,mv cB.out (by rw [uS gQ.out cc.out,dm.out,decide_eq_true (show (aO.mem ⟨nj,ob,ys⟩) < (aO.mem ⟨dO,iA,xs⟩) from xr)];rfl),aj I K.ae,ai.ae K.ae ai.lt⟩
   case measure=>simp [intOf];omega
  ·have hle:decide (dO≤nj)= true:=decide_eq_true (by omega)
   clear bF;have bF:=aB.jv (fun K:ay aG.heap.size aG=>(aR.ae K.ae aR.lt));clear f0 f1 f2 f3 f4
   obtain⟨f0,f1,f2,f3,f4⟩:=aB.jH (fun K:ay aG.heap.size aG=>(ai.ae K.ae ai.lt))
   refine eK (by kernel_rfl) (by kernel_rfl) ?_
   repeat (go_big_quiet_step (fail))
   go_big_quiet_step ((go_at_call 123;exact ay.same _ (iG dO _ H1.out _)))
   repeat (go_big_quiet_step (fail))
   go_big_quiet_step ((go_at_call 79;exact ay.same _ (iX iA 0 ag _ fY.out _)))
   repeat (go_big_quiet_step (fail))
   go_big_quiet_step ((go_at_call 79;exact ay.same _ (iX xs 0 af _ hr.out _)))
   repeat (go_big_quiet_step (fail))
   refine wpQuiet_nil ?_
   intro K
   go_wp2
   go_ret
   exact⟨ed (Dm (xM bu (by rw [uS gQ.out cc.out,dm.out,decide_eq_false (show¬(aO.mem ⟨nj,ob,ys⟩) < (aO.mem ⟨dO,iA,xs⟩) from by show¬nj < dO;omega)];rfl))).symm,aj I K.ae⟩):p:=h
theorem abq {p:Prop} (h:p:=by
 have hK:=J h1;clear h1
 go_wp2_with fail
 refine (iG m _ hK.out _).mono ?_
 rintro e w0 ⟨rfl,h0⟩
 rw [h0]
 clear h0 w0
 go_wp2
 go_ret
 exact⟨ed (xa bu (by rw [va cc.out];simp only [hK.out];simp)).symm,(aj I az)⟩):p:=h
theorem abt {p:Prop} (h:p:=by
 have lF:=J h2
 go_wp2_with fail
 refine (iG m _ hK.out _).mono ?_
 rintro e w0 ⟨rfl,h0⟩
 rw [h0]
 clear h0 w0
 go_wp2
 go_ret
 exact⟨ed (xa bu (by rw [va cc.out];simp only [hK.out,lF.out];simp)).symm,(aj I az)⟩):p:=h
theorem aal {p:Prop} (h:p:=by
 have lG:=J h3;clear h3
 go_wp2_with fail
 refine (iG m _ hK.out _).mono ?_
 rintro e w0 ⟨rfl,h0⟩
 rw [h0]
 clear h0 w0
 go_wp2_with fail
 refine (Dc b off _ k ws m (by omega) hw _ lG.out _ (bL.ae az)).mono ?_
 rintro e aJ ⟨rfl,aL⟩
 have al:=be wr aL;replace I:=aj I al;replace bH:=bH.ae al;replace bL:=bL.ae al;replace ai:=ai.to al;clear f0 f1 f2 f3 f4
 obtain⟨f0,f1,f2,f3,f4⟩:=ai.aM
 go_wp2
 go_ret
 exact⟨ed (xa bu (by rw [va cc.out];simp only [hK.out,lF.out,lG.out];simp)).symm,(aj I az)⟩):p:=h
theorem aaR {p:Prop} (h:p:=by
 rintro e bB ⟨rfl,bx⟩
 have aP:=be aJ bx;replace I:=aj I aP;replace bH:=bH.ae aP;replace bL:=bL.ae aP;replace ai:=ai.to aP;clear f0 f1 f2 f3 f4
 obtain⟨f0,f1,f2,f3,f4⟩:=ai.aM
 go_wp2
 go_ret
 exact⟨ed (xa bu (by rw [va cc.out];simp only [hK.out,lF.out,lG.out,nn.out];simp)).symm,(aj I az)⟩):p:=h
theorem aaE {p:Prop} (h:p:=by
 rintro e bB ⟨rfl,bx⟩
 have aP:=be aJ bx;replace I:=aj I aP;replace bH:=bH.ae aP;replace bL:=bL.ae aP;replace ai:=ai.to aP;clear f0 f1 f2 f3 f4
 obtain⟨f0,f1,f2,f3,f4⟩:=ai.aM
 go_wp2
 go_roundw
 case rel=>exact⟨k + 1,by omega,by go_num,mv cB.out (by rw [va cc.out];simp only [hK.out,lF.out,lG.out,nn.out];rfl),I,ai⟩
 case measure=>simp [intOf];omega):p:=h
theorem Yp {p:Prop} (h:p:=by
 refine eK (by kernel_rfl) (by kernel_rfl) ?_
 repeat (go_big_quiet_step (fail))
 refine wpQuiet_nil ?_
 intro K
 go_wp2
 go_ret
 exact⟨ed (aeI H1.out fY.out h4 lr.out cB.out).symm,aj I K.ae⟩):p:=h
theorem ahK (ag af:Int) (W:Option Addr) (ws:List Int) (wc:Nat) (S:Option Addr) (fm:Nat) (ad:List aO) (hw:ws.length≤1048576) (aY:ad.length≤1048576) (aH:ws.length≤wc) (h1:eT ag 1 3= true) (h2:eT af 1 3600= true) (h4:ws.length≤10) (w:World) (bL:aS 1 bV w W ws) (bH:aS 3 aO.cells w S ad):
 Calls Tryz.prog 119 #[.agg #[ag,af,(0:Int),.slice W ws wc,.slice S ad fm]] w fun e ah=>e= .returned (.bool (gd ag af 0 ws ad))∧Below w w ah:=by
 have H1:=J h1;have fY:=J h2;clear h1 h2
 skip
 go_in
 have td:=J bH;have vK:=J bL
 go_upto_region 1 with fail
 refine cF fun aG au ai=>?_
 replace bH:=bH.ae au;replace bL:=bL.ae au;have I:=au
 obtain⟨f0,f1,f2,f3,f4⟩:=ai.aM
 go_wp2_with fail
 refine (iX ag 1 3 _ H1.out _).mono ?_
 rintro e w0 ⟨rfl,h0⟩
 rw [h0]
 clear h0 w0
 go_wp2_with fail
 refine (iX af 1 3600 _ fY.out _).mono ?_
 rintro e w0 ⟨rfl,h0⟩
 rw [h0]
 clear h0 w0
 skip
 go_wp2
 go_loopw [37] (fun i wr=>∃k:Nat,k≤ad.length∧i= .int .i64 k∧gy (qG ag af ad) k= true∧Below w w wr∧aB wr w.heap.size 41 #[ag,af,(0:Int),.slice W ws wc,.slice S ad fm]) (fun i _=>ad.length - (intOf i).toNat)
 case atStart=>exact⟨0,Nat.zero_le _,rfl,rfl,I,ai⟩
 case round=>
  clear bH bL I f0 f1 f2 f3 f4 ai
  obtain⟨k,aD,rfl,aT,aF,ai⟩:=hrel
  have cB:=J aT;clear aT;have bH:=td.out;have bL:=vK.out;have au:=be w aF;have I:Below w w wr:=au;replace bH:=bH.ae au;replace bL:=bL.ae au
  by_cases bu:k < ad.length
  ·exact Yh
  ·obtain⟨f0,f1,f2,f3,f4⟩:=ai.aM
   obtain rfl:k= ad.length:=by omega
   have lr:Hid (rG ag af ad= true):=J cB.out;clear cB
   go_upto_region 9 with fail
   go_wp2
   clear f0 f1 f2 f3 f4
   go_loopw [82] (fun i wr=>∃k:Nat,k≤ws.length∧i= .int .i64 k∧gy (sC ag af 0 ws ad) k= true∧Below w w wr∧aB wr w.heap.size 41 #[ag,af,(0:Int),.slice W ws wc,.slice S ad fm]) (fun i _=>ws.length - (intOf i).toNat)
   case atStart=>exact⟨0,Nat.zero_le _,rfl,rfl,I,ai⟩
   case round=>
    clear bH bL I ai
    obtain⟨k,aD,rfl,aT,aF,ai⟩:=hrel
    have cB:=J aT;clear aT;have bH:=td.out;have bL:=vK.out;have au:=be w aF;have I:Below w w wr:=au;replace bH:=bH.ae au;replace bL:=bL.ae au
    by_cases bu:k < ws.length
    ·obtain⟨b,off,m,rfl,ew,aw,bz⟩:=bL.at_ (Below.refl _ _) bu
     have ch:=bz 0 _ rfl
     simp only [Nat.mul_one,Nat.add_zero] at ch
     have g0:=ch (ay.self _)
     simp only [ay.self] at g0
     have cc:=J aw;clear aw bz ch
     obtain⟨f0,f1,f2,f3,f4⟩:=ai.aM
     have yS:(k:Int)≤(wc:Int):=by omega
     go_upto_region 12 with fail
     clear g0
     cases h1:ey m
     ·exact abq
     have hK:=J h1;clear h1
     by_cases h2:(m == 0)= true
     ·exact abt
     replace h2:=Bool.eq_false_iff.2 h2;have lF:=J h2
     by_cases h3:hasB (ws.take k) m= true
     ·exact aal
     replace h3:=Bool.eq_false_iff.2 h3;have lG:=J h3;clear h3
     cases h4:nt ag af (ej ad m)
     ·have nn:=J h4;clear h4
      go_wp2_with fail
      refine (iG m _ hK.out _).mono ?_
      rintro e w0 ⟨rfl,h0⟩
      rw [h0]
      clear h0 w0
      go_wp2_with fail
      refine (Dc b off _ k ws m (by omega) hw _ lG.out _ (bL.ae az)).mono ?_
      rintro e aJ ⟨rfl,aL⟩
      have al:=be wr aL;replace I:=aj I al;replace bH:=bH.ae al;replace bL:=bL.ae al;replace ai:=ai.to al;clear f0 f1 f2 f3 f4
      obtain⟨f0,f1,f2,f3,f4⟩:=ai.aM
      go_wp2_with fail
      refine (zn ag af 0 (some ⟨b,off,none⟩) ws.length wc S fm ad aY m _ nn.out _ (bH.ae az)).mono ?_
      exact aaR
     ·have nn:=J h4;clear h4
      go_wp2_with fail
      refine (iG m _ hK.out _).mono ?_
      rintro e w0 ⟨rfl,h0⟩
      rw [h0]
      clear h0 w0
      go_wp2_with fail
      refine (Dc b off _ k ws m (by omega) hw _ lG.out _ (bL.ae az)).mono ?_
      rintro e aJ ⟨rfl,aL⟩
      have al:=be wr aL;replace I:=aj I al;replace bH:=bH.ae al;replace bL:=bL.ae al;replace ai:=ai.to al;clear f0 f1 f2 f3 f4
      obtain⟨f0,f1,f2,f3,f4⟩:=ai.aM
      go_wp2_with fail
      refine (zn ag af 0 (some ⟨b,off,none⟩) ws.length wc S fm ad aY m _ nn.out _ (bH.ae az)).mono ?_
      exact aaE
    ·obtain rfl:k= ws.length:=by omega
     obtain⟨f0,f1,f2,f3,f4⟩:=ai.aM
     go_upto_region 15 with fail
     clear f0 f1 f2 f3 f4
     obtain⟨f0,f1,f2,f3,f4⟩:=aB.jH (fun K:ay wr.heap.size wr=>(ai.ae K.ae ai.lt))
     exact Yp
theorem abu {p:Prop} (h:p:=by
 repeat (go_big_quiet_step (fail))
 refine wpQuiet_nil ?_
 intro K
 go_wp2
 go_ret
 exact⟨ed (by rw [RB H1.out fY.out h0 hr.out h4 lr.out cB.out,dU.out,decide_eq_true (show (aO.ek ⟨sm,st,cm⟩) < ag from iF)]),aj I K.ae⟩):p:=h
theorem abj {p:Prop} (h:p:=by
 repeat (go_big_quiet_step (fail))
 refine wpQuiet_nil ?_
 intro K
 go_wp2
 go_ret
 exact⟨ed (by rw [RB H1.out fY.out h0 hr.out h4 lr.out cB.out,dU.out,decide_eq_false (show¬(aO.ek ⟨sm,st,cm⟩) < ag from by show¬st < ag;omega)]),aj I K.ae⟩):p:=h
theorem ahJ (ag af sp:Int) (W:Option Addr) (ws:List Int) (wc:Nat) (S:Option Addr) (fm:Nat) (ad:List aO) (hw:ws.length≤1048576) (aY:ad.length≤1048576) (aH:ws.length≤wc) (h1:eT ag 1 3= true) (h2:eT af 1 3600= true) (h0:sp≠0) (h3:ey sp= true) (h4:ws.length≤10) (w:World) (bL:aS 1 bV w W ws) (bH:aS 3 aO.cells w S ad):
 Calls Tryz.prog 119 #[.agg #[ag,af,sp,.slice W ws wc,.slice S ad fm]] w fun e ah=>e= .returned (.bool (gd ag af sp ws ad))∧Below w w ah:=by
 have H1:=J h1;have fY:=J h2;clear h1 h2;have hr:=J h3;clear h3
 go_in
 have td:=J bH;have vK:=J bL
 go_upto_region 1 with fail
 refine cF fun aG au ai=>?_
 replace bH:=bH.ae au;replace bL:=bL.ae au;have I:=au
 obtain⟨f0,f1,f2,f3,f4⟩:=ai.aM
 go_wp2_with fail
 refine (iX ag 1 3 _ H1.out _).mono ?_
 rintro e w0 ⟨rfl,h0⟩
 rw [h0]
 clear h0 w0
 go_wp2_with fail
 refine (iX af 1 3600 _ fY.out _).mono ?_
 rintro e w0 ⟨rfl,h0⟩
 rw [h0]
 clear h0 w0
 go_wp2_with fail
 refine (iG sp _ hr.out _).mono ?_
 rintro e w0 ⟨rfl,h0⟩
 rw [h0]
 clear h0 w0
 go_wp2
 go_loopw [37] (fun i wr=>∃k:Nat,k≤ad.length∧i= .int .i64 k∧gy (qG ag af ad) k= true∧Below w w wr∧aB wr w.heap.size 41 #[ag,af,sp,.slice W ws wc,.slice S ad fm]) (fun i _=>ad.length - (intOf i).toNat)
 case atStart=>exact⟨0,Nat.zero_le _,rfl,rfl,I,ai⟩
 case round=>
  clear bH bL I f0 f1 f2 f3 f4 ai
  obtain⟨k,aD,rfl,aT,aF,ai⟩:=hrel
  have cB:=J aT;clear aT;have bH:=td.out;have bL:=vK.out;have au:=be w aF;have I:Below w w wr:=au;replace bH:=bH.ae au;replace bL:=bL.ae au
  by_cases bu:k < ad.length
  ·exact Yh
  ·obtain⟨f0,f1,f2,f3,f4⟩:=ai.aM
   obtain rfl:k= ad.length:=by omega
   have lr:Hid (rG ag af ad= true):=J cB.out;clear cB
   go_upto_region 9 with fail
   go_wp2
   clear f0 f1 f2 f3 f4
   go_loopw [82] (fun i wr=>∃k:Nat,k≤ws.length∧i= .int .i64 k∧gy (sC ag af sp ws ad) k= true∧Below w w wr∧aB wr w.heap.size 41 #[ag,af,sp,.slice W ws wc,.slice S ad fm]) (fun i _=>ws.length - (intOf i).toNat)
   case atStart=>exact⟨0,Nat.zero_le _,rfl,rfl,I,ai⟩
   case round=>
    clear bH bL I ai
    obtain⟨k,aD,rfl,aT,aF,ai⟩:=hrel
    have cB:=J aT;clear aT;have bH:=td.out;have bL:=vK.out;have au:=be w aF;have I:Below w w wr:=au;replace bH:=bH.ae au;replace bL:=bL.ae au
    by_cases bu:k < ws.length
    ·obtain⟨b,off,m,rfl,ew,aw,bz⟩:=bL.at_ (Below.refl _ _) bu
     have ch:=bz 0 _ rfl
     simp only [Nat.mul_one,Nat.add_zero] at ch
     have g0:=ch (ay.self _)
     simp only [ay.self] at g0
     have cc:=J aw;clear aw bz ch
     obtain⟨f0,f1,f2,f3,f4⟩:=ai.aM
     have yS:(k:Int)≤(wc:Int):=by omega
     go_upto_region 12 with fail
     clear g0
     cases h1:ey m
     ·exact abq
     have hK:=J h1;clear h1
     by_cases h2:(m == sp)= true
     ·exact abt
     replace h2:=Bool.eq_false_iff.2 h2;have lF:=J h2
     by_cases h3:hasB (ws.take k) m= true
     ·exact aal
     replace h3:=Bool.eq_false_iff.2 h3;have lG:=J h3;clear h3
     cases h4:nt ag af (ej ad m)
     ·have nn:=J h4;clear h4
      go_wp2_with fail
      refine (iG m _ hK.out _).mono ?_
      rintro e w0 ⟨rfl,h0⟩
      rw [h0]
      clear h0 w0
      go_wp2_with fail
      refine (Dc b off _ k ws m (by omega) hw _ lG.out _ (bL.ae az)).mono ?_
      rintro e aJ ⟨rfl,aL⟩
      have al:=be wr aL;replace I:=aj I al;replace bH:=bH.ae al;replace bL:=bL.ae al;replace ai:=ai.to al;clear f0 f1 f2 f3 f4
      obtain⟨f0,f1,f2,f3,f4⟩:=ai.aM
      go_wp2_with fail
      refine (zn ag af sp (some ⟨b,off,none⟩) ws.length wc S fm ad aY m _ nn.out _ (bH.ae az)).mono ?_
      exact aaR
     ·have nn:=J h4;clear h4
      go_wp2_with fail
      refine (iG m _ hK.out _).mono ?_
      rintro e w0 ⟨rfl,h0⟩
      rw [h0]
      clear h0 w0
      go_wp2_with fail
      refine (Dc b off _ k ws m (by omega) hw _ lG.out _ (bL.ae az)).mono ?_
      rintro e aJ ⟨rfl,aL⟩
      have al:=be wr aL;replace I:=aj I al;replace bH:=bH.ae al;replace bL:=bL.ae al;replace ai:=ai.to al;clear f0 f1 f2 f3 f4
      obtain⟨f0,f1,f2,f3,f4⟩:=ai.aM
      go_wp2_with fail
      refine (zn ag af sp (some ⟨b,off,none⟩) ws.length wc S fm ad aY m _ nn.out _ (bH.ae az)).mono ?_
      exact aaE
    ·obtain rfl:k= ws.length:=by omega
     obtain⟨f0,f1,f2,f3,f4⟩:=ai.aM
     go_upto_region 15 with fail
     have dn:(sp == 0)= false:=beq_eq_false_iff_ne.2 h0;have CQ:=J bH
     obtain⟨s,aV⟩ :∃s,ej ad sp= s:=⟨_,rfl⟩
     have dU:=J aV;clear aV
     obtain⟨sm,st,cm⟩:=s
     have ri:∀W:World,(Instr.field 214 (.agg #[sm,st,cm]) 1).run Tryz.prog W= .ok (.int .i64 st) W:=fun _=>by kernel_rfl
     by_cases iF:st < ag
     ·have LD:decide (st < ag)= true:=decide_eq_true iF
      clear f0 f1 f2 f3 f4
      obtain⟨f0,f1,f2,f3,f4⟩:=aB.jH (fun K:ay wr.heap.size wr=>(ai.ae K.ae ai.lt))
      refine eK (by kernel_rfl) (by kernel_rfl) ?_
      repeat (go_big_quiet_step (fail))
      go_big_quiet_step ((go_at_call 201;exact ay.call _ (by first | exact Nat.le_refl _ | omega) (wA ag af sp W ws.length wc S fm ad aY sp _ dU.out _ (CQ.out.ae (ay.ae _)))))
      exact abu
     ·have LD:decide (st < ag)= false:=decide_eq_false iF
      clear f0 f1 f2 f3 f4
      obtain⟨f0,f1,f2,f3,f4⟩:=aB.jH (fun K:ay wr.heap.size wr=>(ai.ae K.ae ai.lt))
      refine eK (by kernel_rfl) (by kernel_rfl) ?_
      repeat (go_big_quiet_step (fail))
      go_big_quiet_step ((go_at_call 201;exact ay.call _ (by first | exact Nat.le_refl _ | omega) (wA ag af sp W ws.length wc S fm ad aY sp _ dU.out _ (CQ.out.ae (ay.ae _)))))
      exact abj
theorem Zs {p:Prop} (h:p:=by
 rintro e w0 ⟨rfl,h0⟩
 rw [h0]
 clear h0 w0
 go_wp2
 go_ret
 exact⟨ed (aeG H1.out).symm,(aj I az)⟩):p:=h
theorem Zt {p:Prop} (h:p:=by
 rintro e w0 ⟨rfl,h0⟩
 rw [h0]
 clear h0 w0
 go_wp2
 go_ret
 exact⟨ed (aeH fY.out).symm,(aj I az)⟩):p:=h
theorem Zz {p:Prop} (h:p:=by
 rintro e w0 ⟨rfl,h0⟩
 rw [h0]
 clear h0 w0
 go_wp2
 go_ret
 exact⟨ed (RA h4).symm,(aj I az)⟩):p:=h
theorem lh (ag af sp:Int) (W:Option Addr) (ws:List Int) (wc:Nat) (S:Option Addr) (fm:Nat) (ad:List aO) (hw:ws.length≤1048576) (aY:ad.length≤1048576) (aH:ws.length≤wc) (v:Bool) (ax:gd ag af sp ws ad= v) (w:World) (bL:aS 1 bV w W ws) (bH:aS 3 aO.cells w S ad):
 Calls Tryz.prog 119 #[.agg #[ag,af,sp,.slice W ws wc,.slice S ad fm]] w fun e ah=>e= .returned v∧Below w w ah:=by
 subst ax
 cases h1:eT ag 1 3
 ·have H1:=J h1
  go_in
  go_upto_region 1 with fail
  refine cF fun aG au ai=>?_
  replace bH:=bH.ae au;have I:=au;have aC:=ai.aM
  go_wp2_with fail
  refine (iX ag 1 3 _ H1.out _).mono ?_
  exact Zs
 cases h2:eT af 1 3600
 ·have H1:=J h1
  have fY:=J h2
  go_in
  go_upto_region 1 with fail
  refine cF fun aG au ai=>?_
  replace bH:=bH.ae au;have I:=au;have aC:=ai.aM
  go_wp2_with fail
  refine (iX ag 1 3 _ H1.out _).mono ?_
  rintro e w0 ⟨rfl,h0⟩
  rw [h0]
  clear h0 w0
  go_wp2_with fail
  refine (iX af 1 3600 _ fY.out _).mono ?_
  exact Zt
 by_cases h0:sp= 0
 ·subst h0
  by_cases h4:ws.length≤10
  ·exact ahK ag af W ws wc S fm ad hw aY aH h1 h2 h4 w bL bH
  ·have H1:=J h1
   have fY:=J h2
   go_in
   go_upto_region 1 with fail
   refine cF fun aG au ai=>?_
   replace bH:=bH.ae au;have I:=au;have aC:=ai.aM
   go_wp2_with fail
   refine (iX ag 1 3 _ H1.out _).mono ?_
   rintro e w0 ⟨rfl,h0⟩
   rw [h0]
   clear h0 w0
   go_wp2_with fail
   refine (iX af 1 3600 _ fY.out _).mono ?_
   exact Zz
 cases h3:ey sp
 ·have H1:=J h1
  have fY:=J h2;have hr:=J h3
  have eM:(sp != 0)= true:=by simp [h0]
  go_in
  go_upto_region 1 with fail
  refine cF fun aG au ai=>?_
  replace bH:=bH.ae au;have I:=au;have aC:=ai.aM
  go_wp2_with fail
  refine (iX ag 1 3 _ H1.out _).mono ?_
  rintro e w0 ⟨rfl,h0⟩
  rw [h0]
  clear h0 w0
  go_wp2_with fail
  refine (iX af 1 3600 _ fY.out _).mono ?_
  rintro e w0 ⟨rfl,h0⟩
  rw [h0]
  clear h0 w0
  go_wp2_with fail
  refine (iG sp _ hr.out _).mono ?_
  rintro e w0 ⟨rfl,h0⟩
  rw [h0]
  clear h0 w0
  go_wp2
  go_ret
  exact⟨ed (Rz h0 hr.out).symm,(aj I az)⟩
 by_cases h4:ws.length≤10
 ·exact ahJ ag af sp W ws wc S fm ad hw aY aH h1 h2 h0 h3 h4 w bL bH
 ·have H1:=J h1
  have fY:=J h2;have hr:=J h3
  have eM:(sp != 0)= true:=by simp [h0]
  go_in
  go_upto_region 1 with fail
  refine cF fun aG au ai=>?_
  replace bH:=bH.ae au;have I:=au;have aC:=ai.aM
  go_wp2_with fail
  refine (iX ag 1 3 _ H1.out _).mono ?_
  rintro e w0 ⟨rfl,h0⟩
  rw [h0]
  clear h0 w0
  go_wp2_with fail
  refine (iX af 1 3600 _ fY.out _).mono ?_
  rintro e w0 ⟨rfl,h0⟩
  rw [h0]
  clear h0 w0
  go_wp2_with fail
  refine (iG sp _ hr.out _).mono ?_
  exact Zz
theorem abr {p:Prop} (h:p:=by
 have hK:=J h1;clear h1
 go_wp2_with fail
 refine (iy m _ hK.out _).mono ?_
 rintro e w0 ⟨rfl,h0⟩
 rw [h0]
 clear h0 w0
 go_wp2
 go_ret
 exact⟨ed (xa bu (by rw [va cc.out];simp only [hK.out];simp)).symm,(aj I az)⟩):p:=h
theorem aav {p:Prop} (h:p:=by
 have lG:=J h3;clear h3
 go_wp2_with fail
 refine (iy m _ hK.out _).mono ?_
 rintro e w0 ⟨rfl,h0⟩
 rw [h0]
 clear h0 w0
 go_wp2_with fail
 refine (Bx b off _ k ws m (by omega) hw _ lG.out _ (bL.ae az)).mono ?_
 rintro e aJ ⟨rfl,aL⟩
 have al:=be wr aL;replace I:=aj I al;replace bH:=bH.ae al;replace bL:=bL.ae al;replace ai:=ai.to al;clear aC;have aC:=ai.aM
 go_wp2
 go_ret
 exact⟨ed (xa bu (by rw [va cc.out];simp only [hK.out,lG.out];simp)).symm,(aj I az)⟩):p:=h
theorem aaw {p:Prop} (h:p:=by
 have lF:=J h2
 go_wp2_with fail
 refine (iy m _ hK.out _).mono ?_
 rintro e w0 ⟨rfl,h0⟩
 rw [h0]
 clear h0 w0
 go_wp2_with fail
 refine (Bx b off _ k ws m (by omega) hw _ lG.out _ (bL.ae az)).mono ?_
 rintro e aJ ⟨rfl,aL⟩
 have al:=be wr aL;replace I:=aj I al;replace bH:=bH.ae al;replace bL:=bL.ae al;replace ai:=ai.to al;clear aC;have aC:=ai.aM
 go_wp2
 go_ret
 exact⟨ed (xa bu (by rw [va cc.out];simp only [hK.out,lF.out,lG.out];simp)).symm,(aj I az)⟩):p:=h
theorem abb {p:Prop} (h:p:=by
 rintro e bB ⟨rfl,bx⟩
 have aP:=be aJ bx;replace I:=aj I aP;replace bH:=bH.ae aP;replace bL:=bL.ae aP;replace ai:=ai.to aP;clear aC;have aC:=ai.aM
 go_wp2
 go_ret
 exact⟨ed (xa bu (by rw [va cc.out];simp only [hK.out,lF.out,lG.out,nn.out];simp)).symm,(aj I az)⟩):p:=h
theorem aaM {p:Prop} (h:p:=by
 rintro e bB ⟨rfl,bx⟩
 have aP:=be aJ bx;replace I:=aj I aP;replace bH:=bH.ae aP;replace bL:=bL.ae aP;replace ai:=ai.to aP;clear aC;have aC:=ai.aM
 go_wp2
 go_roundw
 case rel=>exact⟨k + 1,by omega,by go_num,mv cB.out (by rw [va cc.out];simp only [hK.out,lF.out,lG.out,nn.out];rfl),I,ai⟩
 case measure=>simp [intOf];omega):p:=h
theorem amr (ag af:Int) (W:Option Addr) (ws:List Int) (wc:Nat) (S:Option Addr) (fm:Nat) (ad:List aO) (hw:ws.length≤1048576) (aY:ad.length≤1048576) (aH:ws.length≤wc) (h1:eT ag 1 3= true) (h2:eT af 1 3600= true) (h4:ws.length≤10) (h5:rG ag af ad= true) (w:World) (bL:aS 1 bV w W ws) (bH:aS 3 aO.cells w S ad):
 Calls Tryz.prog 184 #[.agg #[ag,af,(0:Int),.slice W ws wc,.slice S ad fm]] w fun e ah=>e= .returned (.bool (gd ag af 0 ws ad))∧Below w w ah:=by
 have H1:=J h1;have fY:=J h2;have lr:=J h5;clear h1 h2 h5
 go_in
 have td:=J bH;have vK:=J bL
 go_upto_region 1 with fail
 refine cF fun aG au ai=>?_
 replace bH:=bH.ae au;replace bL:=bL.ae au;have I:=au;have aC:=ai.aM
 go_wp2_with fail
 refine (jq ag 1 3 _ H1.out _).mono ?_
 rintro e w0 ⟨rfl,h0⟩
 rw [h0]
 clear h0 w0
 go_wp2_with fail
 refine (jq af 1 3600 _ fY.out _).mono ?_
 rintro e w0 ⟨rfl,h0⟩
 rw [h0]
 clear h0 w0
 go_wp2_with fail
 refine (HJ ag af 0 W ws wc S fm ad hw aY _ lr.out _ (bL.ae az) (bH.ae az)).mono ?_
 rintro e aJ ⟨rfl,aL⟩
 have al:=be aG aL;replace I:=aj I al;replace bH:=bH.ae al;replace bL:=bL.ae al;replace ai:=ai.to al;clear aC;have aC:=ai.aM
 go_wp2
 clear aC
 go_loopw [3] (fun i wr=>∃k:Nat,k≤ws.length∧i= .int .i64 k∧gy (sC ag af 0 ws ad) k= true∧Below w w wr∧aB wr w.heap.size 41 #[ag,af,(0:Int),.slice W ws wc,.slice S ad fm]) (fun i _=>ws.length - (intOf i).toNat)
 case atStart=>exact⟨0,Nat.zero_le _,rfl,rfl,I,ai⟩
 case round=>
  clear bH bL I ai
  obtain⟨k,aD,rfl,aT,aF,ai⟩:=hrel
  have cB:=J aT;clear aT;have bH:=td.out;have bL:=vK.out;have au:=be w aF;have I:Below w w wr:=au;replace bH:=bH.ae au;replace bL:=bL.ae au
  by_cases bu:k < ws.length
  ·obtain⟨b,off,m,rfl,ew,aw,bz⟩:=bL.at_ (Below.refl _ _) bu
   have ch:=bz 0 _ rfl
   simp only [Nat.mul_one,Nat.add_zero] at ch
   have g0:=ch (ay.self _)
   simp only [ay.self] at g0
   have cc:=J aw;clear aw bz ch;have aC:=ai.aM
   have yS:(k:Int)≤(wc:Int):=by omega
   go_upto_region 7 with fail
   clear g0
   cases h1:ey m
   ·exact abr
   have hK:=J h1;clear h1
   by_cases h3:hasB (ws.take k) m= true
   ·exact aav
   replace h3:=Bool.eq_false_iff.2 h3;have lG:=J h3;clear h3
   by_cases h2:(m == 0)= true
   ·exact aaw
   replace h2:=Bool.eq_false_iff.2 h2;have lF:=J h2
   cases h4:nt ag af (ej ad m)
   ·have nn:=J h4;clear h4
    go_wp2_with fail
    refine (iy m _ hK.out _).mono ?_
    rintro e w0 ⟨rfl,h0⟩
    rw [h0]
    clear h0 w0
    go_wp2_with fail
    refine (Bx b off _ k ws m (by omega) hw _ lG.out _ (bL.ae az)).mono ?_
    rintro e aJ ⟨rfl,aL⟩
    have al:=be wr aL;replace I:=aj I al;replace bH:=bH.ae al;replace bL:=bL.ae al;replace ai:=ai.to al;clear aC;have aC:=ai.aM
    go_wp2_with fail
    refine (zw ag af 0 (some ⟨b,off,none⟩) ws.length wc S fm ad aY m _ nn.out _ (bH.ae az)).mono ?_
    exact abb
   ·have nn:=J h4;clear h4
    go_wp2_with fail
    refine (iy m _ hK.out _).mono ?_
    rintro e w0 ⟨rfl,h0⟩
    rw [h0]
    clear h0 w0
    go_wp2_with fail
    refine (Bx b off _ k ws m (by omega) hw _ lG.out _ (bL.ae az)).mono ?_
    rintro e aJ ⟨rfl,aL⟩
    have al:=be wr aL;replace I:=aj I al;replace bH:=bH.ae al;replace bL:=bL.ae al;replace ai:=ai.to al;clear aC;have aC:=ai.aM
    go_wp2_with fail
    refine (zw ag af 0 (some ⟨b,off,none⟩) ws.length wc S fm ad aY m _ nn.out _ (bH.ae az)).mono ?_
    exact aaM
  ·obtain rfl:k= ws.length:=by omega
   have aC:=ai.aM
   go_upto_region 9 with fail
   clear aC;have aC:=aB.jH (fun K:ay wr.heap.size wr=>(ai.ae K.ae ai.lt))
   exact Yp
theorem amq (ag af sp:Int) (W:Option Addr) (ws:List Int) (wc:Nat) (S:Option Addr) (fm:Nat) (ad:List aO) (hw:ws.length≤1048576) (aY:ad.length≤1048576) (aH:ws.length≤wc) (h1:eT ag 1 3= true) (h2:eT af 1 3600= true) (h0:sp≠0) (h4:ws.length≤10) (h5:rG ag af ad= true) (w:World) (bL:aS 1 bV w W ws) (bH:aS 3 aO.cells w S ad):
 Calls Tryz.prog 184 #[.agg #[ag,af,sp,.slice W ws wc,.slice S ad fm]] w fun e ah=>e= .returned (.bool (gd ag af sp ws ad))∧Below w w ah:=by
 have H1:=J h1;have fY:=J h2;have lr:=J h5;clear h1 h2 h5
 go_in
 have td:=J bH;have vK:=J bL
 go_upto_region 1 with fail
 refine cF fun aG au ai=>?_
 replace bH:=bH.ae au;replace bL:=bL.ae au;have I:=au;have aC:=ai.aM
 go_wp2_with fail
 refine (jq ag 1 3 _ H1.out _).mono ?_
 rintro e w0 ⟨rfl,h0⟩
 rw [h0]
 clear h0 w0
 go_wp2_with fail
 refine (jq af 1 3600 _ fY.out _).mono ?_
 rintro e w0 ⟨rfl,h0⟩
 rw [h0]
 clear h0 w0
 go_wp2_with fail
 refine (HJ ag af sp W ws wc S fm ad hw aY _ lr.out _ (bL.ae az) (bH.ae az)).mono ?_
 rintro e aJ ⟨rfl,aL⟩
 have al:=be aG aL;replace I:=aj I al;replace bH:=bH.ae al;replace bL:=bL.ae al;replace ai:=ai.to al;clear aC;have aC:=ai.aM
 go_wp2
 clear aC
 go_loopw [3] (fun i wr=>∃k:Nat,k≤ws.length∧i= .int .i64 k∧gy (sC ag af sp ws ad) k= true∧Below w w wr∧aB wr w.heap.size 41 #[ag,af,sp,.slice W ws wc,.slice S ad fm]) (fun i _=>ws.length - (intOf i).toNat)
 case atStart=>exact⟨0,Nat.zero_le _,rfl,rfl,I,ai⟩
 case round=>
  clear bH bL I ai
  obtain⟨k,aD,rfl,aT,aF,ai⟩:=hrel
  have cB:=J aT;clear aT;have bH:=td.out;have bL:=vK.out;have au:=be w aF;have I:Below w w wr:=au;replace bH:=bH.ae au;replace bL:=bL.ae au
  by_cases bu:k < ws.length
  ·obtain⟨b,off,m,rfl,ew,aw,bz⟩:=bL.at_ (Below.refl _ _) bu
   have ch:=bz 0 _ rfl
   simp only [Nat.mul_one,Nat.add_zero] at ch
   have g0:=ch (ay.self _)
   simp only [ay.self] at g0
   have cc:=J aw;clear aw bz ch;have aC:=ai.aM
   have yS:(k:Int)≤(wc:Int):=by omega
   go_upto_region 7 with fail
   clear g0
   cases h1:ey m
   ·exact abr
   have hK:=J h1;clear h1
   by_cases h3:hasB (ws.take k) m= true
   ·exact aav
   replace h3:=Bool.eq_false_iff.2 h3;have lG:=J h3;clear h3
   by_cases h2:(m == sp)= true
   ·exact aaw
   replace h2:=Bool.eq_false_iff.2 h2;have lF:=J h2
   cases h4:nt ag af (ej ad m)
   ·have nn:=J h4;clear h4
    go_wp2_with fail
    refine (iy m _ hK.out _).mono ?_
    rintro e w0 ⟨rfl,h0⟩
    rw [h0]
    clear h0 w0
    go_wp2_with fail
    refine (Bx b off _ k ws m (by omega) hw _ lG.out _ (bL.ae az)).mono ?_
    rintro e aJ ⟨rfl,aL⟩
    have al:=be wr aL;replace I:=aj I al;replace bH:=bH.ae al;replace bL:=bL.ae al;replace ai:=ai.to al;clear aC;have aC:=ai.aM
    go_wp2_with fail
    refine (zw ag af sp (some ⟨b,off,none⟩) ws.length wc S fm ad aY m _ nn.out _ (bH.ae az)).mono ?_
    exact abb
   ·have nn:=J h4;clear h4
    go_wp2_with fail
    refine (iy m _ hK.out _).mono ?_
    rintro e w0 ⟨rfl,h0⟩
    rw [h0]
    clear h0 w0
    go_wp2_with fail
    refine (Bx b off _ k ws m (by omega) hw _ lG.out _ (bL.ae az)).mono ?_
    rintro e aJ ⟨rfl,aL⟩
    have al:=be wr aL;replace I:=aj I al;replace bH:=bH.ae al;replace bL:=bL.ae al;replace ai:=ai.to al;clear aC;have aC:=ai.aM
    go_wp2_with fail
    refine (zw ag af sp (some ⟨b,off,none⟩) ws.length wc S fm ad aY m _ nn.out _ (bH.ae az)).mono ?_
    exact aaM
  ·obtain rfl:k= ws.length:=by omega
   have aC:=ai.aM
   go_upto_region 9 with fail
   have dn:(sp == 0)= false:=beq_eq_false_iff_ne.2 h0;have CQ:=J bH
   obtain⟨s,aV⟩ :∃s,ej ad sp= s:=⟨_,rfl⟩
   have dU:=J aV;clear aV
   obtain⟨sm,st,cm⟩:=s
   have ri:∀W:World,(Instr.field 214 (.agg #[sm,st,cm]) 1).run Tryz.prog W= .ok (.int .i64 st) W:=fun _=>by kernel_rfl
   cases h3:ey sp
   ·have hr:=J h3;clear h3
    clear aC;have aC:=aB.jH (fun K:ay wr.heap.size wr=>(ai.ae K.ae ai.lt))
    refine eK (by kernel_rfl) (by kernel_rfl) ?_
    repeat (go_big_quiet_step (fail))
    go_big_quiet_step ((go_at_call 162;exact ay.same _ (iy sp _ hr.out _)))
    repeat (go_big_quiet_step (fail))
    refine wpQuiet_nil ?_
    intro K
    go_wp2
    go_ret
    exact⟨ed (Rz h0 hr.out).symm,aj I K.ae⟩
   have hr:=J h3;clear h3
   by_cases iF:st < ag
   ·have LD:decide (st < ag)= true:=decide_eq_true iF
    clear aC;have aC:=aB.jH (fun K:ay wr.heap.size wr=>(ai.ae K.ae ai.lt))
    refine eK (by kernel_rfl) (by kernel_rfl) ?_
    repeat (go_big_quiet_step (fail))
    go_big_quiet_step ((go_at_call 162;exact ay.same _ (iy sp _ hr.out _)))
    repeat (go_big_quiet_step (fail))
    go_big_quiet_step ((go_at_call 267;exact ay.call _ (by first | exact Nat.le_refl _ | omega) (tH ag af sp W ws.length wc S fm ad aY sp _ dU.out _ (CQ.out.ae (ay.ae _)))))
    exact abu
   ·have LD:decide (st < ag)= false:=decide_eq_false iF
    clear aC;have aC:=aB.jH (fun K:ay wr.heap.size wr=>(ai.ae K.ae ai.lt))
    refine eK (by kernel_rfl) (by kernel_rfl) ?_
    repeat (go_big_quiet_step (fail))
    go_big_quiet_step ((go_at_call 162;exact ay.same _ (iy sp _ hr.out _)))
    repeat (go_big_quiet_step (fail))
    go_big_quiet_step ((go_at_call 267;exact ay.call _ (by first | exact Nat.le_refl _ | omega) (tH ag af sp W ws.length wc S fm ad aY sp _ dU.out _ (CQ.out.ae (ay.ae _)))))
    exact abj
theorem lj (ag af sp:Int) (W:Option Addr) (ws:List Int) (wc:Nat) (S:Option Addr) (fm:Nat) (ad:List aO) (hw:ws.length≤1048576) (aY:ad.length≤1048576) (aH:ws.length≤wc) (v:Bool) (ax:gd ag af sp ws ad= v) (w:World) (bL:aS 1 bV w W ws) (bH:aS 3 aO.cells w S ad):
 Calls Tryz.prog 184 #[.agg #[ag,af,sp,.slice W ws wc,.slice S ad fm]] w fun e ah=>e= .returned v∧Below w w ah:=by
 subst ax
 cases h1:eT ag 1 3
 ·have H1:=J h1
  go_in
  go_upto_region 1 with fail
  refine cF fun aG au ai=>?_
  replace bH:=bH.ae au;replace bL:=bL.ae au;have I:=au;have aC:=ai.aM
  go_wp2_with fail
  refine (jq ag 1 3 _ H1.out _).mono ?_
  exact Zs
 cases h2:eT af 1 3600
 ·have H1:=J h1
  have fY:=J h2
  go_in
  go_upto_region 1 with fail
  refine cF fun aG au ai=>?_
  replace bH:=bH.ae au;replace bL:=bL.ae au;have I:=au;have aC:=ai.aM
  go_wp2_with fail
  refine (jq ag 1 3 _ H1.out _).mono ?_
  rintro e w0 ⟨rfl,h0⟩
  rw [h0]
  clear h0 w0
  go_wp2_with fail
  refine (jq af 1 3600 _ fY.out _).mono ?_
  exact Zt
 cases h5:rG ag af ad
 ·have H1:=J h1
  have fY:=J h2;have FH:=J h5
  go_in
  go_upto_region 1 with fail
  refine cF fun aG au ai=>?_
  replace bH:=bH.ae au;replace bL:=bL.ae au;have I:=au;have aC:=ai.aM
  go_wp2_with fail
  refine (jq ag 1 3 _ H1.out _).mono ?_
  rintro e w0 ⟨rfl,h0⟩
  rw [h0]
  clear h0 w0
  go_wp2_with fail
  refine (jq af 1 3600 _ fY.out _).mono ?_
  rintro e w0 ⟨rfl,h0⟩
  rw [h0]
  clear h0 w0
  go_wp2_with fail
  refine (HJ ag af sp W ws wc S fm ad hw aY _ FH.out _ (bL.ae az) (bH.ae az)).mono ?_
  rintro e aJ ⟨rfl,aL⟩
  have al:=be aG aL;replace I:=aj I al;replace bH:=bH.ae al;replace bL:=bL.ae al;replace ai:=ai.to al;clear aC;have aC:=ai.aM
  go_wp2
  go_ret
  exact⟨ed (Dm FH.out).symm,(aj I az)⟩
 by_cases h4:ws.length≤10
 case neg=>
  have H1:=J h1;have fY:=J h2;have FH:=J h5
  go_in
  go_upto_region 1 with fail
  refine cF fun aG au ai=>?_
  replace bH:=bH.ae au;replace bL:=bL.ae au;have I:=au;have aC:=ai.aM
  go_wp2_with fail
  refine (jq ag 1 3 _ H1.out _).mono ?_
  rintro e w0 ⟨rfl,h0⟩
  rw [h0]
  clear h0 w0
  go_wp2_with fail
  refine (jq af 1 3600 _ fY.out _).mono ?_
  rintro e w0 ⟨rfl,h0⟩
  rw [h0]
  clear h0 w0
  go_wp2_with fail
  refine (HJ ag af sp W ws wc S fm ad hw aY _ FH.out _ (bL.ae az) (bH.ae az)).mono ?_
  rintro e aJ ⟨rfl,aL⟩
  have al:=be aG aL;replace I:=aj I al;replace bH:=bH.ae al;replace bL:=bL.ae al;replace ai:=ai.to al;clear aC;have aC:=ai.aM
  go_wp2
  go_ret
  exact⟨ed (RA h4).symm,(aj I az)⟩
 by_cases h0:sp= 0
 ·subst h0
  exact amr ag af W ws wc S fm ad hw aY aH h1 h2 h4 h5 w bL bH
 ·exact amq ag af sp W ws wc S fm ad hw aY aH h1 h2 h0 h4 h5 w bL bH
open Go.RowKit Go.G9
structure cw where
 cx:List aK
 cP:List aQ
 ek:Int
 dS:Int
 fk:Int
 ds:List Int
 du:List aO
 cl:List Out
def hl (rs:List aK) (qs:List aQ):Bool:=match qs[qs.length - 1]? with
 | some q=>(match hE rs q.fR with | some r=>!jS r q && r.kZ | none=>false)
 | none=>false
def pg (rs:List aK) (o:Out):Bool:=(hE rs o.fR).isSome && ey o.mover
def zL (sp:Int) (ws:List Int):Bool:=(sp == 0) && decide (ws.length= 0)
def pf (rs:List aK) (qs:List aQ) (ag af sp:Int) (ws:List Int) (ad:List aO) (os:List Out):Bool:=
 dt rs qs && (gd ag af sp ws ad && (decide (os.length≤12) && (!os.any (fun o=>!pg rs o) && (hl rs qs || zL sp ws))))
def oD (m:cw):Bool:=pf m.cx m.cP m.ek m.dS m.fk m.ds m.du m.cl
theorem Ra {rs:List aK} {qs:List aQ} (h:qs.length= 0):hl rs qs= false:=by
 obtain rfl:=List.length_eq_zero_iff.1 h;rfl
theorem QY {rs:List aK} {qs:List aQ} {j:Nat} {q:aQ} {r:aK} (aT:qs.length= j + 1) (bj:qs[j]? =some q) (bp:hE rs q.fR= some r):hl rs qs= (!jS r q && r.kZ):=by
 have:qs.length - 1= j:=by omega
 simp only [hl,this,bj,bp]
theorem Ze {p:Prop} (h:p:=by
 repeat (go_big_quiet_step (fail))
 refine wpQuiet_nil ?_
 intro K
 go_wp2
 go_ret
 exact⟨ed (by rw [cB.out];rfl),aj I K.ae⟩):p:=h
theorem Bq (rs:List aK) (qs:List aQ) (ag af sp:Int) (ws:List Int) (ad:List aO) (os:List Out) (aq ar an ao aA:Option Addr) (c0 av c2 c3 c4:Nat) (h0:rs.length≤1048576) (h1:qs.length≤1048576) (h2:ws.length≤1048576) (h3:ad.length≤1048576) (h4:os.length≤1048576) (aN:dt rs qs= true) (v:Bool) (ax:hl rs qs= v) (w:World) (bf:aS 7 aK.cells w aq rs) (aW:aS 3 aQ.cells w ar qs) (bw:aS 1 bV w an ws) (bt:aS 3 aO.cells w ao ad) (cr:aS 3 Out.cells w aA os):
 Calls Tryz.prog 124 #[.agg #[.slice aq rs c0,.slice ar qs av,ag,af,sp,.slice an ws c2,.slice ao ad c3,.slice aA os c4]] w fun e ah=>e= .returned v∧Below w w ah:=by
 subst ax
 rcases Nat.eq_zero_or_pos qs.length with ck | ck
 ·rw [ck]
  have bg:=J ck;clear ck
  go_in
  go_upto_region 1 with fail
  refine cF fun aG au aU=>?_
  replace bf:=bf.ae au;replace aW:=aW.ae au;have I:=au;have dc:=aU.aI
  go_upto_region 2 with fail
  clear dc;have dc:=aB.oS (fun K:ay aG.heap.size aG=>(aU.ae K.ae aU.lt))
  refine eK (by kernel_rfl) (by kernel_rfl) ?_
  repeat (go_big_quiet_step (fail))
  refine wpQuiet_nil ?_
  intro K
  go_wp2
  go_ret
  exact⟨ed (Ra bg.out).symm,aj I K.ae⟩
 ·obtain⟨j,bE⟩ :∃j,qs.length= j + 1:=⟨qs.length - 1,by omega⟩
  have ic:j < qs.length:=by omega
  have agc:j≤1048576:=by omega
  have uA:decide ((0:Int)≤(j:Int))= true:=decide_eq_true (by omega)
  obtain⟨q,bj⟩ :∃q,qs[j]? =some q:=⟨qs[j],List.getElem?_eq_getElem ic⟩
  obtain⟨r,bp⟩:=nd aN bj
  have bJ:=QY bE bj bp
  rw [bJ,bE]
  have dH:=J bj;have bC:=J bp;have sJ:=J ic;clear aN bJ bp bj ck bE ic
  obtain⟨id,nm,rk,wy,fs,am,dX,aV⟩:=r
  obtain⟨qr,cb,qA⟩:=q
  go_in
  go_upto_region 1 with fail
  refine cF fun aG au aU=>?_
  replace bf:=bf.ae au;replace aW:=aW.ae au;have I:=au;have dc:=aU.aI
  go_upto_region 2 with fail
  obtain⟨dY,gP,ff,rfl,ew,aw,bz⟩:=aW.at_ (Below.refl _ _) sJ.out
  obtain rfl:=Option.some.inj (dH.out.symm.trans aw)
  clear dc;have dc:=aU.aI;have ch:=bz 0 _ rfl;have dq:=bz 1 _ rfl;have cZ:=bz 2 _ rfl
  simp only [Nat.add_zero] at ch
  clear aw bz;have jj:=J bf
  have ri:∀W:World,(Instr.field 89 (.agg #[id,nm,rk,wy,fs,am,dX]) 4).run Tryz.prog W= .ok (.bool fs) W:=fun _=>by kernel_rfl
  cases aT:jS ⟨id,nm,rk,wy,fs,am,dX,aV⟩ ⟨qr,cb,qA⟩
  ·have cB:=J aT;clear aT
   clear dc;have dc:=aB.oS (fun K:ay aG.heap.size aG=>(aU.ae K.ae aU.lt))
   refine eK (by kernel_rfl) (by kernel_rfl) ?_
   repeat (go_big_quiet_step (fail))
   go_big_quiet_step ((go_at_call 198;exact ay.call _ (by first | exact Nat.le_refl _ | omega) (tI aq c0 rs h0 ⟨qr,cb,qA⟩ ⟨id,nm,rk,wy,fs,am,dX,aV⟩ bC.out _ cB.out _ (jj.out.ae (ay.ae _)))))
   repeat (go_big_quiet_step (fail))
   go_big_quiet_step ((go_at_call 69;exact ay.call _ (by first | exact Nat.le_refl _ | omega) (pZ aq c0 rs h0 ⟨qr,cb,qA⟩ ⟨id,nm,rk,wy,fs,am,dX,aV⟩ bC.out _ (jj.out.ae (ay.ae _)))))
   exact Ze
  ·have cB:=J aT;clear aT
   clear dc;have dc:=aB.oS (fun K:ay aG.heap.size aG=>(aU.ae K.ae aU.lt))
   refine eK (by kernel_rfl) (by kernel_rfl) ?_
   repeat (go_big_quiet_step (fail))
   go_big_quiet_step ((go_at_call 198;exact ay.call _ (by first | exact Nat.le_refl _ | omega) (tI aq c0 rs h0 ⟨qr,cb,qA⟩ ⟨id,nm,rk,wy,fs,am,dX,aV⟩ bC.out _ cB.out _ (jj.out.ae (ay.ae _)))))
   exact Ze
theorem zr (rs:List aK) (qs:List aQ) (aq ar:Option Addr) (c0 av:Nat) (h0:rs.length≤1048576) (h1:qs.length≤1048576) (aN:dt rs qs= true) (v:Bool) (ax:hl rs qs= v) (w:World) (bf:aS 7 aK.cells w aq rs) (aW:aS 3 aQ.cells w ar qs):
 Calls Tryz.prog 185 #[.slice aq rs c0,.slice ar qs av] w fun e ah=>e= .returned v∧Below w w ah:=by
 subst ax
 rcases Nat.eq_zero_or_pos qs.length with ck | ck
 ·rw [ck]
  have bg:=J ck;clear ck
  go_in
  go_wp2
  go_ret
  exact⟨ed (Ra bg.out).symm,Below.refl _ _⟩
 ·obtain⟨j,bE⟩ :∃j,qs.length= j + 1:=⟨qs.length - 1,by omega⟩
  have ic:j < qs.length:=by omega
  have agc:j≤1048576:=by omega
  have uA:decide ((0:Int)≤(j:Int))= true:=decide_eq_true (by omega)
  obtain⟨q,bj⟩ :∃q,qs[j]? =some q:=⟨qs[j],List.getElem?_eq_getElem ic⟩
  obtain⟨r,bp⟩:=nd aN bj
  have bJ:=QY bE bj bp
  obtain⟨m,hm,ts⟩:=qq bp
  have jo:m < rs.length:=(List.getElem?_eq_some_iff.1 ts).1
  rw [bJ,bE]
  have dH:=J bj;have bC:=J bp;have sJ:=J ic;have dP:=J hm;have acb:=J ts;have FP:=J jo;clear aN bJ bp bj ck bE ic hm ts jo
  obtain⟨id,nm,rk,wy,fs,am,dX,aV⟩:=r
  obtain⟨qr,cb,qA⟩:=q
  obtain⟨dY,gP,ff,rfl,ew,aw,bz⟩:=aW.at_ (Below.refl _ _) sJ.out
  obtain rfl:=Option.some.inj (dH.out.symm.trans aw)
  have ch:=bz 0 _ rfl;have dq:=bz 1 _ rfl;have cZ:=bz 2 _ rfl
  simp only [Nat.add_zero] at ch
  have g0:=ch (ay.self _);have g1:=dq (ay.self _);have g2:=cZ (ay.self _)
  simp only [ay.self] at g0
  simp only [ay.self] at g1
  simp only [ay.self] at g2
  clear aw bz
  cases aT:jS ⟨id,nm,rk,wy,fs,am,dX,aV⟩ ⟨qr,cb,qA⟩
  ·have cB:=J aT;clear aT
   go_in
   go_wp2_with fail
   refine (oC aq c0 rs h0 ⟨qr,cb,qA⟩ ⟨id,nm,rk,wy,fs,am,dX,aV⟩ bC.out _ cB.out _ bf).mono ?_
   rintro e bh ⟨rfl,br⟩
   obtain⟨dJ,fi,fX,rfl,th,TD,SB⟩:=bf.at_ br FP.out
   obtain rfl:=Option.some.inj (acb.out.symm.trans TD)
   obtain⟨fa,fO,mm,e3,apL,TE,SC⟩:=aW.at_ br sJ.out
   simp only [Option.some.injEq,Addr.mk.injEq,and_true] at e3
   obtain⟨rfl,rfl⟩:=e3
   obtain rfl:=Option.some.inj (dH.out.symm.trans TE)
   have IS:=SB 4 _ rfl (ay.self _);have kE:=SC 0 _ rfl (ay.self _)
   simp only [Nat.add_zero,ay.self] at IS kE
   clear TD SB TE SC ch dq cZ g0 g1 g2
   go_wp2_with fail
   refine (tG _ c0 rs h0 qr _ dP.out _ (bf.ae br)).mono ?_
   rintro e w0 ⟨rfl,Ef⟩
   rw [Ef]
   clear Ef w0
   go_wp2
   go_ret
   exact⟨rfl,br⟩
  ·have cB:=J aT;clear aT
   go_in
   go_wp2_with fail
   refine (oC aq c0 rs h0 ⟨qr,cb,qA⟩ ⟨id,nm,rk,wy,fs,am,dX,aV⟩ bC.out _ cB.out _ bf).mono ?_
   rintro e bh ⟨rfl,br⟩
   go_wp2
   go_ret
   exact⟨rfl,br⟩
theorem aiD (A:Option Addr) (c:Nat) (xs:List Out) (aY:xs.length≤1048576) (f:FuncId) (oU:Array Value) (Ba:∀args W,(callFunc f args).run Tryz.prog W= .ok (.enter f args) W) (p:Out→Bool) (v:Int) (ax:nz p xs= v) (w:World) (bn:aS 3 Out.cells w A xs)
  (hf:∀x,x ∈ xs→∀W,Below w w W→Calls Tryz.prog f (#[.agg #[.int .i64 x.fR,.int .i64 x.mover,.bool x.hB]] ++ oU) W fun e ah=>e= .returned (.bool (p x))∧Below W W ah):
 Calls Tryz.prog 202 #[.slice A xs c,.func (.func f) #[] oU] w fun e ah=>e= .returned v∧Below w w ah:=by
 subst ax
 have cC:=J hf;clear hf
 go_in
 go_wp2
 go_loopw [8] (fun i wr=>∃k:Nat,k≤xs.length∧i= .int .i64 k∧gy (fun i=>!jb p xs i) k= true∧Below w w wr) (fun i _=>xs.length - (intOf i).toNat)
 case atStart=>exact⟨0,Nat.zero_le _,rfl,rfl,Below.refl _ _⟩
 case round=>
  obtain⟨k,aD,rfl,aT,aF⟩:=hrel
  have cB:=J aT;clear aT
  by_cases bu:k < xs.length
  ·obtain⟨b,off,x,rfl,ew,aw,bz⟩:=bn.at_ aF bu
   have Ck:=J (cC.out x (List.mem_of_getElem? aw))
   obtain⟨or,akn,Nq⟩:=x
   have f0:=bz 0 _ rfl;have f1:=bz 1 _ rfl;have f2:=bz 2 _ rfl
   simp only [Nat.add_zero] at f0
   have g0:=f0 (ay.self _);have g1:=f1 (ay.self _);have g2:=f2 (ay.self _)
   simp only [ay.self] at g0
   simp only [ay.self] at g1
   simp only [ay.self] at g2
   have cc:=J aw;clear aw bz
   go_wp2_with fail
   refine (Ck.out _ aF).mono ?_
   rintro e ah ⟨rfl,fh⟩
   cases aN:p ⟨or,akn,Nq⟩
   ·exact OS
   ·exact OV
  ·exact IW
theorem adz (A:Option Addr) (c:Nat) (xs:List Out) (aY:xs.length≤1048576) (f:FuncId) (oU:Array Value) (Ba:∀args W,(callFunc f args).run Tryz.prog W= .ok (.enter f args) W) (p:Out→Bool) (v:Bool) (ax:xs.any p= v) (w:World) (bn:aS 3 Out.cells w A xs)
  (hf:∀x,x ∈ xs→∀W,Below w w W→Calls Tryz.prog f (#[.agg #[.int .i64 x.fR,.int .i64 x.mover,.bool x.hB]] ++ oU) W fun e ah=>e= .returned (.bool (p x))∧Below W W ah):
 Calls Tryz.prog 120 #[.slice A xs c,.func (.func f) #[] oU] w fun e ah=>e= .returned v∧Below w w ah:=by
 subst ax
 have cC:=J hf;clear hf;have cT:=Hz p xs;have kF:=J cT;clear cT
 go_in
 go_wp2_with fail
 refine (aiD A c xs aY f oU Ba p _ rfl _ bn cC.out).mono ?_
 rintro e ah ⟨rfl,aF⟩
 go_wp2
 go_ret
 exact⟨ed kF.out,aF⟩
theorem Vy {rs:List aK} {o:Out} (h:hE rs o.fR= none):pg rs o= false:=by simp [pg,h]
theorem Nu {rs:List aK} {o:Out} {r:aK} (h:hE rs o.fR= some r):pg rs o= ey o.mover:=by simp [pg,h]
theorem ako (rs:List aK) (aq:Option Addr) (c0:Nat) (h0:rs.length≤1048576) (g:Nat) (x:Out) (W:World) (cT:W.cell? ⟨g,0,none⟩ =some (.slice aq rs c0)) (aT:g < W.heap.size) (bf:aS 7 aK.cells W aq rs):
 Calls Tryz.prog 121 (#[.agg #[x.fR,x.mover,x.hB]] ++ #[.pointer (some ⟨g,0,none⟩)]) W fun e ah=>e= .returned (.bool (!pg rs x))∧Below W W ah:=by
 obtain⟨hb,dO,jh⟩:=x
 cases hf:hE rs hb with
 | none=>
  have cC:=J hf;clear hf
  rw [Vy (o:=⟨hb,dO,jh⟩) cC.out]
  go_in
  go_wp2_with fail
  refine (BL aq c0 rs h0 hb _ (Bo cC.out) _ (bf.ae (bT _ _))).mono ?_
  rintro e bh ⟨rfl,br⟩
  go_wp2
  go_ret
  exact⟨rfl,aj (bT _ _) br⟩
 | some r=>
  obtain⟨m,hm,_⟩:=qq hf
  have dP:=J hm;clear hm
  rw [Nu (o:=⟨hb,dO,jh⟩) hf]
  have jo:=aiB (fun r:aK=>r.id == hb) rs;clear jo
  cases aF:ey dO
  all_goals
   have iq:=J aF
   go_in
   go_wp2_with fail
   refine (BL aq c0 rs h0 hb _ dP.out _ (bf.ae (bT _ _))).mono ?_
   rintro e bh ⟨rfl,br⟩
   have aR:=(aB.new W 163 #[hb,dO,jh]).ae br (by simp);have dT:=(aR.cell 1).trans (show _= some (.int .i64 dO) from rfl);have Sk:=aR.lt
   go_wp2_with fail
   refine (iG dO _ iq.out _).mono ?_
   rintro e w0 ⟨rfl,Ef⟩
   rw [Ef]
   clear Ef w0
   go_wp2
   go_ret
   exact⟨rfl,aj (bT _ _) br⟩
theorem ajQ {rs:List aK} {qs:List aQ} {ag af sp:Int} {ws:List Int} {ad:List aO} {os:List Out} (h:dt rs qs= false):pf rs qs ag af sp ws ad os= false:=by rw [pf,h];rfl
theorem ajR {rs:List aK} {qs:List aQ} {ag af sp:Int} {ws:List Int} {ad:List aO} {os:List Out} (h:gd ag af sp ws ad= false):pf rs qs ag af sp ws ad os= false:=by rw [pf,h];simp
theorem ajS {rs:List aK} {qs:List aQ} {ag af sp:Int} {ws:List Int} {ad:List aO} {os:List Out} (h:¬os.length≤12):pf rs qs ag af sp ws ad os= false:=by rw [pf,decide_eq_false h];simp
theorem Ng {rs:List aK} {qs:List aQ} {ag af sp:Int} {ws:List Int} {ad:List aO} {os:List Out} (h:os.any (fun o=>!pg rs o)= true):pf rs qs ag af sp ws ad os= false:=by rw [pf,h];simp
theorem HP {rs:List aK} {qs:List aQ} {ag af sp:Int} {ws:List Int} {ad:List aO} {os:List Out} (h1:dt rs qs= true) (h2:gd ag af sp ws ad= true) (h3:os.length≤12) (h4:os.any (fun o=>!pg rs o)= false):pf rs qs ag af sp ws ad os= (hl rs qs || zL sp ws):=by rw [pf,h1,h2,h4,decide_eq_true h3];simp
theorem aaZ {p:Prop} (h:p:=by
 rintro e aJ ⟨rfl,aL⟩
 have al:=be aG aL;replace I:=aj I al;replace bf:=bf.ae al;replace aW:=aW.ae al;replace bw:=bw.ae al;replace bt:=bt.ae al;replace cr:=cr.ae al;replace aU:=aU.to al;clear dc;have dc:=aU.aI
 go_wp2
 go_ret
 exact⟨ed (ajQ hK.out).symm,(aj I az)⟩):p:=h
theorem aba {p:Prop} (h:p:=by
 rintro e bB ⟨rfl,bx⟩
 have aP:=be aJ bx;replace I:=aj I aP;replace bf:=bf.ae aP;replace aW:=aW.ae aP;replace bw:=bw.ae aP;replace bt:=bt.ae aP;replace cr:=cr.ae aP;replace aU:=aU.to aP;clear dc;have dc:=aU.aI
 go_wp2
 go_ret
 exact⟨ed (ajR lF.out).symm,(aj I az)⟩):p:=h
theorem abd {p:Prop} (h:p:=by
 rintro e bB ⟨rfl,bx⟩
 have aP:=be aJ bx;replace I:=aj I aP;replace bf:=bf.ae aP;replace aW:=aW.ae aP;replace bw:=bw.ae aP;replace bt:=bt.ae aP;replace cr:=cr.ae aP;replace aU:=aU.to aP;clear dc;have dc:=aU.aI
 go_wp2
 go_ret
 exact⟨ed (ajS qY).symm,(aj I az)⟩):p:=h
theorem abf {p:Prop} (h:p:=by
 replace I:=aj I cK;replace bf:=bf.ae cK;replace aW:=aW.ae cK;replace bw:=bw.ae cK;replace bt:=bt.ae cK;replace cr:=cr.ae cK;replace aU:=aU.to cK;clear dc;have dc:=aU.aI
 go_wp2
 go_ret
 exact⟨ed (by rw [HP H1.out fY.out hr.out vo.out,fz.out];rfl),(aj I az)⟩):p:=h
theorem aaU {p:Prop} (h:p:=by
 replace I:=aj I cK;replace bf:=bf.ae cK;replace aW:=aW.ae cK;replace bw:=bw.ae cK;replace bt:=bt.ae cK;replace cr:=cr.ae cK;replace aU:=aU.to cK;clear dc;have dc:=aU.aI
 go_wp2
 go_ret
 exact⟨ed (by rw [HP H1.out fY.out hr.out vo.out,fz.out,zL,Ao.out,decide_eq_true mK.out];rfl),(aj I az)⟩):p:=h
theorem aaT {p:Prop} (h:p:=by
 replace I:=aj I cK;replace bf:=bf.ae cK;replace aW:=aW.ae cK;replace bw:=bw.ae cK;replace bt:=bt.ae cK;replace cr:=cr.ae cK;replace aU:=aU.to cK;clear dc;have dc:=aU.aI
 go_wp2
 go_ret
 exact⟨ed (by rw [HP H1.out fY.out hr.out vo.out,fz.out,zL,Ao.out,decide_eq_false mK.out];rfl),(aj I az)⟩):p:=h
theorem aaX {p:Prop} (h:p:=by
 replace I:=aj I cK;replace bf:=bf.ae cK;replace aW:=aW.ae cK;replace bw:=bw.ae cK;replace bt:=bt.ae cK;replace cr:=cr.ae cK;replace aU:=aU.to cK;clear dc;have dc:=aU.aI
 go_wp2
 go_ret
 exact⟨ed (by rw [HP H1.out fY.out hr.out vo.out,fz.out,zL,Ao.out];rfl),(aj I az)⟩):p:=h
theorem ahR (rs:List aK) (qs:List aQ) (ag af sp:Int) (ws:List Int) (ad:List aO) (os:List Out) (aq ar an ao aA:Option Addr) (c0 av c2 c3 c4:Nat) (h0:rs.length≤1048576) (h1:qs.length≤1048576) (h2:ws.length≤1048576) (h3:ad.length≤1048576) (h4:os.length≤1048576) (v:Bool) (ax:pf rs qs ag af sp ws ad os= v) (w:World) (bf:aS 7 aK.cells w aq rs) (aW:aS 3 aQ.cells w ar qs) (bw:aS 1 bV w an ws) (bt:aS 3 aO.cells w ao ad) (cr:aS 3 Out.cells w aA os) (dZ:rs.length≤c0) (cp:ws.length≤c2):
 Calls Tryz.prog 63 #[.agg #[.slice aq rs c0,.slice ar qs av,ag,af,sp,.slice an ws c2,.slice ao ad c3,.slice aA os c4]] w fun e ah=>e= .returned v∧Below w w ah:=by
 subst ax
 cases oV:dt rs qs
 ·have hK:=J oV;clear oV
  go_in
  go_upto_region 1 with fail
  refine cF fun aG au aU=>?_
  replace bf:=bf.ae au;replace aW:=aW.ae au;replace bw:=bw.ae au;replace bt:=bt.ae au;replace cr:=cr.ae au;have I:=au;have dc:=aU.aI
  go_wp2_with fail
  refine (mx aq c0 rs h0 dZ ar av qs h1 _ hK.out _ (bf.ae az) (aW.ae az)).mono ?_
  exact aaZ
 have H1:=J oV;have hK:=J oV;clear oV
 cases qX:gd ag af sp ws ad
 ·have lF:=J qX;clear qX
  go_in
  go_upto_region 1 with fail
  refine cF fun aG au aU=>?_
  replace bf:=bf.ae au;replace aW:=aW.ae au;replace bw:=bw.ae au;replace bt:=bt.ae au;replace cr:=cr.ae au;have I:=au;have dc:=aU.aI
  go_wp2_with fail
  refine (mx aq c0 rs h0 dZ ar av qs h1 _ hK.out _ (bf.ae az) (aW.ae az)).mono ?_
  rintro e aJ ⟨rfl,aL⟩
  have al:=be aG aL;replace I:=aj I al;replace bf:=bf.ae al;replace aW:=aW.ae al;replace bw:=bw.ae al;replace bt:=bt.ae al;replace cr:=cr.ae al;replace aU:=aU.to al;clear dc;have dc:=aU.aI
  go_wp2_with fail
  refine (lh ag af sp an ws c2 ao c3 ad h2 h3 cp _ lF.out _ (bw.ae az) (bt.ae az)).mono ?_
  exact aba
 have fY:=J qX;have lF:=J qX;clear qX
 by_cases qY:os.length≤12
 case neg=>
  go_in
  go_upto_region 1 with fail
  refine cF fun aG au aU=>?_
  replace bf:=bf.ae au;replace aW:=aW.ae au;replace bw:=bw.ae au;replace bt:=bt.ae au;replace cr:=cr.ae au;have I:=au;have dc:=aU.aI
  go_wp2_with fail
  refine (mx aq c0 rs h0 dZ ar av qs h1 _ hK.out _ (bf.ae az) (aW.ae az)).mono ?_
  rintro e aJ ⟨rfl,aL⟩
  have al:=be aG aL;replace I:=aj I al;replace bf:=bf.ae al;replace aW:=aW.ae al;replace bw:=bw.ae al;replace bt:=bt.ae al;replace cr:=cr.ae al;replace aU:=aU.to al;clear dc;have dc:=aU.aI
  go_wp2_with fail
  refine (lh ag af sp an ws c2 ao c3 ad h2 h3 cp _ lF.out _ (bw.ae az) (bt.ae az)).mono ?_
  exact abd
 have hr:=J qY
 go_in
 go_upto_region 1 with fail
 refine cF fun aG au aU=>?_
 replace bf:=bf.ae au;replace aW:=aW.ae au;replace bw:=bw.ae au;replace bt:=bt.ae au;replace cr:=cr.ae au;have I:=au;have dc:=aU.aI
 go_wp2_with fail
 refine (mx aq c0 rs h0 dZ ar av qs h1 _ hK.out _ (bf.ae az) (aW.ae az)).mono ?_
 rintro e aJ ⟨rfl,aL⟩
 have al:=be aG aL;replace I:=aj I al;replace bf:=bf.ae al;replace aW:=aW.ae al;replace bw:=bw.ae al;replace bt:=bt.ae al;replace cr:=cr.ae al;replace aU:=aU.to al;clear dc;have dc:=aU.aI
 go_wp2_with fail
 refine (lh ag af sp an ws c2 ao c3 ad h2 h3 cp _ lF.out _ (bw.ae az) (bt.ae az)).mono ?_
 rintro e bB ⟨rfl,bx⟩
 have aP:=be aJ bx;replace I:=aj I aP;replace bf:=bf.ae aP;replace aW:=aW.ae aP;replace bw:=bw.ae aP;replace bt:=bt.ae aP;replace cr:=cr.ae aP;replace aU:=aU.to aP;clear dc;have dc:=aU.aI
 have yf:Hid (∀d,os.any (fun o=>!pg rs o)= d→Calls Tryz.prog 120 #[.slice aA os c4,.func (.func 121) #[] #[.pointer (some ⟨w.heap.size,0,none⟩)]] bB fun e ah=>e= .returned (.bool d)∧Below bB bB ah):=J fun d bJ=>
  adz aA c4 os h4 121 #[.pointer (some ⟨w.heap.size,0,none⟩)] (zT Tryz.func121 (by kernel_rfl) (by kernel_rfl)) (fun o=>!pg rs o) d bJ bB cr (fun x _ V hM=>ako rs aq c0 h0 w.heap.size x V ((aU.to hM).cell 0) (aU.to hM).lt (bf.ae hM))
 by_cases vF:os.any (fun o=>!pg rs o)= true
 ·have vo:=J vF;clear vF
  go_wp2_with fail
  refine (yf.out _ vo.out).mono ?_
  rintro e bU ⟨rfl,cY⟩
  have bN:=be bB cY;replace I:=aj I bN;replace bf:=bf.ae bN;replace aW:=aW.ae bN;replace bw:=bw.ae bN;replace bt:=bt.ae bN;replace cr:=cr.ae bN;replace aU:=aU.to bN;clear dc;have dc:=aU.aI
  go_wp2
  go_ret
  exact⟨ed (Ng vo.out).symm,(aj I az)⟩
 replace vF:=Bool.eq_false_iff.2 vF;have vo:=J vF;clear vF
 go_wp2_with fail
 refine (yf.out _ vo.out).mono ?_
 rintro e bU ⟨rfl,cY⟩
 have bN:=be bB cY;replace I:=aj I bN;replace bf:=bf.ae bN;replace aW:=aW.ae bN;replace bw:=bw.ae bN;replace bt:=bt.ae bN;replace cr:=cr.ae bN;replace aU:=aU.to bN;clear dc;have dc:=aU.aI
 by_cases bJ:hl rs qs= true
 ·have fz:=J bJ;clear bJ
  go_wp2_with fail
  refine (Bq rs qs ag af sp ws ad os aq ar an ao aA c0 av c2 c3 c4 h0 h1 h2 h3 h4 H1.out _ fz.out _ (bf.ae az) (aW.ae az) (bw.ae az) (bt.ae az) (cr.ae az)).mono ?_
  rintro e dB ⟨rfl,eD⟩
  have cK:=be bU eD
  exact abf
 replace bJ:=Bool.eq_false_iff.2 bJ;have fz:=J bJ;clear bJ
 by_cases aV:sp= 0
 ·have tv:(sp == 0)= true:=beq_iff_eq.2 aV
  have Ao:=J tv;clear aV
  by_cases hw:ws.length= 0
  ·have vW:((ws.length:Int) == 0)= true:=by simp [hw]
   have mK:=J hw;clear hw
   go_wp2_with fail
   refine (Bq rs qs ag af sp ws ad os aq ar an ao aA c0 av c2 c3 c4 h0 h1 h2 h3 h4 H1.out _ fz.out _ (bf.ae az) (aW.ae az) (bw.ae az) (bt.ae az) (cr.ae az)).mono ?_
   rintro e dB ⟨rfl,eD⟩
   have cK:=be bU eD
   exact aaU
  ·have vW:((ws.length:Int) == 0)= false:=by simpa using hw
   have mK:=J hw;clear hw
   go_wp2_with fail
   refine (Bq rs qs ag af sp ws ad os aq ar an ao aA c0 av c2 c3 c4 h0 h1 h2 h3 h4 H1.out _ fz.out _ (bf.ae az) (aW.ae az) (bw.ae az) (bt.ae az) (cr.ae az)).mono ?_
   rintro e dB ⟨rfl,eD⟩
   have cK:=be bU eD
   exact aaT
 ·have tv:(sp == 0)= false:=beq_eq_false_iff_ne.2 aV
  have Ao:=J tv;clear aV
  go_wp2_with fail
  refine (Bq rs qs ag af sp ws ad os aq ar an ao aA c0 av c2 c3 c4 h0 h1 h2 h3 h4 H1.out _ fz.out _ (bf.ae az) (aW.ae az) (bw.ae az) (bt.ae az) (cr.ae az)).mono ?_
  rintro e dB ⟨rfl,eD⟩
  have cK:=be bU eD
  exact aaX
theorem amx (rs:List aK) (qs:List aQ) (ag af sp:Int) (ws:List Int) (ad:List aO) (os:List Out) (aq ar an ao aA:Option Addr) (c0 av c2 c3 c4:Nat) (h0:rs.length≤1048576) (h1:qs.length≤1048576) (h2:ws.length≤1048576) (h3:ad.length≤1048576) (h4:os.length≤1048576) (v:Bool) (ax:pf rs qs ag af sp ws ad os= v) (w:World) (bf:aS 7 aK.cells w aq rs) (aW:aS 3 aQ.cells w ar qs) (bw:aS 1 bV w an ws) (bt:aS 3 aO.cells w ao ad) (cr:aS 3 Out.cells w aA os) (dZ:rs.length≤c0) (cp:ws.length≤c2):
 Calls Tryz.prog 107 #[.agg #[.slice aq rs c0,.slice ar qs av,ag,af,sp,.slice an ws c2,.slice ao ad c3,.slice aA os c4]] w fun e ah=>e= .returned v∧Below w w ah:=by
 subst ax
 cases oV:dt rs qs
 ·have hK:=J oV;clear oV
  go_in
  go_upto_region 1 with fail
  refine cF fun aG au aU=>?_
  replace bf:=bf.ae au;replace aW:=aW.ae au;replace bw:=bw.ae au;replace bt:=bt.ae au;replace cr:=cr.ae au;have I:=au;have dc:=aU.aI
  go_wp2_with fail
  refine (nb aq c0 rs h0 ar av qs h1 _ hK.out _ (bf.ae az) (aW.ae az)).mono ?_
  exact aaZ
 have H1:=J oV;have hK:=J oV;clear oV
 cases qX:gd ag af sp ws ad
 ·have lF:=J qX;clear qX
  go_in
  go_upto_region 1 with fail
  refine cF fun aG au aU=>?_
  replace bf:=bf.ae au;replace aW:=aW.ae au;replace bw:=bw.ae au;replace bt:=bt.ae au;replace cr:=cr.ae au;have I:=au;have dc:=aU.aI
  go_wp2_with fail
  refine (nb aq c0 rs h0 ar av qs h1 _ hK.out _ (bf.ae az) (aW.ae az)).mono ?_
  rintro e aJ ⟨rfl,aL⟩
  have al:=be aG aL;replace I:=aj I al;replace bf:=bf.ae al;replace aW:=aW.ae al;replace bw:=bw.ae al;replace bt:=bt.ae al;replace cr:=cr.ae al;replace aU:=aU.to al;clear dc;have dc:=aU.aI
  go_wp2_with fail
  refine (lj ag af sp an ws c2 ao c3 ad h2 h3 cp _ lF.out _ (bw.ae az) (bt.ae az)).mono ?_
  exact aba
 have fY:=J qX;have lF:=J qX;clear qX
 by_cases qY:os.length≤12
 case neg=>
  go_in
  go_upto_region 1 with fail
  refine cF fun aG au aU=>?_
  replace bf:=bf.ae au;replace aW:=aW.ae au;replace bw:=bw.ae au;replace bt:=bt.ae au;replace cr:=cr.ae au;have I:=au;have dc:=aU.aI
  go_wp2_with fail
  refine (nb aq c0 rs h0 ar av qs h1 _ hK.out _ (bf.ae az) (aW.ae az)).mono ?_
  rintro e aJ ⟨rfl,aL⟩
  have al:=be aG aL;replace I:=aj I al;replace bf:=bf.ae al;replace aW:=aW.ae al;replace bw:=bw.ae al;replace bt:=bt.ae al;replace cr:=cr.ae al;replace aU:=aU.to al;clear dc;have dc:=aU.aI
  go_wp2_with fail
  refine (lj ag af sp an ws c2 ao c3 ad h2 h3 cp _ lF.out _ (bw.ae az) (bt.ae az)).mono ?_
  exact abd
 have hr:=J qY
 go_in
 go_upto_region 1 with fail
 refine cF fun aG au aU=>?_
 replace bf:=bf.ae au;replace aW:=aW.ae au;replace bw:=bw.ae au;replace bt:=bt.ae au;replace cr:=cr.ae au;have I:=au;have dc:=aU.aI
 go_wp2_with fail
 refine (nb aq c0 rs h0 ar av qs h1 _ hK.out _ (bf.ae az) (aW.ae az)).mono ?_
 rintro e aJ ⟨rfl,aL⟩
 have al:=be aG aL;replace I:=aj I al;replace bf:=bf.ae al;replace aW:=aW.ae al;replace bw:=bw.ae al;replace bt:=bt.ae al;replace cr:=cr.ae al;replace aU:=aU.to al;clear dc;have dc:=aU.aI
 go_wp2_with fail
 refine (lj ag af sp an ws c2 ao c3 ad h2 h3 cp _ lF.out _ (bw.ae az) (bt.ae az)).mono ?_
 rintro e bB ⟨rfl,bx⟩
 have aP:=be aJ bx;replace I:=aj I aP;replace bf:=bf.ae aP;replace aW:=aW.ae aP;replace bw:=bw.ae aP;replace bt:=bt.ae aP;replace cr:=cr.ae aP;replace aU:=aU.to aP;clear dc;have dc:=aU.aI
 go_wp2
 have dP:=J aU;have acO:=J bf;have acP:=J aW;have acQ:=J bw;have acR:=J bt;have Kd:=J cr;clear dc
 go_loopw [3] (fun i wr=>∃k:Nat,k≤os.length∧i= .int .i64 k∧gy (jb (pg rs) os) k= true∧Below w w wr∧Below bB bB wr) (fun i _=>os.length - (intOf i).toNat)
 case atStart=>exact⟨0,Nat.zero_le _,rfl,rfl,I,Below.refl _ _⟩
 case round=>
  obtain⟨k,aD,rfl,aT,uy,aF⟩:=hrel
  have cB:=J aT;clear aT bf aW bw bt cr aU;have bf:=acO.out;have aW:=acP.out;have bw:=acQ.out;have bt:=acR.out;have cr:=Kd.out;have aU:=dP.out;have bN:=be bB aF;replace I:=aj I bN;replace bf:=bf.ae bN;replace aW:=aW.ae bN;replace bw:=bw.ae bN;replace bt:=bt.ae bN;replace cr:=cr.ae bN;replace aU:=aU.to aF;have dc:=aU.aI
  by_cases bu:k < os.length
  ·obtain⟨dY,gP,x,rfl,ew,aw,bz⟩:=cr.at_ (Below.refl _ _) bu
   obtain⟨hb,dO,jh⟩:=x
   clear dc;have dc:=aU.aI;have ch:=bz 0 _ rfl;have dq:=bz 1 _ rfl
   simp only [Nat.add_zero] at ch
   have cc:=J aw;clear aw bz;have jj:=J bf
   cases hf:hE rs hb with
   | none=>
    have cC:=J hf;clear hf
    go_upto_region 6 with fail
    clear dc;have dc:=aB.oS (fun K:ay wr.heap.size wr=>(aU.ae K.ae aU.lt))
    refine eK (by kernel_rfl) (by kernel_rfl) ?_
    repeat (go_big_quiet_step (fail))
    go_big_quiet_step ((go_at_call 72;exact ay.same _ (tG aq c0 rs h0 hb _ (Bo cC.out) _ (jj.out.ae (ay.ae _)))))
    repeat (go_big_quiet_step (fail))
    refine wpQuiet_nil ?_
    intro K
    go_wp2
    go_ret
    exact⟨ed (Ng (List.any_eq_true.2 ⟨⟨hb,dO,jh⟩,List.mem_of_getElem? cc.out,by rw [Vy (o:=⟨hb,dO,jh⟩) cC.out];rfl⟩)).symm,aj uy K.ae⟩
   | some r=>
    have cC:=J hf;clear hf
    obtain⟨m,hm,_⟩:=qq cC.out
    have Ag:=J hm;clear hm;have Mf:decide ((m:Int) < 0)= false:=decide_eq_false (by omega)
    cases aL:ey dO
    ·have iq:=J aL;clear aL
     go_upto_region 6 with fail
     clear dc;have dc:=aB.oS (fun K:ay wr.heap.size wr=>(aU.ae K.ae aU.lt))
     refine eK (by kernel_rfl) (by kernel_rfl) ?_
     repeat (go_big_quiet_step (fail))
     go_big_quiet_step ((go_at_call 72;exact ay.same _ (tG aq c0 rs h0 hb _ Ag.out _ (jj.out.ae (ay.ae _)))))
     repeat (go_big_quiet_step (fail))
     go_big_quiet_step ((go_at_call 162;exact ay.same _ (iy dO _ iq.out _)))
     repeat (go_big_quiet_step (fail))
     refine wpQuiet_nil ?_
     intro K
     go_wp2
     go_ret
     exact⟨ed (Ng (List.any_eq_true.2 ⟨⟨hb,dO,jh⟩,List.mem_of_getElem? cc.out,by rw [Nu (o:=⟨hb,dO,jh⟩) cC.out];simp only [iq.out];rfl⟩)).symm,aj uy K.ae⟩
    ·have iq:=J aL;clear aL
     go_upto_region 6 with fail
     clear dc;have dc:=aB.oS (fun K:ay wr.heap.size wr=>(aU.ae K.ae aU.lt))
     refine eK (by kernel_rfl) (by kernel_rfl) ?_
     repeat (go_big_quiet_step (fail))
     go_big_quiet_step ((go_at_call 72;exact ay.same _ (tG aq c0 rs h0 hb _ Ag.out _ (jj.out.ae (ay.ae _)))))
     repeat (go_big_quiet_step (fail))
     go_big_quiet_step ((go_at_call 162;exact ay.same _ (iy dO _ iq.out _)))
     repeat (go_big_quiet_step (fail))
     refine wpQuiet_nil ?_
     intro K
     go_wp2
     go_roundw
     case rel=>exact⟨k + 1,by omega,by go_num,mv cB.out (by simp only [jb,cc.out];rw [Nu (o:=⟨hb,dO,jh⟩) cC.out];exact iq.out),aj uy K.ae,aj aF K.ae⟩
     case measure=>simp [intOf];omega
  ·obtain rfl:k= os.length:=by omega
   have vo:Hid (os.any (fun o=>!pg rs o)= false):=J (by
    rw [Bool.eq_false_iff]
    intro aH
    obtain⟨x,aw,aN⟩:=List.any_eq_true.1 aH
    obtain⟨i,hi⟩:=List.mem_iff_getElem?.1 aw
    have:=lJ.1 cB.out i (List.getElem?_eq_some_iff.1 hi).1
    simp only [jb,hi] at this
    rw [this] at aN;cases aN)
   by_cases bJ:hl rs qs= true
   ·have fz:=J bJ;clear bJ
    go_wp2_with fail
    refine (zr rs qs aq ar c0 av h0 h1 H1.out _ fz.out _ (bf.ae az) (aW.ae az)).mono ?_
    rintro e dB ⟨rfl,eD⟩
    have cK:=be wr eD
    exact abf
   replace bJ:=Bool.eq_false_iff.2 bJ;have fz:=J bJ;clear bJ
   by_cases aV:sp= 0
   ·have tv:(sp == 0)= true:=beq_iff_eq.2 aV
    have Ao:=J tv;clear aV
    by_cases hw:ws.length= 0
    ·have vW:((ws.length:Int) == 0)= true:=by simp [hw]
     have mK:=J hw;clear hw
     go_wp2_with fail
     refine (zr rs qs aq ar c0 av h0 h1 H1.out _ fz.out _ (bf.ae az) (aW.ae az)).mono ?_
     rintro e dB ⟨rfl,eD⟩
     have cK:=be wr eD
     exact aaU
    ·have vW:((ws.length:Int) == 0)= false:=by simpa using hw
     have mK:=J hw;clear hw
     go_wp2_with fail
     refine (zr rs qs aq ar c0 av h0 h1 H1.out _ fz.out _ (bf.ae az) (aW.ae az)).mono ?_
     rintro e dB ⟨rfl,eD⟩
     have cK:=be wr eD
     exact aaT
   ·have tv:(sp == 0)= false:=beq_eq_false_iff_ne.2 aV
    have Ao:=J tv;clear aV
    go_wp2_with fail
    refine (zr rs qs aq ar c0 av h0 h1 H1.out _ fz.out _ (bf.ae az) (aW.ae az)).mono ?_
    rintro e dB ⟨rfl,eD⟩
    have cK:=be wr eD
    exact aaX
open Go.RowKit Go.G9
structure nk where
 kind:Int
 mem:Int
 val:Int
 yes:Int
 no:Int
 bq:Int
def cw.fV (m:cw):eo:=⟨m.ek,m.dS,m.fk,m.ds,m.du⟩
def cw.IM (m:cw) (qs:List aQ):cw:={m with cP:=qs,fk:=0,ds:=[],du:=[]}
def cw.Ft (m:cw) (f:eo):cw:={m with ek:=f.ag,dS:=f.af,fk:=f.sp,ds:=f.ws,du:=f.ad}
def cw.aoc (m:cw) (qs:List aQ):cw:={m with cP:=qs}
def cw.BU (m:cw) (qs:List aQ) (o:Out):cw:={m with cP:=qs,fk:=0,ds:=[],du:=[],cl:=m.cl ++ [o]}
def sn (rs:List aK) (q:aQ):Int:=match hE rs q.fR with | some r=>r.hx | none=>0
def nZ (m:cw) (a:nk):Option cw:=match qg m.cx m.cP with
 | some (ps,q)=>if sy a.yes a.no a.bq && !decide (m.cl.length= 12) then some (m.BU ps ⟨q.fR,q.mover,om (sn m.cx q) a.yes a.no⟩) else none
 | none=>none
def rU (m:cw) (a:nk):Option cw:=
 if a.kind= 3 then if mM m.fV a.mem && hl m.cx m.cP then some (m.Ft (py m.fV a.mem)) else none
 else if a.kind= 4 then if lP m.fV && hl m.cx m.cP then (rA m.fV).map (fun p=>m.Ft (qx m.fV p)) else none
 else if a.kind= 5 then if nf m.fV a.val && hl m.cx m.cP then some (m.Ft (jt m.fV a.val)) else none
 else if a.kind= 6 then if lE m.fV && hl m.cx m.cP then some (m.Ft (lW m.fV)) else none
 else none
def gC (m:cw) (a:nk):Option cw:=
 if a.kind= 1 then if m.fk == 0 then (jy m.cx m.cP a.val a.mem).map m.IM else none
 else if a.kind= 2 then (jJ m.cx m.cP a.mem).map m.aoc
 else if a.kind= 7 then if m.fk == 0 then nZ m a else none
 else if a.kind= 8 then if m.fk == 0 then (jX m.cx m.cP a.mem).map m.IM else none
 else if a.kind= 9 then if (m.fk == 0) && (dt m.cx m.cP && jx m.cx m.cP) then some (m.IM (uo m.cx m.cP)) else none
 else rU m a
structure gR (m:cw):Prop where
 ho:dt m.cx m.cP= true
 fV:m.fV.ok= true
 ol:m.cl.length≤12
 ER:∀o,o ∈ m.cl→pg m.cx o= true
 GD:hl m.cx m.cP= true∨(m.fk= 0∧m.ds= [])
theorem BA {m:cw}:oD m= true↔gR m:=by
 unfold oD pf zL
 simp only [Bool.and_eq_true,Bool.or_eq_true,beq_iff_eq,decide_eq_true_eq,Bool.not_eq_true',List.length_eq_zero_iff]
 constructor
 ·rintro ⟨h1,h2,h3,h4,h5⟩
  refine⟨h1,h2,h3,fun o cG=>?_,h5⟩
  rw [List.any_eq_false] at h4
  have:=h4 o cG
  simpa using this
 ·rintro ⟨h1,h2,h3,h4,h5⟩
  refine⟨h1,h2,h3,?_,h5⟩
  rw [List.any_eq_false]
  intro o cG
  simp [h4 o cG]
theorem RC {ag af:Int} (h1:1≤ag∧ag≤3) (h2:1≤af∧af≤3600):gd ag af 0 [] []= true:=
 GK.2 ⟨h1,h2,Or.inl rfl,by simp,by simp,List.Pairwise.nil,by simp,List.Pairwise.nil,Or.inl rfl⟩
theorem Ow {m:cw} {qs:List aQ} (h:gR m) (aN:dt m.cx qs= true):gR (m.IM qs):=by
 have H:=ks.1 h.fV
 exact⟨aN,RC H.t H.s,h.ol,h.ER,Or.inr ⟨rfl,rfl⟩⟩
theorem IL {m:cw} {f:eo} (h:gR m) (hf:f.ok= true) (bJ:hl m.cx m.cP= true):gR (m.Ft f):=by
 exact⟨h.ho,hf,h.ol,h.ER,Or.inl bJ⟩
theorem QZ {rs:List aK} {qs:List aQ} (h:jx rs qs= true):hl rs qs= false:=by
 unfold jx at h;unfold hl
 cases bj:qs[qs.length - 1]? with
 | none=>rfl
 | some q=>
  rw [bj] at h
  dsimp only at h ⊢
  cases bp:hE rs q.fR with
  | none=>rfl
  | some r=>rw [bp] at h;dsimp only at h ⊢;rw [h];rfl
theorem IG {m n:cw} {a:nk} (h:nZ m a= some n):∃ps q,qg m.cx m.cP= some (ps,q)∧sy a.yes a.no a.bq= true∧m.cl.length≠12∧n= m.BU ps ⟨q.fR,q.mover,om (sn m.cx q) a.yes a.no⟩:=by
 unfold nZ at h
 split at h
 ·rename_i ps q bJ
  split at h
  ·rename_i aH
   simp only [Bool.and_eq_true,Bool.not_eq_true',decide_eq_false_iff_not] at aH
   cases h
   exact⟨ps,q,bJ,aH.1,aH.2,rfl⟩
  ·cases h
 ·cases h
theorem anU {m n:cw} {a:nk} (h:gR m) (ax:nZ m a= some n):gR n:=by
 obtain⟨ps,q,bJ,ct,cG,rfl⟩:=IG ax
 obtain⟨h1,h2,j,bE,bj,rfl⟩:=Rg bJ
 have H:=ks.1 h.fV
 obtain⟨r,bp⟩:=nd h.ho bj
 refine⟨h1,RC H.t H.s,?_,?_,Or.inr ⟨rfl,rfl⟩⟩
 ·have:=h.ol;simp only [cw.BU,List.length_append,List.length_cons,List.length_nil];omega
 ·intro o hm
  simp only [cw.BU,List.mem_append,List.mem_cons,List.not_mem_nil,or_false] at hm
  rcases hm with hm | rfl
  ·exact h.ER o hm
  ·simp only [pg,cw.BU,bp,Option.isSome_some,Bool.true_and]
   exact VG h.ho bj
theorem aeF {m n:cw} {a:nk} (h:gR m) (ax:rU m a= some n):gR n:=by
 unfold rU at ax
 split at ax
 ·split at ax
  ·rename_i aH;simp only [Bool.and_eq_true] at aH
   cases ax;exact IL h (acX aH.1) aH.2
  ·cases ax
 split at ax
 ·split at ax
  ·rename_i aH;simp only [Bool.and_eq_true] at aH
   cases hm:rA m.fV with
   | none=>rw [hm] at ax;cases ax
   | some p=>
    rw [hm] at ax;cases ax
    exact IL h (akj aH.1 (List.mem_of_getElem? hm)) aH.2
  ·cases ax
 split at ax
 ·split at ax
  ·rename_i aH;simp only [Bool.and_eq_true] at aH
   cases ax;exact IL h (anl aH.1) aH.2
  ·cases ax
 split at ax
 ·split at ax
  ·rename_i aH;simp only [Bool.and_eq_true] at aH
   cases ax;exact IL h (Yg aH.1) aH.2
  ·cases ax
 ·cases ax
theorem HQ {m n:cw} {a:nk} (h:gR m) (ax:gC m a= some n):gR n:=by
 unfold gC at ax
 split at ax
 ·split at ax
  ·cases bj:jy m.cx m.cP a.val a.mem with
   | none=>rw [bj] at ax;cases ax
   | some qs=>rw [bj] at ax;cases ax;exact Ow h (ajV bj)
  ·cases ax
 split at ax
 ·cases bj:jJ m.cx m.cP a.mem with
  | none=>rw [bj] at ax;cases ax
  | some qs=>
   rw [bj] at ax;cases ax
   have aT:jx m.cx m.cP= true:=by
    unfold jJ at bj
    split at bj
    ·rename_i aH;simp only [Bool.and_eq_true] at aH;exact aH.2.1
    ·cases bj
   refine⟨ane bj,h.fV,h.ol,h.ER,Or.inr (h.GD.resolve_left ?_)⟩
   rw [QZ aT];simp
 split at ax
 ·split at ax
  ·exact anU h ax
  ·cases ax
 split at ax
 ·split at ax
  ·cases bj:jX m.cx m.cP a.mem with
   | none=>rw [bj] at ax;cases ax
   | some qs=>rw [bj] at ax;cases ax;exact Ow h (aob bj)
  ·cases ax
 split at ax
 ·split at ax
  ·rename_i aH;simp only [Bool.and_eq_true] at aH
   cases ax
   exact Ow h (adI (show kL m.cx m.cP= some _ by rw [kL,if_pos aH.2.1]))
  ·cases ax
 ·exact aeF h ax
theorem adE {m:cw} (h:gR m) (hw:0 < m.ds.length):hl m.cx m.cP= true:=by
 rcases h.GD with h1 | h1
 ·exact h1
 ·rw [h1.2] at hw;simp at hw
theorem Rb {m:cw} (h:gR m) (hw:m.fk≠0):hl m.cx m.cP= true:=by
 rcases h.GD with h1 | h1
 ·exact h1
 ·exact absurd h1.1 hw
theorem anr {m:cw} (h:gR m) (aT:jx m.cx m.cP= true):m.fk= 0:=by
 rcases h.GD with h1 | h1
 ·rw [QZ aT] at h1;cases h1
 ·exact h1.1
theorem Nb {N:Nat}:∀{xs:List aO} {lo:Int},xs.Pairwise (fun a b=>a.mem < b.mem)→(∀x,x ∈ xs→lo < x.mem∧x.mem≤lo + N)→xs.length≤N
 | [],_,_,_=>by simp
 | x ::xs,lo,h,aF=>by
  obtain⟨h1,h2⟩:=List.pairwise_cons.1 h
  have aw:=aF x List.mem_cons_self
  cases N with
  | zero=>omega
  | succ N=>
   have:=Nb (N:=N) (lo:=lo + 1) h2 (fun y hy=>by
    have a:=h1 y hy;have b:=aF y (List.mem_cons_of_mem _ hy)
    constructor <;> omega)
   simp;omega
theorem sl {m:cw} (h:gR m):m.cx.length≤8∧m.cP.length≤6∧m.ds.length≤10∧m.du.length≤99∧m.cl.length≤12:=by
 obtain⟨bp,bj,_⟩:=mj h.ho
 have H:=ks.1 h.fV
 refine⟨?_,bj,H.l,?_,h.ol⟩
 ·unfold js at bp;simp only [Bool.and_eq_true,decide_eq_true_eq] at bp;exact bp.2
 ·refine Nb (N:=99) (lo:=0) H.ord fun x aw=>?_
  have:=tQ.1 (H.ok x aw);have:=qt.1 this.1
  omega
open Go.RowKit Go.G9
def tJ (ag af:Int):Bool:=gd ag af 0 [] []
def Vp (ag af:Int) (b:Bool):Value:=if b then .tuple #[.agg #[.int .i64 ag,.int .i64 af,.int .i64 0,.slice none 0 0,.slice none 0 0],.bool true] else .tuple #[.agg #[.int .i64 0,.int .i64 0,.int .i64 0,.slice none 0 0,.slice none 0 0],.bool false]
theorem xH {T:Type} {sz:Nat} {f:T→List Value} {w:World} {A:Option Addr}:aS sz f w A ([]:List T):=fun h=>absurd h (by simp)
theorem TU (ag af:Int) (b:Bool) (aF:tJ ag af= b) (w:World):
 Calls Tryz.prog 132 #[ag,af] w fun e ah=>e= .returned (Vp ag af b)∧Below w w ah:=by
 have bo:=J aF;clear aF
 cases b
 ·go_in
  go_upto_region 2 with fail
  refine fe fun aG au U ai=>?_
  have I:=au;have ak:=U.aM;have aC:=ai.aM;have dn:=U.lt;have Bc:=ai.lt
  go_wp2_with fail
  refine (lh ag af 0 none [] 0 none 0 [] (by simp) (by simp) (by simp) _ bo.out _ xH xH).mono ?_
  rintro e aJ ⟨rfl,aL⟩
  have al:=be aG aL;replace I:=aj I al;replace U:=U.to al;clear ak;have ak:=U.aM;replace ai:=ai.to al;clear aC;have aC:=ai.aM;have dM:=U.iE;have lV:=U.lt;have pn:=ai.lt
  go_wp2
  clear ak aC
  refine gF 0 fun cD aE=>?_
  replace I:=aE.aH I;replace U:=aE.hV U;replace ai:=aE.dV ai;have xN:=aE.sz;have ak:=U.aM;have aC:=ai.aM
  refine bodyPost_ret (v:= .tuple #[.agg #[(0:Int),(0:Int),(0:Int),.slice none 0 0,.slice none 0 0],false]) (by simp [results,Tryz.results132,go_sem,ak]) rfl ?_
  exact⟨rfl,I⟩
 ·go_in
  go_upto_region 2 with fail
  refine fe fun aG au U ai=>?_
  have I:=au;have ak:=U.aM;have aC:=ai.aM;have dn:=U.lt;have Bc:=ai.lt
  go_wp2_with fail
  refine (lh ag af 0 none [] 0 none 0 [] (by simp) (by simp) (by simp) _ bo.out _ xH xH).mono ?_
  rintro e aJ ⟨rfl,aL⟩
  have al:=be aG aL;replace I:=aj I al;replace U:=U.to al;clear ak;have ak:=U.aM;replace ai:=ai.to al;clear aC;have aC:=ai.aM;have dM:=U.iE;have lV:=U.lt;have pn:=ai.lt
  go_wp2
  clear ak aC
  refine gF 0 fun cD aE=>?_
  replace I:=aE.aH I;replace U:=aE.hV U;replace ai:=aE.dV ai;have xN:=aE.sz;have ak:=U.aM;have aC:=ai.aM
  refine bodyPost_ret (v:= .tuple #[.agg #[ag,af,(0:Int),.slice none 0 0,.slice none 0 0],true]) (by simp [results,Tryz.results132,go_sem,ak]) rfl ?_
  exact⟨rfl,I⟩
theorem WQ (ag af:Int) (b:Bool) (aF:tJ ag af= b) (w:World):
 Calls Tryz.prog 134 #[ag,af] w fun e ah=>e= .returned (Vp ag af b)∧Below w w ah:=by
 have bo:=J aF;clear aF
 cases b
 ·go_in
  go_upto_region 2 with fail
  refine fe fun aG au U ai=>?_
  have I:=au;have ak:=U.aM;have aC:=ai.aM;have dn:=U.lt;have Bc:=ai.lt
  go_wp2_with fail
  refine (lj ag af 0 none [] 0 none 0 [] (by simp) (by simp) (by simp) _ bo.out _ xH xH).mono ?_
  rintro e aJ ⟨rfl,aL⟩
  have al:=be aG aL;replace I:=aj I al;replace U:=U.to al;clear ak;have ak:=U.aM;replace ai:=ai.to al;clear aC;have aC:=ai.aM;have dM:=U.iE;have lV:=U.lt;have pn:=ai.lt
  go_wp2
  clear ak aC
  refine gF 0 fun cD aE=>?_
  replace I:=aE.aH I;replace U:=aE.hV U;replace ai:=aE.dV ai;have xN:=aE.sz;have ak:=U.aM;have aC:=ai.aM
  refine bodyPost_ret (v:= .tuple #[.agg #[(0:Int),(0:Int),(0:Int),.slice none 0 0,.slice none 0 0],false]) (by simp [results,Tryz.results134,go_sem,ak]) rfl ?_
  exact⟨rfl,I⟩
 ·go_in
  go_upto_region 2 with fail
  refine fe fun aG au U ai=>?_
  have I:=au;have ak:=U.aM;have aC:=ai.aM;have dn:=U.lt;have Bc:=ai.lt
  go_wp2_with fail
  refine (lj ag af 0 none [] 0 none 0 [] (by simp) (by simp) (by simp) _ bo.out _ xH xH).mono ?_
  rintro e aJ ⟨rfl,aL⟩
  have al:=be aG aL;replace I:=aj I al;replace U:=U.to al;clear ak;have ak:=U.aM;replace ai:=ai.to al;clear aC;have aC:=ai.aM;have dM:=U.iE;have lV:=U.lt;have pn:=ai.lt
  go_wp2
  clear ak aC
  refine gF 0 fun cD aE=>?_
  replace I:=aE.aH I;replace U:=aE.hV U;replace ai:=aE.dV ai;have xN:=aE.sz;have ak:=U.aM;have aC:=ai.aM
  refine bodyPost_ret (v:= .tuple #[.agg #[ag,af,(0:Int),.slice none 0 0,.slice none 0 0],true]) (by simp [results,Tryz.results134,go_sem,ak]) rfl ?_
  exact⟨rfl,I⟩
theorem TT (ag af:Int) (aF:tJ ag af= true) (w:World):Calls Tryz.prog 132 #[ag,af] w fun e ah=>e= .returned (.tuple #[.agg #[ag,af,(0:Int),.slice none 0 0,.slice none 0 0],true])∧Below w w ah:=TU ag af true aF w
theorem aij (ag af:Int) (aF:tJ ag af= false) (w:World):Calls Tryz.prog 132 #[ag,af] w fun e ah=>e= .returned (.tuple #[.agg #[(0:Int),(0:Int),(0:Int),.slice none 0 0,.slice none 0 0],false])∧Below w w ah:=TU ag af false aF w
theorem WO (ag af:Int) (aF:tJ ag af= true) (w:World):Calls Tryz.prog 134 #[ag,af] w fun e ah=>e= .returned (.tuple #[.agg #[ag,af,(0:Int),.slice none 0 0,.slice none 0 0],true])∧Below w w ah:=WQ ag af true aF w
theorem amL (ag af:Int) (aF:tJ ag af= false) (w:World):Calls Tryz.prog 134 #[ag,af] w fun e ah=>e= .returned (.tuple #[.agg #[(0:Int),(0:Int),(0:Int),.slice none 0 0,.slice none 0 0],false])∧Below w w ah:=WQ ag af false aF w
open Go.RowKit Go.G9
structure aos where
 ek:Int
 dS:Int
 fk:Int
 ds:List Int
 du:List aO
open Go.RowKit Go.G9
def hF (os:List Out) (n:Int):Nat→Int×Int
 | 0=>(0,0)
 | k + 1=>match os[k]? with | some o=>if o.mover == n then ((hF os n k).1 + 1,(hF os n k).2 + (if o.hB then 1 else 0)) else hF os n k | none=>hF os n k
theorem Nj (os:List Out) (n:Int):∀k,0≤(hF os n k).1∧(hF os n k).1≤k∧0≤(hF os n k).2∧(hF os n k).2≤k
 | 0=>by simp [hF]
 | k + 1=>by
  have:=Nj os n k
  unfold hF
  split
  ·split
   ·dsimp only;split <;> omega
   ·omega
  ·omega
def uH (m:cw) (n:Int):Value:=if oD m && ey n then .tuple #[.int .i64 (hF m.cl n m.cl.length).1,.int .i64 (hF m.cl n m.cl.length).2,.bool true] else .tuple #[.int .i64 0,.int .i64 0,.bool false]
theorem zl (m:cw) (aq ar an ao aA:Option Addr) (c0 av c2 c3 c4:Nat) (h0:m.cx.length≤1048576) (h1:m.cP.length≤1048576) (h2:m.ds.length≤1048576) (h3:m.du.length≤1048576) (h4:m.cl.length≤1048576) (v:Bool) (ax:oD m= v) (w:World) (bf:aS 7 aK.cells w aq m.cx) (aW:aS 3 aQ.cells w ar m.cP) (bw:aS 1 bV w an m.ds) (bt:aS 3 aO.cells w ao m.du) (cr:aS 3 Out.cells w aA m.cl) (dZ:m.cx.length≤c0) (eI:m.cP.length≤av) (cp:m.ds.length≤c2) (ef:m.du.length≤c3) (hY:m.cl.length≤c4):
 Calls Tryz.prog 63 #[.agg #[.slice aq m.cx c0,.slice ar m.cP av,m.ek,m.dS,m.fk,.slice an m.ds c2,.slice ao m.du c3,.slice aA m.cl c4]] w fun e ah=>e= .returned v∧Below w w ah:=
 ahR m.cx m.cP m.ek m.dS m.fk m.ds m.du m.cl aq ar an ao aA c0 av c2 c3 c4 h0 h1 h2 h3 h4 v ax w bf aW bw bt cr dZ cp
theorem zs (m:cw) (aq ar an ao aA:Option Addr) (c0 av c2 c3 c4:Nat) (h0:m.cx.length≤1048576) (h1:m.cP.length≤1048576) (h2:m.ds.length≤1048576) (h3:m.du.length≤1048576) (h4:m.cl.length≤1048576) (v:Bool) (ax:oD m= v) (w:World) (bf:aS 7 aK.cells w aq m.cx) (aW:aS 3 aQ.cells w ar m.cP) (bw:aS 1 bV w an m.ds) (bt:aS 3 aO.cells w ao m.du) (cr:aS 3 Out.cells w aA m.cl) (dZ:m.cx.length≤c0) (eI:m.cP.length≤av) (cp:m.ds.length≤c2) (ef:m.du.length≤c3) (hY:m.cl.length≤c4):
 Calls Tryz.prog 107 #[.agg #[.slice aq m.cx c0,.slice ar m.cP av,m.ek,m.dS,m.fk,.slice an m.ds c2,.slice ao m.du c3,.slice aA m.cl c4]] w fun e ah=>e= .returned v∧Below w w ah:=
 amx m.cx m.cP m.ek m.dS m.fk m.ds m.du m.cl aq ar an ao aA c0 av c2 c3 c4 h0 h1 h2 h3 h4 v ax w bf aW bw bt cr dZ cp
open Go.RowKit Go.G9
theorem Ve {os:List Out} {n:Int} {k:Nat} {o:Out} (aw:os[k]? =some o) (h:(o.mover == n)= false):hF os n (k + 1)= hF os n k:=by simp [hF,aw,h]
theorem Vf {os:List Out} {n:Int} {k:Nat} {o:Out} (aw:os[k]? =some o) (h:(o.mover == n)= true):hF os n (k + 1)= ((hF os n k).1 + 1,(hF os n k).2 + (if o.hB then 1 else 0)):=by simp [hF,aw,h]
theorem YW {p:Prop} (h:p:=by
 exact bodyPost_ret (v:= .tuple #[(0:Int),(0:Int),false]) (by simp [results,Tryz.results177,go_sem]) rfl ⟨rfl,(aj I az)⟩):p:=h
theorem YF {p:Prop} (h:p:=by
 go_wp2
 go_roundw
 case rel=>exact⟨k + 1,by omega,by go_num,by rw [dU.out],by rw [dU.out];simp,aj uy (bT _ _),aj aF (bT _ _)⟩
 case measure=>simp [intOf];omega):p:=h
theorem aih (m:cw) (aq ar an ao aA:Option Addr) (c0 av c2 c3 c4:Nat) (h0:m.cx.length≤1048576) (h1:m.cP.length≤1048576) (h2:m.ds.length≤1048576) (h3:m.du.length≤1048576) (h4:m.cl.length≤1048576) (n:Int) (v:Value) (ax:uH m n= v) (w:World) (bf:aS 7 aK.cells w aq m.cx) (aW:aS 3 aQ.cells w ar m.cP) (bw:aS 1 bV w an m.ds) (bt:aS 3 aO.cells w ao m.du) (cr:aS 3 Out.cells w aA m.cl) (dZ:m.cx.length≤c0) (eI:m.cP.length≤av) (cp:m.ds.length≤c2) (ef:m.du.length≤c3) (hY:m.cl.length≤c4):
 Calls Tryz.prog 177 #[.agg #[.slice aq m.cx c0,.slice ar m.cP av,m.ek,m.dS,m.fk,.slice an m.ds c2,.slice ao m.du c3,.slice aA m.cl c4],n] w fun e ah=>e= .returned (v)∧Below w w ah:=by
 subst ax
 cases aF:oD m
 ·have bo:=J aF
  go_in
  go_upto_region 1 with fail
  refine cF fun aG au aU=>?_
  replace bf:=bf.ae au;replace aW:=aW.ae au;replace bw:=bw.ae au;replace bt:=bt.ae au;replace cr:=cr.ae au;have I:=au;have dc:=aU.aI
  go_wp2_with fail
  refine (zl m aq ar an ao aA c0 av c2 c3 c4 h0 h1 h2 h3 h4 _ bo.out _ (bf.ae az) (aW.ae az) (bw.ae az) (bt.ae az) (cr.ae az) dZ eI cp ef hY).mono ?_
  rintro e aJ ⟨rfl,aL⟩
  have al:=be aG aL;replace I:=aj I al;replace bf:=bf.ae al;replace aW:=aW.ae al;replace bw:=bw.ae al;replace bt:=bt.ae al;replace cr:=cr.ae al;replace aU:=aU.to al;clear dc;have dc:=aU.aI
  go_wp2
  simp only [uH,bo.out]
  exact YW
 have bo:=J aF;clear aF
 cases aY:ey n
 ·have eZ:=J aY;clear aY
  go_in
  go_upto_region 1 with fail
  refine cF fun aG au aU=>?_
  replace bf:=bf.ae au;replace aW:=aW.ae au;replace bw:=bw.ae au;replace bt:=bt.ae au;replace cr:=cr.ae au;have I:=au;have dc:=aU.aI
  go_wp2_with fail
  refine (zl m aq ar an ao aA c0 av c2 c3 c4 h0 h1 h2 h3 h4 _ bo.out _ (bf.ae az) (aW.ae az) (bw.ae az) (bt.ae az) (cr.ae az) dZ eI cp ef hY).mono ?_
  rintro e aJ ⟨rfl,aL⟩
  have al:=be aG aL;replace I:=aj I al;replace bf:=bf.ae al;replace aW:=aW.ae al;replace bw:=bw.ae al;replace bt:=bt.ae al;replace cr:=cr.ae al;replace aU:=aU.to al;clear dc;have dc:=aU.aI
  go_wp2_with fail
  refine (iG n _ eZ.out _).mono ?_
  rintro e w0 ⟨rfl,h0⟩
  rw [h0]
  clear h0 w0
  go_wp2
  simp only [uH,bo.out,eZ.out]
  exact YW
 have eZ:=J aY;clear aY
 go_in
 go_upto_region 1 with fail
 refine cF fun aG au aU=>?_
 replace bf:=bf.ae au;replace aW:=aW.ae au;replace bw:=bw.ae au;replace bt:=bt.ae au;replace cr:=cr.ae au;have I:=au;have dc:=aU.aI
 go_wp2_with fail
 refine (zl m aq ar an ao aA c0 av c2 c3 c4 h0 h1 h2 h3 h4 _ bo.out _ (bf.ae az) (aW.ae az) (bw.ae az) (bt.ae az) (cr.ae az) dZ eI cp ef hY).mono ?_
 rintro e aJ ⟨rfl,aL⟩
 have al:=be aG aL;replace I:=aj I al;replace bf:=bf.ae al;replace aW:=aW.ae al;replace bw:=bw.ae al;replace bt:=bt.ae al;replace cr:=cr.ae al;replace aU:=aU.to al;clear dc;have dc:=aU.aI
 go_wp2_with fail
 refine (iG n _ eZ.out _).mono ?_
 rintro e w0 ⟨rfl,h0⟩
 rw [h0]
 clear h0 w0
 go_wp2
 clear dc
 go_loopw [7,8,22] (fun a b i wr=>∃k:Nat,k≤m.cl.length∧i= .int .i64 k∧a= .int .i64 (hF m.cl n k).1∧b= .int .i64 (hF m.cl n k).2∧Below w w wr∧Below aJ aJ wr) (fun _ _ i _=>m.cl.length - (intOf i).toNat)
 case atStart=>exact⟨0,Nat.zero_le _,rfl,rfl,rfl,I,Below.refl _ _⟩
 case round=>
  obtain⟨k,aD,rfl,rfl,rfl,uy,aF⟩:=hrel
  by_cases bu:k < m.cl.length
  ·obtain⟨dY,gP,x,rfl,ew,aw,bz⟩:=cr.at_ aF bu
   obtain⟨hb,dO,jh⟩:=x
   have ch:=bz 0 _ rfl;have dq:=bz 1 _ rfl;have cZ:=bz 2 _ rfl
   simp only [Nat.add_zero] at ch
   have g0:=ch (ay.self _);have g1:=dq (ay.self _);have g2:=cZ (ay.self _)
   simp only [ay.self] at g0
   simp only [ay.self] at g1
   simp only [ay.self] at g2
   have cc:=J aw;clear aw bz ch dq cZ;have qk:=Nj m.cl n k
   cases hm:(dO == n)
   ·have eM:(dO != n)= true:=by simp [bne,hm]
    have aV:=Ve cc.out hm;have dU:=J aV;clear aV
    go_wp2
    go_roundw
    case rel=>exact⟨k + 1,by omega,by go_num,by rw [dU.out],by rw [dU.out],aj uy (bT _ _),aj aF (bT _ _)⟩
    case measure=>simp [intOf];omega
   ·have eM:(dO != n)= false:=by simp [bne,hm]
    have aV:=Vf cc.out hm;have dU:=J aV;clear aV cc
    cases jh
    ·exact YF
    ·exact YF
  ·obtain rfl:k= m.cl.length:=by omega
   go_wp2
   simp only [uH,bo.out,eZ.out]
   exact bodyPost_ret (v:= .tuple #[.int .i64 (hF m.cl n m.cl.length).1,.int .i64 (hF m.cl n m.cl.length).2,true]) (by simp [results,Tryz.results177,go_sem]) rfl ⟨rfl,uy⟩
theorem YX {p:Prop} (h:p:=by
 exact bodyPost_ret (v:= .tuple #[(0:Int),(0:Int),false]) (by simp [results,Tryz.results196,go_sem]) rfl ⟨rfl,(aj I az)⟩):p:=h
theorem Zc {p:Prop} (h:p:=by
 go_wp2
 go_round
 case rel=>exact⟨k + 1,by omega,by go_num,by rw [dU.out],by rw [dU.out];simp⟩
 case measure=>simp [intOf];omega):p:=h
theorem amJ (m:cw) (aq ar an ao aA:Option Addr) (c0 av c2 c3 c4:Nat) (h0:m.cx.length≤1048576) (h1:m.cP.length≤1048576) (h2:m.ds.length≤1048576) (h3:m.du.length≤1048576) (h4:m.cl.length≤1048576) (n:Int) (v:Value) (ax:uH m n= v) (w:World) (bf:aS 7 aK.cells w aq m.cx) (aW:aS 3 aQ.cells w ar m.cP) (bw:aS 1 bV w an m.ds) (bt:aS 3 aO.cells w ao m.du) (cr:aS 3 Out.cells w aA m.cl) (dZ:m.cx.length≤c0) (eI:m.cP.length≤av) (cp:m.ds.length≤c2) (ef:m.du.length≤c3) (hY:m.cl.length≤c4):
 Calls Tryz.prog 196 #[.agg #[.slice aq m.cx c0,.slice ar m.cP av,m.ek,m.dS,m.fk,.slice an m.ds c2,.slice ao m.du c3,.slice aA m.cl c4],n] w fun e ah=>e= .returned (v)∧Below w w ah:=by
 subst ax
 cases aF:oD m
 ·have bo:=J aF
  go_in
  go_upto_region 1 with fail
  refine cF fun aG au aU=>?_
  replace bf:=bf.ae au;replace aW:=aW.ae au;replace bw:=bw.ae au;replace bt:=bt.ae au;replace cr:=cr.ae au;have I:=au;have dc:=aU.aI
  go_wp2_with fail
  refine (zs m aq ar an ao aA c0 av c2 c3 c4 h0 h1 h2 h3 h4 _ bo.out _ (bf.ae az) (aW.ae az) (bw.ae az) (bt.ae az) (cr.ae az) dZ eI cp ef hY).mono ?_
  rintro e aJ ⟨rfl,aL⟩
  have al:=be aG aL;replace I:=aj I al;replace bf:=bf.ae al;replace aW:=aW.ae al;replace bw:=bw.ae al;replace bt:=bt.ae al;replace cr:=cr.ae al;replace aU:=aU.to al;clear dc;have dc:=aU.aI
  go_wp2
  simp only [uH,bo.out]
  exact YX
 have bo:=J aF;clear aF
 cases aY:ey n
 ·have eZ:=J aY;clear aY
  go_in
  go_upto_region 1 with fail
  refine cF fun aG au aU=>?_
  replace bf:=bf.ae au;replace aW:=aW.ae au;replace bw:=bw.ae au;replace bt:=bt.ae au;replace cr:=cr.ae au;have I:=au;have dc:=aU.aI
  go_wp2_with fail
  refine (zs m aq ar an ao aA c0 av c2 c3 c4 h0 h1 h2 h3 h4 _ bo.out _ (bf.ae az) (aW.ae az) (bw.ae az) (bt.ae az) (cr.ae az) dZ eI cp ef hY).mono ?_
  rintro e aJ ⟨rfl,aL⟩
  have al:=be aG aL;replace I:=aj I al;replace bf:=bf.ae al;replace aW:=aW.ae al;replace bw:=bw.ae al;replace bt:=bt.ae al;replace cr:=cr.ae al;replace aU:=aU.to al;clear dc;have dc:=aU.aI
  go_wp2_with fail
  refine (iy n _ eZ.out _).mono ?_
  rintro e w0 ⟨rfl,h0⟩
  rw [h0]
  clear h0 w0
  go_wp2
  simp only [uH,bo.out,eZ.out]
  exact YX
 have eZ:=J aY;clear aY
 go_in
 go_upto_region 1 with fail
 refine cF fun aG au aU=>?_
 replace bf:=bf.ae au;replace aW:=aW.ae au;replace bw:=bw.ae au;replace bt:=bt.ae au;replace cr:=cr.ae au;have I:=au;have dc:=aU.aI
 go_wp2_with fail
 refine (zs m aq ar an ao aA c0 av c2 c3 c4 h0 h1 h2 h3 h4 _ bo.out _ (bf.ae az) (aW.ae az) (bw.ae az) (bt.ae az) (cr.ae az) dZ eI cp ef hY).mono ?_
 rintro e aJ ⟨rfl,aL⟩
 have al:=be aG aL;replace I:=aj I al;replace bf:=bf.ae al;replace aW:=aW.ae al;replace bw:=bw.ae al;replace bt:=bt.ae al;replace cr:=cr.ae al;replace aU:=aU.to al;clear dc;have dc:=aU.aI
 go_wp2_with fail
 refine (iy n _ eZ.out _).mono ?_
 rintro e w0 ⟨rfl,h0⟩
 rw [h0]
 clear h0 w0
 go_wp2
 go_loop [7,8,9] (fun a b i=>∃k:Nat,k≤m.cl.length∧i= .int .i64 k∧a= .int .i64 (hF m.cl n k).1∧b= .int .i64 (hF m.cl n k).2) (fun _ _ i=>m.cl.length - (intOf i).toNat)
 case atStart=>exact⟨0,Nat.zero_le _,rfl,rfl,rfl⟩
 case round=>
  obtain⟨k,aD,rfl,rfl,rfl⟩:=hrel
  by_cases bu:k < m.cl.length
  ·obtain⟨dY,gP,x,rfl,ew,aw,bz⟩:=cr.at_ (Below.refl _ _) bu
   obtain⟨hb,dO,jh⟩:=x
   have ch:=bz 0 _ rfl;have dq:=bz 1 _ rfl;have cZ:=bz 2 _ rfl
   simp only [Nat.add_zero] at ch
   have g0:=ch (ay.self _);have g1:=dq (ay.self _);have g2:=cZ (ay.self _)
   simp only [ay.self] at g0
   simp only [ay.self] at g1
   simp only [ay.self] at g2
   have cc:=J aw;clear aw bz ch dq cZ;have qk:=Nj m.cl n k
   cases hm:(dO == n)
   ·have aV:=Ve cc.out hm
    have dU:=J aV;clear aV
    go_wp2
    go_round
    case rel=>exact⟨k + 1,by omega,by go_num,by rw [dU.out],by rw [dU.out]⟩
    case measure=>simp [intOf];omega
   ·have aV:=Vf cc.out hm
    have dU:=J aV;clear aV cc
    cases jh
    ·exact Zc
    ·exact Zc
  ·obtain rfl:k= m.cl.length:=by omega
   go_wp2
   simp only [uH,bo.out,eZ.out]
   exact bodyPost_ret (v:= .tuple #[.int .i64 (hF m.cl n m.cl.length).1,.int .i64 (hF m.cl n m.cl.length).2,true]) (by simp [results,Tryz.results196,go_sem]) rfl ⟨rfl,(aj I az)⟩
open Go.RowKit Go.G9
def jN (os:List Out):Nat→List Int
 | 0=>[]
 | k + 1=>match os[k]? with | some o=>if o.hB then jN os k ++ [o.fR] else jN os k | none=>jN os k
theorem yw (os:List Out):∀k,(jN os k).length≤k
 | 0=>Nat.le_refl _
 | k + 1=>by
  have:=yw os k
  unfold jN
  split
  ·split <;> simp <;> omega
  ·omega
def nM (m:cw):List Int:=if oD m then jN m.cl m.cl.length else []
theorem Qy {os:List Out} {k:Nat} {o:Out} (aw:os[k]? =some o) (h:o.hB= true):jN os (k + 1)= jN os k ++ [o.fR]:=by simp [jN,aw,h]
theorem Qx {os:List Out} {k:Nat} {o:Out} (aw:os[k]? =some o) (h:o.hB= false):jN os (k + 1)= jN os k:=by simp [jN,aw,h]
theorem Zi {p:Prop} (h:p:=by
 go_roundw
 case rel=>exact⟨k + 1,by omega,by go_num,by rw [jD.out];exact fb,xv⟩
 case measure=>simp [intOf];omega):p:=h
theorem ahg (m:cw) (aq ar an ao aA:Option Addr) (c0 av c2 c3 c4:Nat) (h0:m.cx.length≤1048576) (h1:m.cP.length≤1048576) (h2:m.ds.length≤1048576) (h3:m.du.length≤1048576) (h4:m.cl.length≤1048576) (w:World) (bf:aS 7 aK.cells w aq m.cx) (aW:aS 3 aQ.cells w ar m.cP) (bw:aS 1 bV w an m.ds) (bt:aS 3 aO.cells w ao m.du) (cr:aS 3 Out.cells w aA m.cl) (dZ:m.cx.length≤c0) (eI:m.cP.length≤av) (cp:m.ds.length≤c2) (ef:m.du.length≤c3) (hY:m.cl.length≤c4):
 Calls Tryz.prog 176 #[.agg #[.slice aq m.cx c0,.slice ar m.cP av,m.ek,m.dS,m.fk,.slice an m.ds c2,.slice ao m.du c3,.slice aA m.cl c4]] w fun e ah=>∃A c,e= .returned (.tuple #[.slice A (nM m).length c,.bool (oD m)])∧bd w 3 1 bV ah (.slice A (nM m).length c) (nM m)∧Below w w ah:=by
 obtain⟨i0,hi,dn,dC,dz⟩:=info_parts rr
 cases aF:oD m
 ·have bo:=J aF
  have aX:nM m= []:=by simp [nM,aF]
  rw [aX]
  clear aF aX
  go_in
  go_upto_region 1 with fail
  refine cF fun aG au aU=>?_
  replace bf:=bf.ae au;replace aW:=aW.ae au;replace bw:=bw.ae au;replace bt:=bt.ae au;replace cr:=cr.ae au;have I:=au;have dc:=aU.aI
  go_wp2_with fail
  refine (zl m aq ar an ao aA c0 av c2 c3 c4 h0 h1 h2 h3 h4 _ bo.out _ (bf.ae az) (aW.ae az) (bw.ae az) (bt.ae az) (cr.ae az) dZ eI cp ef hY).mono ?_
  rintro e aJ ⟨rfl,aL⟩
  have al:=be aG aL;replace I:=aj I al;clear dc
  go_wp2
  go_ret2
  exact⟨none,0,rfl,bd.nil,(aj I az)⟩
 ·have bo:=J aF
  have aX:nM m= jN m.cl m.cl.length:=by simp [nM,aF]
  rw [aX]
  clear aF aX
  go_in
  go_upto_region 1 with fail
  refine cF fun aG au aU=>?_
  replace bf:=bf.ae au;replace aW:=aW.ae au;replace bw:=bw.ae au;replace bt:=bt.ae au;replace cr:=cr.ae au;have I:=au;have dc:=aU.aI
  go_wp2_with fail
  refine (zl m aq ar an ao aA c0 av c2 c3 c4 h0 h1 h2 h3 h4 _ bo.out _ (bf.ae az) (aW.ae az) (bw.ae az) (bt.ae az) (cr.ae az) dZ eI cp ef hY).mono ?_
  rintro e aJ ⟨rfl,aL⟩
  have al:=be aG aL;replace I:=aj I al;replace cr:=cr.ae al;replace aU:=aU.to al;clear dc;have dc:=aU.aI;have hL:=bd.made (f:=bV) (sz:=1) aJ (B:=aJ.heap.size) (Nat.le_refl _) 3;have qh:=I.size;have vf:=aU.lt
  go_wp2
  clear dc
  go_loopw [4,14] (fun y i wr=>∃k:Nat,k≤m.cl.length∧i= .int .i64 k∧bd aJ 3 1 bV wr y (jN m.cl k)∧Below aJ aJ wr) (fun _ i _=>m.cl.length - (intOf i).toNat)
  case atStart=>exact⟨0,Nat.zero_le _,rfl,hL,bT _ _⟩
  case round=>
   obtain⟨k,aD,rfl,bM,aF⟩:=hrel
   by_cases bu:k < m.cl.length
   ·obtain⟨dY,gP,x,rfl,ew,aw,bz⟩:=cr.at_ aF bu
    obtain⟨hb,dO,jh⟩:=x
    have ch:=bz 0 _ rfl;have dq:=bz 1 _ rfl;have cZ:=bz 2 _ rfl
    simp only [Nat.add_zero] at ch
    have g0:=ch (ay.self _);have g1:=dq (ay.self _);have g2:=cZ (ay.self _)
    simp only [ay.self] at g0
    simp only [ay.self] at g1
    simp only [ay.self] at g2
    have cc:=J aw;clear aw bz ch dq cZ
    go_upto_region 7 with fail
    have qi:=bM.alloc (.cells #[hb,dO,jh] 163);have bG:=aB.new wr 163 #[hb,dO,jh];have iO:=aF.alloc aF.size (.cells #[hb,dO,jh] 163)
    generalize wr.alloc (.cells #[hb,dO,jh] 163)= hJ at *
    clear g0 g1 g2 bM;have dd:=(bG.cell 0).trans (show _= some (.int .i64 hb) from rfl);have dN:=(bG.cell 2).trans (show _= some (.bool jh) from rfl)
    cases jh
    ·have cS:=Qx cc.out rfl
     exact OR
    ·have cS:=Qy cc.out rfl
     have jD:=J cS;clear cS
     go_wp2_with ((at_builtin;refine kC rfl _ _ 38 rfl aJ.heap.size 3 i0 _ 1 8 Tryz.underlying38 hi dn dC dz rfl (by decide) bV fW nS _ (jN m.cl k) rfl (qi.alloc _) ⟨hJ.heap.size,0,none⟩ 1 hb rfl (aS.one _ _) (by have:=yw m.cl k;unfold maxLen;omega) (by have:=yw m.cl k;omega) (by have:=iO.size;simp;omega) ?_;intro v4 bU fb gq ld))
     have xv:Below aJ aJ bU:=(iO.alloc iO.size _).grown gq (by have:=iO.size;simp;omega) (fun q bj=>(qi.lt q bj).1)
     exact Zi
   ·obtain rfl:k= m.cl.length:=by omega
    obtain⟨Y,gV,rfl,_,_,_⟩:=bM.form fW
    go_wp2
    go_ret2
    exact⟨Y,gV,rfl,bM.base qh,aj I aF⟩
theorem alT (m:cw) (aq ar an ao aA:Option Addr) (c0 av c2 c3 c4:Nat) (h0:m.cx.length≤1048576) (h1:m.cP.length≤1048576) (h2:m.ds.length≤1048576) (h3:m.du.length≤1048576) (h4:m.cl.length≤1048576) (w:World) (bf:aS 7 aK.cells w aq m.cx) (aW:aS 3 aQ.cells w ar m.cP) (bw:aS 1 bV w an m.ds) (bt:aS 3 aO.cells w ao m.du) (cr:aS 3 Out.cells w aA m.cl) (dZ:m.cx.length≤c0) (eI:m.cP.length≤av) (cp:m.ds.length≤c2) (ef:m.du.length≤c3) (hY:m.cl.length≤c4):
 Calls Tryz.prog 192 #[.agg #[.slice aq m.cx c0,.slice ar m.cP av,m.ek,m.dS,m.fk,.slice an m.ds c2,.slice ao m.du c3,.slice aA m.cl c4]] w fun e ah=>∃A c,e= .returned (.tuple #[.slice A (nM m).length c,.bool (oD m)])∧bd w 3 1 bV ah (.slice A (nM m).length c) (nM m)∧Below w w ah:=by
 obtain⟨i0,hi,dn,dC,dz⟩:=info_parts rr
 cases aF:oD m
 ·have bo:=J aF
  have aX:nM m= []:=by simp [nM,aF]
  rw [aX]
  clear aF aX
  go_in
  go_upto_region 1 with fail
  refine cF fun aG au aU=>?_
  replace bf:=bf.ae au;replace aW:=aW.ae au;replace bw:=bw.ae au;replace bt:=bt.ae au;replace cr:=cr.ae au;have I:=au
  obtain⟨eu,dF,dJ,fa,fZ,iN,jc,gu⟩:=aU.aI
  go_upto_region 2 with fail
  have bM:=bd.made (f:=bV) (sz:=1) aG (B:=aG.heap.size) (Nat.le_refl _) 3;have AW:=I.size;have eG:Below aG aG (aG.alloc (.cells #[] 3)):=bT _ _
  generalize DD:aG.alloc (.cells #[] 3)= jW at *
  have fJ:=J bM;clear bM;have al:=be aG eG;replace I:=aj I al;replace bf:=bf.ae al;replace aW:=aW.ae al;replace bw:=bw.ae al;replace bt:=bt.ae al;replace cr:=cr.ae al;replace aU:=aU.to al;clear eu dF dJ fa fZ iN jc gu
  obtain⟨eu,dF,dJ,fa,fZ,iN,jc,gu⟩:=aU.aI
  go_wp2_with fail
  refine (zs m aq ar an ao aA c0 av c2 c3 c4 h0 h1 h2 h3 h4 _ bo.out _ (bf.ae az) (aW.ae az) (bw.ae az) (bt.ae az) (cr.ae az) dZ eI cp ef hY).mono ?_
  rintro e bB ⟨rfl,bx⟩
  have aP:=be jW bx;replace I:=aj I aP;replace aU:=aU.to aP;clear eu dF dJ fa fZ iN jc gu;have bM:=fJ.out.bm aP
  go_wp2
  go_ret2
  exact⟨_,0,rfl,bM.base AW,(aj I az)⟩
 ·have bo:=J aF
  have aX:nM m= jN m.cl m.cl.length:=by simp [nM,aF]
  rw [aX]
  clear aF aX
  go_in
  go_upto_region 1 with fail
  refine cF fun aG au aU=>?_
  replace bf:=bf.ae au;replace aW:=aW.ae au;replace bw:=bw.ae au;replace bt:=bt.ae au;replace cr:=cr.ae au;have I:=au
  obtain⟨eu,dF,dJ,fa,fZ,iN,jc,gu⟩:=aU.aI
  go_upto_region 2 with fail
  have bM:=bd.made (f:=bV) (sz:=1) aG (B:=aG.heap.size) (Nat.le_refl _) 3;have dP:=J aU;have Kd:=J cr;have wM:=J I;have AW:=I.size;have eG:Below aG aG (aG.alloc (.cells #[] 3)):=bT _ _
  generalize DD:aG.alloc (.cells #[] 3)= jW at *
  have fJ:=J bM;clear bM;have al:=be aG eG;replace bf:=bf.ae al;replace aW:=aW.ae al;replace bw:=bw.ae al;replace bt:=bt.ae al;replace cr:=cr.ae al;replace aU:=aU.to al;clear eu dF dJ fa fZ iN jc gu
  obtain⟨eu,dF,dJ,fa,fZ,iN,jc,gu⟩:=aU.aI
  go_wp2_with fail
  refine (zs m aq ar an ao aA c0 av c2 c3 c4 h0 h1 h2 h3 h4 _ bo.out _ (bf.ae az) (aW.ae az) (bw.ae az) (bt.ae az) (cr.ae az) dZ eI cp ef hY).mono ?_
  rintro e bB ⟨rfl,bx⟩
  have aP:=be jW bx;replace aU:=aU.to aP;clear eu dF dJ fa fZ iN jc gu
  obtain⟨eu,dF,dJ,fa,fZ,iN,jc,gu⟩:=aU.aI
  have bM:=fJ.out.bm aP;have aeX:=aj eG aP
  go_wp2
  clear eu dF dJ fa fZ iN jc gu aU bf aW bw bt cr I
  go_loopw [4,5] (fun y i wr=>∃k:Nat,k≤m.cl.length∧i= .int .i64 k∧bd aG 3 1 bV wr y (jN m.cl k)∧Below aG aG wr) (fun _ i _=>m.cl.length - (intOf i).toNat)
  case atStart=>exact⟨0,Nat.zero_le _,rfl,bM,aeX⟩
  case round=>
   clear bM
   obtain⟨k,aD,rfl,bM,aF⟩:=hrel
   have aU:=dP.out.ae aF dP.out.lt
   by_cases bu:k < m.cl.length
   ·obtain⟨dY,gP,x,sZ,ew,aw,bz⟩:=Kd.out.at_ aF bu
    obtain⟨hb,dO,jh⟩:=x
    have gu:=(aU.cell 7).trans (show _= some (.slice aA m.cl c4) from rfl)
    subst sZ
    have ch:=bz 0 _ rfl;have dq:=bz 1 _ rfl;have cZ:=bz 2 _ rfl
    simp only [Nat.add_zero] at ch
    have g0:=ch (ay.self _);have g1:=dq (ay.self _);have g2:=cZ (ay.self _)
    simp only [ay.self] at g0
    simp only [ay.self] at g1
    simp only [ay.self] at g2
    have cc:=J aw;clear aw bz ch dq cZ
    cases jh
    ·have cS:=Qx cc.out rfl
     have jD:=J cS;clear cS
     go_wp2
     go_roundw
     case rel=>exact⟨k + 1,by omega,by go_num,by rw [jD.out];exact bM,aF⟩
     case measure=>simp [intOf];omega
    ·have cS:=Qy cc.out rfl
     have jD:=J cS;clear cS;have qi:=bM;have iO:=aF
     go_wp2_with ((at_builtin;refine kC rfl _ _ 38 rfl aG.heap.size 3 i0 _ 1 8 Tryz.underlying38 hi dn dC dz rfl (by decide) bV fW nS _ (jN m.cl k) rfl (qi.alloc _) ⟨wr.heap.size,0,none⟩ 1 hb rfl (aS.one _ _) (by have:=yw m.cl k;unfold maxLen;omega) (by have:=yw m.cl k;omega) (by have:=iO.size;simp;omega) ?_;intro v4 bU fb gq ld))
     have xv:Below aG aG bU:=(iO.alloc iO.size _).grown gq (by have:=iO.size;simp;omega) (fun q bj=>(qi.lt q bj).1)
     exact Zi
   ·obtain rfl:k= m.cl.length:=by omega
    obtain⟨Y,gV,rfl,_,_,_⟩:=bM.form fW
    have gu:=(aU.cell 7).trans (show _= some (.slice aA m.cl c4) from rfl)
    go_wp2
    go_ret2
    exact⟨Y,gV,rfl,bM.base AW,aj wM.out aF⟩
end Go.Proofs.YtlaaemmmbodaaaaGreatDoor
