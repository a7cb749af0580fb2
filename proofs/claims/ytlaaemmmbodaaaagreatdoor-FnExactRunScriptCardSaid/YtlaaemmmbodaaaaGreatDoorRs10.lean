/- Parts. -/
import Derived.Test.YtlaaemmmbodaaaaGreatDoorRs9
import Derived.Deep.CutRange
import Derived.Deep.DeepCutAuto
set_option maxHeartbeats 16000000
set_option maxRecDepth 100000
set_option linter.unnecessarySimpa false
set_option linter.unusedSimpArgs false
set_option linter.unusedVariables false
namespace Go.Proofs.YtlaaemmmbodaaaaGreatDoor
open Go.RowKit Go.G9
theorem KI {ag af sp:Int} {ws:List Int} {ad:List aK} (h:gl ag af sp ws ad= true) {m:Int} (hm:eH m= true):0≤(eB ad m).cU∧(eB ad m).cU≤af∧af≤3600:=by
 have H:=Jh.1 h;have h1:=H.t;have h2:=H.s;have h3:=vo.1 (ZK H.ok (by omega) (by omega) hm)
 omega
theorem acD {p:Prop} (h:p:=by
 rintro e w0 ⟨rfl,h0⟩
 rw [h0]
 clear h0 w0
 go_wp2
 go_ret2
 exact⟨rfl,(ai I aw)⟩):p:=h
theorem abo {p:Prop} (h:p:=by
 refine wpQuiet_nil ?_
 intro K
 clear aF;have aL:Below aQ aQ K.world:=ai aw K.U;replace I:=ai I aL
 go_wp2
 go_ret2
 exact⟨rfl,(ai I aw)⟩):p:=h
theorem akV (ag af sp:Int) (ak:Option Addr) (c2:Nat) (ws:List Int) (al:Option Addr) (c3:Nat) (ad:List aK) (h2:ws.length≤1048576) (h3:ad.length≤1048576) (cm:ws.length≤c2) (az:gl ag af sp ws ad= true) (m:Int) (w:World) (bm:aJ 1 bU w ak ws) (bl:aJ 3 aK.cells w al ad):
 Calls Tryz.prog 175 #[.agg #[ag,af,sp,.slice ak ws c2,.slice al ad c3],m] w fun e ah=>e= .returned (.tuple #[.int .i64 (if eH m then af - (eB ad m).cU else 0),.bool (eH m)])∧Below w w ah:=by
 have bD:=J az
 cases hm:eH m
 ·have dQ:=J hm
  rw [if_neg (by simp)]
  clear hm az
  go_in
  go_wp2_with fail
  refine (mH ag af sp ak ws c2 al c3 ad h2 h3 cm _ bD.out _ (bm.U aw) (bl.U aw)).mono ?_
  rintro e bg ⟨rfl,bE⟩
  have av:=be w bE;have I:Below w w bg:=av
  go_wp2_with fail
  refine (iN m _ dQ.out _).mono ?_
  exact acD
 ·have dQ:=J hm
  rw [if_pos rfl]
  obtain⟨s1,s2,pS⟩:=KI az hm
  obtain⟨s,aZ⟩ :∃s,eB ad m= s:=⟨_,rfl⟩
  have dW:=J aZ
  rw [aZ] at s1 s2 ⊢
  clear hm az aZ
  obtain⟨sm,st,cx⟩:=s
  simp only at s1 s2 ⊢
  have sx:∀W:World,(Instr.field 214 (.agg #[sm,st,cx]) 2).run Tryz.prog W= .ok (.int .i64 cx) W:=fun _=>by kernel_rfl
  go_in
  go_upto_region 1 with fail
  refine cR fun aH av aj=>?_
  replace bm:=bm.U av;replace bl:=bl.U av;have I:=av;have aF:=aj.aS
  go_wp2_with fail
  refine (mH ag af sp ak ws c2 al c3 ad h2 h3 cm _ bD.out _ (bm.U aw) (bl.U aw)).mono ?_
  rintro e aQ ⟨rfl,aP⟩
  have ao:=be aH aP;replace I:=ai I ao;replace bl:=bl.U ao;replace aj:=aj.to ao;clear aF;have aF:=aj.aS
  go_wp2_with fail
  refine (iN m _ dQ.out _).mono ?_
  rintro e w0 ⟨rfl,h0⟩
  rw [h0]
  clear h0 w0
  go_upto_region 3 with fail
  have cS:=J bl;clear bm bl;have lW:=J (fun k:aB aQ.heap.size aQ=>yi ag af sp ak ws.length c2 al c3 ad h3 m ⟨sm,st,cx⟩ dW.out k.world (cS.out.U k.U));clear aF;have aF:=aC.kz (fun K:aB aQ.heap.size aQ=>(aj.U K.U aj.lt))
  refine eC (by kernel_rfl) (by kernel_rfl) ?_
  repeat (go_big_quiet_step ((first | (go_at_call 201;exact aB.call _ (by first | exact Nat.le_refl _ | omega) (lW.out _)))))
  exact abo
theorem apR (ag af sp:Int) (ak:Option Addr) (c2:Nat) (ws:List Int) (al:Option Addr) (c3:Nat) (ad:List aK) (h2:ws.length≤1048576) (h3:ad.length≤1048576) (cm:ws.length≤c2) (az:gl ag af sp ws ad= true) (m:Int) (w:World) (bm:aJ 1 bU w ak ws) (bl:aJ 3 aK.cells w al ad):
 Calls Tryz.prog 195 #[.agg #[ag,af,sp,.slice ak ws c2,.slice al ad c3],m] w fun e ah=>e= .returned (.tuple #[.int .i64 (if eH m then af - (eB ad m).cU else 0),.bool (eH m)])∧Below w w ah:=by
 have bD:=J az
 cases hm:eH m
 ·have dQ:=J hm
  rw [if_neg (by simp)]
  clear hm az
  go_in
  go_wp2_with fail
  refine (mI ag af sp ak ws c2 al c3 ad h2 h3 cm _ bD.out _ (bm.U aw) (bl.U aw)).mono ?_
  rintro e bg ⟨rfl,bE⟩
  have av:=be w bE;have I:Below w w bg:=av
  go_wp2_with fail
  refine (iA m _ dQ.out _).mono ?_
  exact acD
 ·have dQ:=J hm
  rw [if_pos rfl]
  obtain⟨s1,s2,pS⟩:=KI az hm
  obtain⟨s,aZ⟩ :∃s,eB ad m= s:=⟨_,rfl⟩
  have dW:=J aZ
  rw [aZ] at s1 s2 ⊢
  clear hm az aZ
  obtain⟨sm,st,cx⟩:=s
  simp only at s1 s2 ⊢
  have sx:∀W:World,(Instr.field 214 (.agg #[sm,st,cx]) 2).run Tryz.prog W= .ok (.int .i64 cx) W:=fun _=>by kernel_rfl
  go_in
  go_upto_region 1 with fail
  refine cR fun aH av aj=>?_
  replace bm:=bm.U av;replace bl:=bl.U av;have I:=av;have aF:=aj.aS
  go_wp2_with fail
  refine (mI ag af sp ak ws c2 al c3 ad h2 h3 cm _ bD.out _ (bm.U aw) (bl.U aw)).mono ?_
  rintro e aQ ⟨rfl,aP⟩
  have ao:=be aH aP;replace I:=ai I ao;replace bl:=bl.U ao;replace aj:=aj.to ao;clear aF;have aF:=aj.aS
  go_wp2_with fail
  refine (iA m _ dQ.out _).mono ?_
  rintro e w0 ⟨rfl,h0⟩
  rw [h0]
  clear h0 w0
  go_upto_region 3 with fail
  have cS:=J bl;clear bm bl;have lW:=J (fun k:aB aQ.heap.size aQ=>vh ag af sp ak ws.length c2 al c3 ad h3 m ⟨sm,st,cx⟩ dW.out k.world (cS.out.U k.U));clear aF;have aF:=aC.kz (fun K:aB aQ.heap.size aQ=>(aj.U K.U aj.lt))
  refine eC (by kernel_rfl) (by kernel_rfl) ?_
  repeat (go_big_quiet_step ((first | (go_at_call 267;exact aB.call _ (by first | exact Nat.le_refl _ | omega) (lW.out _)))))
  exact abo
def yf:Option aM→Value
 | some r=> .agg #[.int .i64 r.id,.string r.name,.int .i64 r.gH,.bool r.second,.bool r.lN,.bool r.mr,.int .i64 r.hv]
 | none=> .agg #[.int .i64 0,.string ⟨#[]⟩,.int .i64 0,.bool false,.bool false,.bool false,.int .i64 0]
theorem Tc (nm:ByteArray) (g:Nat) (x:aM) (W:World) (ck:W.cell? ⟨g,0,none⟩ =some (.string nm)) (aT:g < W.heap.size):
 Calls Tryz.prog 248 (#[.agg #[x.id,x.name,x.gH,x.second,x.lN,x.mr,x.hv]] ++ #[.pointer (some ⟨g,0,none⟩)]) W fun e ah=>e= .returned (.bool (x.name.toList == nm.toList))∧Below W W ah:=by
 cases aE:x.name.toList == nm.toList
 all_goals
  go_in
  go_wp2
  go_ret
  exact⟨rfl,ca _ _⟩
theorem WI (A:Option Addr) (c:Nat) (rs:List aM) (bd:rs.length≤1048576) (aG:rs.length≤c) (az:kq rs= true) (nm:ByteArray) (o:Option aM) (dd:uu rs nm= o) (w:World) (bN:aJ 7 aM.cells w A rs):
 Calls Tryz.prog 169 #[.slice A rs c,nm] w fun e ah=>e= .returned (.tuple #[yf o,o.isSome])∧Below w w ah:=by
 have bD:=J az
 cases o with
 | none=>
  have hP:=J (CP dd);clear dd az
  simp only [yf,Option.isSome_none]
  go_in
  go_upto_region 1 with fail
  refine fp fun aH av eO ae=>?_
  replace bN:=bN.U av;have I:=av;obtain⟨z0,ch,z2,z3,z4,z5,fl⟩:=ae.qC
  have dc:Hid (∀x,x ∈ rs→∀V,Below aH aH V→Calls Tryz.prog 248 (#[.agg #[.int .i64 x.id,.string x.name,.int .i64 x.gH,.bool x.second,.bool x.lN,.bool x.mr,.int .i64 x.hv]] ++ #[.pointer (some ⟨w.heap.size,0,none⟩)]) V fun e ah=>e= .returned (.bool (x.name.toList == nm.toList))∧Below V V ah):=J fun x _ V ic=>Tc nm w.heap.size x V ((eO.to ic).cell 0) (eO.to ic).lt
  go_wp2_with fail
  refine (JP A c rs bd 248 #[.pointer (some ⟨w.heap.size,0,none⟩)] (Bp Tryz.func248 (by kernel_rfl) (by kernel_rfl)) (Hm nm) _ hP.out _ (bN.U aw) dc.out).mono ?_
  rintro e aQ ⟨rfl,aP⟩
  have ao:=be aH aP;replace I:=ai I ao;replace bN:=bN.U ao;replace ae:=ae.to ao;clear z0 ch z2 z3 z4 z5 fl;obtain⟨z0,ch,z2,z3,z4,z5,fl⟩:=ae.qC
  go_wp2_with fail
  refine (GZ A c rs bd aG _ bD.out _ (bN.U aw)).mono ?_
  rintro e bA ⟨rfl,bC⟩
  have aL:=be aQ bC;replace I:=ai I aL;replace ae:=ae.to aL;clear z0 ch z2 z3 z4 z5 fl;obtain⟨z0,ch,z2,z3,z4,z5,fl⟩:=ae.qC;have ez:=ae.FB
  go_wp2
  clear z0 ch z2 z3 z4 z5 fl
  refine HI 0 fun cQ aD=>?_
  replace I:=aD.aG I;replace ae:=aD.EZ ae;obtain⟨z0,ch,z2,z3,z4,z5,fl⟩:=ae.qC
  refine bodyPost_ret (v:= .tuple #[.agg #[(0:Int),.string ⟨#[]⟩,(0:Int),false,false,false,(0:Int)],false]) (by simp [results,Tryz.results169,go_sem,z0,ch,z2,z3,z4,z5,fl]) rfl ?_
  exact⟨rfl,I⟩
 | some r=>
  obtain⟨k,hi,ax⟩:=rG dd
  have bn:k < rs.length:=(List.getElem?_eq_some_iff.1 ax).1;have hP:=J hi;have fT:=J ax;clear dd az hi ax
  simp only [yf,Option.isSome_some]
  go_in
  go_upto_region 1 with fail
  refine fp fun aH av eO ae=>?_
  replace bN:=bN.U av;have I:=av;obtain⟨z0,ch,z2,z3,z4,z5,fl⟩:=ae.qC
  have dc:Hid (∀x,x ∈ rs→∀V,Below aH aH V→Calls Tryz.prog 248 (#[.agg #[.int .i64 x.id,.string x.name,.int .i64 x.gH,.bool x.second,.bool x.lN,.bool x.mr,.int .i64 x.hv]] ++ #[.pointer (some ⟨w.heap.size,0,none⟩)]) V fun e ah=>e= .returned (.bool (x.name.toList == nm.toList))∧Below V V ah):=J fun x _ V ic=>Tc nm w.heap.size x V ((eO.to ic).cell 0) (eO.to ic).lt
  go_wp2_with fail
  refine (JP A c rs bd 248 #[.pointer (some ⟨w.heap.size,0,none⟩)] (Bp Tryz.func248 (by kernel_rfl) (by kernel_rfl)) (Hm nm) _ hP.out _ (bN.U aw) dc.out).mono ?_
  rintro e aQ ⟨rfl,aP⟩
  have ao:=be aH aP;replace I:=ai I ao;replace bN:=bN.U ao;replace ae:=ae.to ao;clear z0 ch z2 z3 z4 z5 fl;obtain⟨z0,ch,z2,z3,z4,z5,fl⟩:=ae.qC
  go_wp2_with fail
  refine (GZ A c rs bd aG _ bD.out _ (bN.U aw)).mono ?_
  rintro e bA ⟨rfl,bC⟩
  have aL:=be aQ bC;replace I:=ai I aL;replace bN:=bN.U aL;replace ae:=ae.to aL;clear z0 ch z2 z3 z4 z5 fl;obtain⟨z0,ch,z2,z3,z4,z5,fl⟩:=ae.qC
  obtain⟨b,off,fS,rfl,dU,ay,bq⟩:=bN.at_ (Below.refl _ _) bn
  obtain rfl:r= fS:=Option.some.inj (fT.out.symm.trans ay)
  have f0:=bq 0 _ rfl;have f1:=bq 1 _ rfl;have f2:=bq 2 _ rfl;have f3:=bq 3 _ rfl;have f4:=bq 4 _ rfl;have f5:=bq 5 _ rfl;have f6:=bq 6 _ rfl
  simp only [Nat.add_zero] at f0
  have g0:=f0 (aB.self _);have g1:=f1 (aB.self _);have g2:=f2 (aB.self _);have g3:=f3 (aB.self _);have g4:=f4 (aB.self _);have g5:=f5 (aB.self _);have g6:=f6 (aB.self _)
  simp only [aB.self] at g0
  simp only [aB.self] at g1
  simp only [aB.self] at g2
  simp only [aB.self] at g3
  simp only [aB.self] at g4
  simp only [aB.self] at g5
  simp only [aB.self] at g6
  clear ay bq
  have Jy:¬(k:Int) < 0:=by omega
  have ez:=ae.FB
  go_wp2
  clear z0 ch z2 z3 z4 z5 fl
  refine HI 0 fun cQ aD=>?_
  replace I:=aD.aG I;replace ae:=aD.EZ ae
  have z0:=ae.qC
  refine bodyPost_ret (v:= .tuple #[.agg #[r.id,r.name,r.gH,r.second,r.lN,r.mr,r.hv],true]) (by simp [results,Tryz.results169,go_sem,z0]) rfl ?_
  exact⟨rfl,I⟩
theorem apy (A:Option Addr) (c:Nat) (rs:List aM) (bd:rs.length≤1048576) (az:kq rs= true) (nm:ByteArray) (o:Option aM) (dd:uu rs nm= o) (w:World) (bN:aJ 7 aM.cells w A rs):
 Calls Tryz.prog 193 #[.slice A rs c,nm] w fun e ah=>e= .returned (.tuple #[yf o,o.isSome])∧Below w w ah:=by
 have bD:=J az;have dp:=J dd;clear az dd
 go_in
 go_upto_region 1 with fail
 refine cR fun aH av ae=>?_
 replace bN:=bN.U av;have I:=av;obtain⟨z0,ch,z2,z3,z4,z5,fl⟩:=ae.qC
 go_wp2_with fail
 refine (JT A c rs bd _ bD.out _ (bN.U aw)).mono ?_
 rintro e aQ ⟨rfl,aP⟩
 have ao:=be aH aP;replace I:=ai I ao;replace bN:=bN.U ao;replace ae:=ae.to ao;clear z0 ch z2 z3 z4 z5 fl;obtain⟨z0,ch,z2,z3,z4,z5,fl⟩:=ae.qC
 go_wp2
 go_loop [6] (fun i=>∃k:Nat,k≤rs.length∧i= .int .i64 k∧hI (fun i=>!jg (Hm nm) rs i) k= true) (fun i=>rs.length - (intOf i).toNat)
 case atStart=>exact⟨0,Nat.zero_le _,rfl,rfl⟩
 case round=>
  obtain⟨k,ax,rfl,aT⟩:=hrel
  have cJ:=J aT;clear aT
  by_cases bn:k < rs.length
  ·obtain⟨b,off,r,rfl,dU,ay,bq⟩:=bN.at_ (Below.refl _ _) bn
   have f0:=bq 0 _ rfl;have f1:=bq 1 _ rfl;have f2:=bq 2 _ rfl;have f3:=bq 3 _ rfl;have f4:=bq 4 _ rfl;have f5:=bq 5 _ rfl;have f6:=bq 6 _ rfl
   simp only [Nat.add_zero] at f0
   have g0:=f0 (aB.self _);have g1:=f1 (aB.self _);have g2:=f2 (aB.self _);have g3:=f3 (aB.self _);have g4:=f4 (aB.self _);have g5:=f5 (aB.self _);have g6:=f6 (aB.self _)
   simp only [aB.self] at g0
   simp only [aB.self] at g1
   simp only [aB.self] at g2
   simp only [aB.self] at g3
   simp only [aB.self] at g4
   simp only [aB.self] at g5
   simp only [aB.self] at g6
   have cg:=J ay;clear ay bq f0 f1 f2 f3 f4 f5 f6
   cases he:(r.name.toList == nm.toList)
   ·have da:=J he
    go_wp2
    go_round
    case rel=>exact⟨k + 1,by omega,by go_num,np cJ.out (by simp only [jg,cg.out,Hm,da.out];rfl)⟩
    case measure=>simp [intOf];omega
   ·obtain rfl:o= some r:=dp.out.symm.trans (Na cJ.out cg.out he)
    have ez:=ae.FB
    go_wp2
    clear z0 ch z2 z3 z4 z5 fl
    refine HI 0 fun cQ aD=>?_
    replace I:=aD.aG I;replace ae:=aD.EZ ae
    have z0:=ae.qC
    refine bodyPost_ret (v:= .tuple #[.agg #[r.id,r.name,r.gH,r.second,r.lN,r.mr,r.hv],true]) (by simp [results,Tryz.results193,go_sem,z0]) rfl ?_
    exact⟨rfl,I⟩
  ·obtain rfl:k= rs.length:=by omega
   obtain rfl:o= none:=dp.out.symm.trans (Uh cJ.out)
   have ez:=ae.FB
   go_wp2
   clear z0 ch z2 z3 z4 z5 fl
   refine HI 0 fun cQ aD=>?_
   replace I:=aD.aG I;replace ae:=aD.EZ ae;obtain⟨z0,ch,z2,z3,z4,z5,fl⟩:=ae.qC
   refine bodyPost_ret (v:= .tuple #[.agg #[(0:Int),.string ⟨#[]⟩,(0:Int),false,false,false,(0:Int)],false]) (by simp [results,Tryz.results193,go_sem,z0,ch,z2,z3,z4,z5,fl]) rfl ?_
   exact⟨rfl,I⟩
open Go.RowKit Go.G9
theorem anR (s:ByteArray) (w:World):Calls Tryz.prog 99 #[s] w fun e ah=>e= .returned (.tuple #[.string ((mf (eG s)).getD ⟨#[]⟩),.bool (mf (eG s)).isSome])∧ah= w:=by
 have cD:=Cb s
 rcases Kf (Fk s) with h | h | h | h | h | h | h | h | h | h | h | h | h | h | h | h
 all_goals
  rw [h] at cD ⊢
  obtain⟨f0,f1,f2,f3,f4,f5,f6,f7,f8,f9,f10,f11,f12,f13,f14⟩:=cD
  simp only [Nat.reduceBEq] at f0 f1 f2 f3 f4 f5 f6 f7 f8 f9 f10 f11 f12 f13 f14
  clear h
  go_in
  go_wp2
  go_ret2
  exact⟨rfl,rfl⟩
def Mv:Option ou→Value
 | some a=> .agg #[.int .i64 a.kind,.int .i64 a.mem,.int .i64 a.val,.int .i64 a.yes,.int .i64 a.no,.int .i64 a.bB]
 | none=> .agg #[.int .i64 0,.int .i64 0,.int .i64 0,.int .i64 0,.int .i64 0,.int .i64 0]
theorem Lm {p:Prop} (h:p:=by
 have bd:l.length= 0:=aT _ rfl;clear aT
 show Calls _ _ _ _ (fun e ah=>e= .returned (.tuple #[.agg #[(0:Int),(0:Int),(0:Int),(0:Int),(0:Int),(0:Int)],false])∧Below w w ah)
 go_in
 go_upto_region 1 with fail
 refine cR fun aH av ae=>?_
 have I:=av;have aq:=ae.df;have ez:=ae.tg
 go_wp2
 clear aq
 refine tD 0 fun cQ aD=>?_
 replace I:=aD.aG I;replace ae:=aD.ta ae;have aq:=ae.df
 refine bodyPost_ret (v:= .tuple #[.agg #[(0:Int),(0:Int),(0:Int),(0:Int),(0:Int),(0:Int)],false]) (by simp [results,Tryz.results101,go_sem,aq]) rfl ?_
 exact⟨rfl,I⟩):p:=h
theorem acK {p:Prop} (h:p:=by
 have bd:l.length= 1:=aT _ rfl;clear aT
 obtain⟨a,rfl⟩ :∃a,l= [a]:=by
   match l,bd with
   | [oq],_=>exact⟨oq,rfl⟩
 clear bd
 show Calls _ _ _ _ (fun e ah=>e= .returned (.tuple #[.agg #[(0:Int),(0:Int),(0:Int),(0:Int),(0:Int),(0:Int)],false])∧Below w w ah)
 obtain⟨kN,off,rfl,dU,aG⟩:=bN (by simp)
 have g0:=aG 0 _ rfl 0 _ rfl
 simp only [Nat.mul_one,Nat.zero_mul,Nat.add_zero] at g0
 clear aG
 go_in
 go_upto_region 1 with fail
 refine cR fun aH av ae=>?_
 have I:=av;have aq:=ae.df;have ez:=ae.tg
 go_wp2
 clear aq
 refine tD 0 fun cQ aD=>?_
 replace I:=aD.aG I;replace ae:=aD.ta ae;have aq:=ae.df
 refine bodyPost_ret (v:= .tuple #[.agg #[(0:Int),(0:Int),(0:Int),(0:Int),(0:Int),(0:Int)],false]) (by simp [results,Tryz.results101,go_sem,aq]) rfl ?_
 exact⟨rfl,I⟩):p:=h
theorem afx (s:ByteArray) (A:Option Addr) (c:Nat) (l:List Int) (aT:∀p,mf (eG s)= some p→l.length= p.size) (w:World) (bN:aJ 1 bU w A l):
 Calls Tryz.prog 101 #[s,.slice A l c] w fun e ah=>e= .returned (.tuple #[Mv (sg (eG s) l),.bool (sg (eG s) l).isSome])∧Below w w ah:=by
 have cD:=Cb s
 rcases Kf (Fk s) with h | h | h | h | h | h | h | h | h | h | h | h | h | h | h | h
 all_goals rw [h] at cD aT ⊢
 all_goals obtain⟨f0,f1,f2,f3,f4,f5,f6,f7,f8,f9,f10,f11,f12,f13,f14⟩:=cD
 all_goals simp only [Nat.reduceBEq] at f0 f1 f2 f3 f4 f5 f6 f7 f8 f9 f10 f11 f12 f13 f14
 all_goals clear h
 ·have bd:l.length= 0:=aT _ rfl
  clear aT
  show Calls _ _ _ _ (fun e ah=>e= .returned (.tuple #[.agg #[(4:Int),(0:Int),(0:Int),(0:Int),(0:Int),(0:Int)],true])∧Below w w ah)
  go_in
  go_upto_region 1 with fail
  refine cR fun aH av ae=>?_
  have I:=av;have aq:=ae.df;have ez:=ae.tg
  go_wp2
  clear aq
  refine tD 0 fun cQ aD=>?_
  replace I:=aD.aG I;replace ae:=aD.ta ae;have aq:=ae.df
  refine bodyPost_ret (v:= .tuple #[.agg #[(4:Int),(0:Int),(0:Int),(0:Int),(0:Int),(0:Int)],true]) (by simp [results,Tryz.results101,go_sem,aq]) rfl ?_
  exact⟨rfl,I⟩
 ·have bd:l.length= 0:=aT _ rfl
  clear aT
  show Calls _ _ _ _ (fun e ah=>e= .returned (.tuple #[.agg #[(6:Int),(0:Int),(0:Int),(0:Int),(0:Int),(0:Int)],true])∧Below w w ah)
  go_in
  go_upto_region 1 with fail
  refine cR fun aH av ae=>?_
  have I:=av;have aq:=ae.df;have ez:=ae.tg
  go_wp2
  clear aq
  refine tD 0 fun cQ aD=>?_
  replace I:=aD.aG I;replace ae:=aD.ta ae;have aq:=ae.df
  refine bodyPost_ret (v:= .tuple #[.agg #[(6:Int),(0:Int),(0:Int),(0:Int),(0:Int),(0:Int)],true]) (by simp [results,Tryz.results101,go_sem,aq]) rfl ?_
  exact⟨rfl,I⟩
 ·have bd:l.length= 0:=aT _ rfl
  clear aT
  show Calls _ _ _ _ (fun e ah=>e= .returned (.tuple #[.agg #[(9:Int),(0:Int),(0:Int),(0:Int),(0:Int),(0:Int)],true])∧Below w w ah)
  go_in
  go_upto_region 1 with fail
  refine cR fun aH av ae=>?_
  have I:=av;have aq:=ae.df;have ez:=ae.tg
  go_wp2
  clear aq
  refine tD 0 fun cQ aD=>?_
  replace I:=aD.aG I;replace ae:=aD.ta ae;have aq:=ae.df
  refine bodyPost_ret (v:= .tuple #[.agg #[(9:Int),(0:Int),(0:Int),(0:Int),(0:Int),(0:Int)],true]) (by simp [results,Tryz.results101,go_sem,aq]) rfl ?_
  exact⟨rfl,I⟩
 ·exact Lm
 ·exact Lm
 ·exact Lm
 ·exact Lm
 ·have bd:l.length= 1:=aT _ rfl
  clear aT
  obtain⟨a,rfl⟩ :∃a,l= [a]:=by
    match l,bd with
    | [oq],_=>exact⟨oq,rfl⟩
  clear bd
  show Calls _ _ _ _ (fun e ah=>e= .returned (.tuple #[.agg #[(2:Int),.int .i64 a,(0:Int),(0:Int),(0:Int),(0:Int)],true])∧Below w w ah)
  obtain⟨kN,off,rfl,dU,aG⟩:=bN (by simp)
  have g0:=aG 0 _ rfl 0 _ rfl
  simp only [Nat.mul_one,Nat.zero_mul,Nat.add_zero] at g0
  clear aG
  go_in
  go_upto_region 1 with fail
  refine cR fun aH av ae=>?_
  have I:=av;have aq:=ae.df;replace g0:=(I.cell (p:=⟨kN,_,none⟩) dU).trans g0;have ez:=ae.tg
  go_wp2
  clear aq
  refine tD 0 fun cQ aD=>?_
  replace I:=aD.aG I;replace ae:=aD.ta ae;have aq:=ae.df
  refine bodyPost_ret (v:= .tuple #[.agg #[(2:Int),.int .i64 a,(0:Int),(0:Int),(0:Int),(0:Int)],true]) (by simp [results,Tryz.results101,go_sem,aq]) rfl ?_
  exact⟨rfl,I⟩
 ·have bd:l.length= 1:=aT _ rfl
  clear aT
  obtain⟨a,rfl⟩ :∃a,l= [a]:=by
    match l,bd with
    | [oq],_=>exact⟨oq,rfl⟩
  clear bd
  show Calls _ _ _ _ (fun e ah=>e= .returned (.tuple #[.agg #[(3:Int),.int .i64 a,(0:Int),(0:Int),(0:Int),(0:Int)],true])∧Below w w ah)
  obtain⟨kN,off,rfl,dU,aG⟩:=bN (by simp)
  have g0:=aG 0 _ rfl 0 _ rfl
  simp only [Nat.mul_one,Nat.zero_mul,Nat.add_zero] at g0
  clear aG
  go_in
  go_upto_region 1 with fail
  refine cR fun aH av ae=>?_
  have I:=av;have aq:=ae.df;replace g0:=(I.cell (p:=⟨kN,_,none⟩) dU).trans g0;have ez:=ae.tg
  go_wp2
  clear aq
  refine tD 0 fun cQ aD=>?_
  replace I:=aD.aG I;replace ae:=aD.ta ae;have aq:=ae.df
  refine bodyPost_ret (v:= .tuple #[.agg #[(3:Int),.int .i64 a,(0:Int),(0:Int),(0:Int),(0:Int)],true]) (by simp [results,Tryz.results101,go_sem,aq]) rfl ?_
  exact⟨rfl,I⟩
 ·have bd:l.length= 1:=aT _ rfl
  clear aT
  obtain⟨a,rfl⟩ :∃a,l= [a]:=by
    match l,bd with
    | [oq],_=>exact⟨oq,rfl⟩
  clear bd
  show Calls _ _ _ _ (fun e ah=>e= .returned (.tuple #[.agg #[(5:Int),(0:Int),.int .i64 a,(0:Int),(0:Int),(0:Int)],true])∧Below w w ah)
  obtain⟨kN,off,rfl,dU,aG⟩:=bN (by simp)
  have g0:=aG 0 _ rfl 0 _ rfl
  simp only [Nat.mul_one,Nat.zero_mul,Nat.add_zero] at g0
  clear aG
  go_in
  go_upto_region 1 with fail
  refine cR fun aH av ae=>?_
  have I:=av;have aq:=ae.df;replace g0:=(I.cell (p:=⟨kN,_,none⟩) dU).trans g0;have ez:=ae.tg
  go_wp2
  clear aq
  refine tD 0 fun cQ aD=>?_
  replace I:=aD.aG I;replace ae:=aD.ta ae;have aq:=ae.df
  refine bodyPost_ret (v:= .tuple #[.agg #[(5:Int),(0:Int),.int .i64 a,(0:Int),(0:Int),(0:Int)],true]) (by simp [results,Tryz.results101,go_sem,aq]) rfl ?_
  exact⟨rfl,I⟩
 ·have bd:l.length= 1:=aT _ rfl
  clear aT
  obtain⟨a,rfl⟩ :∃a,l= [a]:=by
    match l,bd with
    | [oq],_=>exact⟨oq,rfl⟩
  clear bd
  show Calls _ _ _ _ (fun e ah=>e= .returned (.tuple #[.agg #[(8:Int),.int .i64 a,(0:Int),(0:Int),(0:Int),(0:Int)],true])∧Below w w ah)
  obtain⟨kN,off,rfl,dU,aG⟩:=bN (by simp)
  have g0:=aG 0 _ rfl 0 _ rfl
  simp only [Nat.mul_one,Nat.zero_mul,Nat.add_zero] at g0
  clear aG
  go_in
  go_upto_region 1 with fail
  refine cR fun aH av ae=>?_
  have I:=av;have aq:=ae.df;replace g0:=(I.cell (p:=⟨kN,_,none⟩) dU).trans g0;have ez:=ae.tg
  go_wp2
  clear aq
  refine tD 0 fun cQ aD=>?_
  replace I:=aD.aG I;replace ae:=aD.ta ae;have aq:=ae.df
  refine bodyPost_ret (v:= .tuple #[.agg #[(8:Int),.int .i64 a,(0:Int),(0:Int),(0:Int),(0:Int)],true]) (by simp [results,Tryz.results101,go_sem,aq]) rfl ?_
  exact⟨rfl,I⟩
 ·exact acK
 ·exact acK
 ·have bd:l.length= 2:=aT _ rfl
  clear aT
  obtain⟨a,b,rfl⟩ :∃a b,l= [a,b]:=by
    match l,bd with
    | [oq,wM],_=>exact⟨oq,wM,rfl⟩
  clear bd
  show Calls _ _ _ _ (fun e ah=>e= .returned (.tuple #[.agg #[(1:Int),.int .i64 b,.int .i64 a,(0:Int),(0:Int),(0:Int)],true])∧Below w w ah)
  obtain⟨kN,off,rfl,dU,aG⟩:=bN (by simp)
  have g0:=aG 0 _ rfl 0 _ rfl;have g1:=aG 1 _ rfl 0 _ rfl
  simp only [Nat.mul_one,Nat.zero_mul,Nat.add_zero] at g0 g1
  clear aG
  go_in
  go_upto_region 1 with fail
  refine cR fun aH av ae=>?_
  have I:=av;have aq:=ae.df;replace g0:=(I.cell (p:=⟨kN,_,none⟩) dU).trans g0;replace g1:=(I.cell (p:=⟨kN,_,none⟩) dU).trans g1;have uC:kN < aH.heap.size:=Nat.lt_of_lt_of_le dU I.size
  go_upto_region 3 with fail
  have u0:=fun K:aB aH.heap.size aH=>(K.cell (p:=⟨kN,_,none⟩) uC).trans g0
  have u1:=fun K:aB aH.heap.size aH=>(K.cell (p:=⟨kN,_,none⟩) uC).trans g1
  clear g0 g1;clear aq;have aq:=aC.MH (fun K:aB aH.heap.size aH=>(ae.U K.U ae.lt))
  refine HP 7 (by kernel_rfl) (by kernel_rfl) ?_
  change wpQuiet _ _ _ _ (_ ::_ ::_ ::_ ::_ ::_ ::_ ::[]) _
  repeat (go_big_quiet_step ((fail)))
  refine wpQuiet_nil ?_
  intro K
  change wpList _ _ _ (_ ::_ ::[]) _ _
  clear aq;have ao:Below aH aH K.world:=ai aw K.U;replace I:=ai I ao;replace ae:=ae.to ao;have aq:=ae.df;have ez:=ae.tg
  go_wp2
  clear aq
  refine tD 0 fun cQ aD=>?_
  replace I:=aD.aG I;replace ae:=aD.ta ae;have aq:=ae.df
  refine bodyPost_ret (v:= .tuple #[.agg #[(1:Int),.int .i64 b,.int .i64 a,(0:Int),(0:Int),(0:Int)],true]) (by simp [results,Tryz.results101,go_sem,aq]) rfl ?_
  exact⟨rfl,I⟩
 ·have bd:l.length= 3:=aT _ rfl
  clear aT
  obtain⟨a,b,d,rfl⟩ :∃a b d,l= [a,b,d]:=by
    match l,bd with
    | [oq,wM,zE],_=>exact⟨oq,wM,zE,rfl⟩
  clear bd
  show Calls _ _ _ _ (fun e ah=>e= .returned (.tuple #[.agg #[(7:Int),(0:Int),(0:Int),.int .i64 a,.int .i64 b,.int .i64 d],true])∧Below w w ah)
  obtain⟨kN,off,rfl,dU,aG⟩:=bN (by simp)
  have g0:=aG 0 _ rfl 0 _ rfl;have g1:=aG 1 _ rfl 0 _ rfl;have g2:=aG 2 _ rfl 0 _ rfl
  simp only [Nat.mul_one,Nat.zero_mul,Nat.add_zero] at g0 g1 g2
  clear aG
  go_in
  go_upto_region 1 with fail
  refine cR fun aH av ae=>?_
  have I:=av;have aq:=ae.df;replace g0:=(I.cell (p:=⟨kN,_,none⟩) dU).trans g0;replace g1:=(I.cell (p:=⟨kN,_,none⟩) dU).trans g1;replace g2:=(I.cell (p:=⟨kN,_,none⟩) dU).trans g2;have uC:kN < aH.heap.size:=Nat.lt_of_lt_of_le dU I.size
  go_upto_region 15 with fail
  have u0:=fun K:aB aH.heap.size aH=>(K.cell (p:=⟨kN,_,none⟩) uC).trans g0
  have u1:=fun K:aB aH.heap.size aH=>(K.cell (p:=⟨kN,_,none⟩) uC).trans g1
  have u2:=fun K:aB aH.heap.size aH=>(K.cell (p:=⟨kN,_,none⟩) uC).trans g2
  clear g0 g1 g2;clear aq;have aq:=aC.MH (fun K:aB aH.heap.size aH=>(ae.U K.U ae.lt))
  refine HP 11 (by kernel_rfl) (by kernel_rfl) ?_
  change wpQuiet _ _ _ _ (_ ::_ ::_ ::_ ::_ ::_ ::_ ::_ ::_ ::_ ::_ ::[]) _
  repeat (go_big_quiet_step ((fail)))
  refine wpQuiet_nil ?_
  intro K
  change wpList _ _ _ (_ ::_ ::[]) _ _
  clear aq;have ao:Below aH aH K.world:=ai aw K.U;replace I:=ai I ao;replace ae:=ae.to ao;have aq:=ae.df;have ez:=ae.tg
  go_wp2
  clear aq
  refine tD 0 fun cQ aD=>?_
  replace I:=aD.aG I;replace ae:=aD.ta ae;have aq:=ae.df
  refine bodyPost_ret (v:= .tuple #[.agg #[(7:Int),(0:Int),(0:Int),.int .i64 a,.int .i64 b,.int .i64 d],true]) (by simp [results,Tryz.results101,go_sem,aq]) rfl ?_
  exact⟨rfl,I⟩
 ·clear aT
  show Calls _ _ _ _ (fun e ah=>e= .returned (.tuple #[.agg #[(0:Int),(0:Int),(0:Int),(0:Int),(0:Int),(0:Int)],false])∧Below w w ah)
  clear bN
  go_in
  go_upto_region 1 with fail
  refine cR fun aH av ae=>?_
  have I:=av;have aq:=ae.df;have ez:=ae.tg
  go_wp2
  clear aq
  refine tD 0 fun cQ aD=>?_
  replace I:=aD.aG I;replace ae:=aD.ta ae;have aq:=ae.df
  refine bodyPost_ret (v:= .tuple #[.agg #[(0:Int),(0:Int),(0:Int),(0:Int),(0:Int),(0:Int)],false]) (by simp [results,Tryz.results101,go_sem,aq]) rfl ?_
  exact⟨rfl,I⟩
theorem anK (b:Bool) (s t:ByteArray) (w:World):Calls Tryz.prog 181 #[b,s,t] w fun e ah=>e= .returned (.string (if b then s else t))∧ah= w:=by
 cases b
 all_goals
  go_in
  go_wp2
  go_ret
  exact⟨rfl,rfl⟩
theorem afA (rs:List aM) (qs:List aN) (ag af sp:Int) (ws:List Int) (ad:List aK) (os:List Out) (cl:Option Addr) (d0:Nat) (cN:Option Addr) (d1:Nat) (bk:Option Addr) (d2:Nat) (bo:Option Addr) (d3:Nat) (cn:Option Addr) (d4:Nat) (a:ou) (aZ:-999999≤sp∧sp≤999999) (dd:a.kind= 7→0 < os.length) (bd:os.length≤1048576) (w:World) (bZ:aJ 3 Out.cells w cn os) (bP:lf w):
 Calls Tryz.prog 104 #[.agg #[.slice cl rs d0,.slice cN qs d1,ag,af,sp,.slice bk ws d2,.slice bo ad d3,.slice cn os d4],.agg #[a.kind,a.mem,a.val,a.yes,a.no,a.bB]] w fun e ah=>e= .returned (.string (pQ ⟨rs,qs,ag,af,sp,ws,ad,os⟩ a.kind))∧Below w w ah:=by
 obtain⟨wY,am,asF,asG,asB,aa⟩:=a
 simp only at dd ⊢
 by_cases h4:wY= 4
 ·have e:pQ ⟨rs,qs,ag,af,sp,ws,ad,os⟩ wY= eT sp:=by rw [pQ,if_pos h4]
  rw [e]
  have xm:(wY == 4)= true:=beq_iff_eq.2 h4;clear e h4 dd bZ
  go_in
  go_upto_region 1 with fail
  refine fp fun aH av aY aU=>?_
  replace bP:=bP.U av;have I:=av;have hN:=aY.aI;have bG:=aU.df
  go_wp2_with fail
  refine (AN sp (by omega) (by omega) _ (bP.U aw)).mono ?_
  rintro e aQ ⟨rfl,aP⟩
  have ao:=be aH aP;replace I:=ai I ao;clear hN;clear bG
  go_wp2
  go_ret
  exact⟨rfl,(ai I aw)⟩
 ·have xm:(wY == 4)= false:=beq_eq_false_iff_ne.2 h4
  by_cases h7:wY= 7
  ·have we:=dd h7
   obtain⟨j,bI⟩ :∃j,j + 1= os.length:=⟨os.length - 1,by omega⟩
   obtain⟨o,ay⟩ :∃o,os[j]? =some o:=⟨_,List.getElem?_eq_getElem (by omega)⟩
   have e:pQ ⟨rs,qs,ag,af,sp,ws,ad,os⟩ wY= if o.hz then (⟨#[97,100,111,112,116,101,100]⟩ :ByteArray) else (⟨#[108,111,115,116]⟩ :ByteArray):=by rw [pQ,if_neg h4,if_pos h7];simp only [Hd,← bI,Nat.add_sub_cancel,ay]
   rw [e]
   have ahS:(wY == 7)= true:=beq_iff_eq.2 h7
   obtain⟨kN,off,mL,rfl,dU,kV,bq⟩:=bZ.at_ (Below.refl _ _) (k:=j) (by omega)
   obtain rfl:o= mL:=Option.some.inj (ay.symm.trans kV)
   have g2:=bq 2 _ rfl (aB.self _)
   simp only [aB.self] at g2
   obtain⟨tx,kT⟩ :∃b,o.hz= b:=⟨_,rfl⟩
   rw [kT] at g2 ⊢
   have hx:=J g2;have vH:=J dU;clear e h4 h7 dd bZ bP bq ay kV g2 dU kT
   cases tx
   all_goals
    go_in
    go_upto_region 1 with fail
    refine fp fun aH av aY aU=>?_
    have I:=av;have hN:=aY.aI;have bG:=aU.df;have g2:=(I.cell (p:=⟨kN,_,none⟩) vH.out).trans hx.out
    have CC:((os.length:Int) - 1)= (j:Int):=by omega
    have ie:j < os.length:=by omega
    clear bI;have wN:=aY.lt;have DG:=aU.lt
    go_wp2_with fail
    refine (anK _ (⟨#[97,100,111,112,116,101,100]⟩ :ByteArray) (⟨#[108,111,115,116]⟩ :ByteArray) _).mono ?_
    rintro e bg ⟨rfl,rfl⟩
    go_wp2
    go_ret
    exact⟨rfl,(ai I aw)⟩
  ·have e:pQ ⟨rs,qs,ag,af,sp,ws,ad,os⟩ wY= (⟨#[111,107]⟩ :ByteArray):=by rw [pQ,if_neg h4,if_neg h7]
   rw [e]
   have ahS:(wY == 7)= false:=beq_eq_false_iff_ne.2 h7;clear e h4 h7 dd bZ bP
   go_in
   go_upto_region 1 with fail
   refine fp fun aH av aY aU=>?_
   have I:=av;have bG:=aU.df
   go_wp2
   go_ret
   exact⟨rfl,(ai I aw)⟩
theorem YO {s:ByteArray} (h:fh s= true):Go.G9.jF s= .tuple #[.int .i64 (hg s.data.toList),true]:=by rw [Go.G9.jF,if_pos h]
theorem YN {s:ByteArray} (h:fh s= false):Go.G9.jF s= .tuple #[(0:Int),false]:=by rw [Go.G9.jF,if_neg (by simp [h])]
theorem adO {p:Prop} (h:p:=by
 have hn:lp rs pt ws= none:=by
  rw [lp,if_pos oz.out]
  have e:=Hw qP (ws.length - (k + 1))
  rwa [show k + 1 + (ws.length - (k + 1))= ws.length by omega] at e
 have gp:=J hn;clear qP hn
 go_wp2
 go_ret2
 exact⟨[],false,none,0,rfl,J (by rw [gp.out];rfl),aX.nil,RU⟩):p:=h
theorem YQ (an:Option Addr) (c0:Nat) (rs:List aM) (h0:rs.length≤1048576) (dP:rs.length≤c0) (az:kq rs= true) (pt:ByteArray) (A:Option Addr) (c:Nat) (ws:List ByteArray) (bd:ws.length≤1000) (cb:∀x ∈ ws,x.size≤1000) (w:World) (aW:aJ 7 aM.cells w an rs) (EU:aJ 1 hj w A ws) (bP:ov w):
 Calls Tryz.prog 100 #[.slice an rs c0,pt,.slice A ws c] w fun e ah=>∃(l:List Int) (b:Bool) (D:Option Addr) (d:Nat),e= .returned (.tuple #[.slice D l d,b])∧Hid (lp rs pt ws= if b= true then some l else none)∧aX w 3 1 bU ah (.slice D l d) l∧Below w w ah:=by
 obtain⟨i0,hi,dk,dx,dC⟩:=info_parts rI
 by_cases hlen:ws.length= pt.size
 ·have eg:((ws.length:Int) != (pt.size:Int))= false:=by rw [hlen];simp
  have oz:=J hlen;have bD:=J az;have bj:=J cb;have jx:=J bP;have eu:=J aW;clear hlen az cb bP aW;have hL:=aX.made (f:=bU) (sz:=1) w (B:=w.heap.size) (Nat.le_refl _) 3
  go_in
  go_wp2
  go_loopw [8,23] (fun y i wr=>∃(k:Nat) (l:List Int),k≤ws.length∧i= .int .i64 k∧ny rs pt.data.toList ws k= some l∧aX w 3 1 bU wr y l∧Below w w wr) (fun _ i _=>ws.length - (intOf i).toNat)
  case atStart=>exact⟨0,[],Nat.zero_le _,rfl,rfl,hL,ca _ _⟩
  case round=>
   obtain⟨k,l,ax,rfl,bz,bR,aE⟩:=hrel
   have lb:Hid (l.length= k):=J (Qa bz);have bL:=J bz;have dp:=J bR;clear bz bR
   by_cases bn:k < ws.length
   ·obtain⟨ey,gN,x,rfl,dU,ay,bq⟩:=EU.at_ aE bn
    have WA:=bj.out x (List.mem_of_getElem? ay);have cy:=bq 0 _ rfl
    simp only [Nat.add_zero] at cy
    have g0:=cy (aB.self _)
    simp only [aB.self] at g0
    simp only [Nat.mul_one] at g0
    have ajn:k < pt.size:=by have:=oz.out;omega
    have ei:=J (SW pt ajn);have cg:=J ay;clear ay bq cy
    by_cases aR:pt[k]= 110
    ·have ajF:((pt[k].toNat:Int) == 110)= true:=by rw [aR];rfl
     have Em:=J aR;clear aR
     cases zd:fh x
     ·have hP:=J (WL x (by unfold maxLen;omega) wr (jx.out.t.U aE) (jx.out.e.U aE))
      rw [YN zd] at hP
      have LQ:=J zd;clear zd
      go_wp2_with fail
      refine hP.out.mono ?_
      rintro e bg ⟨rfl,bE⟩
      have RU:=ai aE bE
      have qP:ny rs pt.data.toList ws (k + 1)= none:=by rw [wv bL.out ei.out cg.out,rR];rw [if_pos Em.out,LQ.out];rfl
      exact adO
     ·have hP:=J (WL x (by unfold maxLen;omega) wr (jx.out.t.U aE) (jx.out.e.U aE))
      rw [YO zd] at hP
      have LQ:=J zd;clear zd
      go_wp2_with fail
      refine hP.out.mono ?_
      rintro e bg ⟨rfl,bE⟩
      have aP:=ai aE bE;have NQ:=bE;clear g0;have gW:=dp.out.bh NQ
      have qP:ny rs pt.data.toList ws (k + 1)= some (l ++ [hg x.data.toList]):=by rw [wv bL.out ei.out cg.out,rR];rw [if_pos Em.out,LQ.out];rfl
      have gp:=J qP;clear qP
      go_wp2_with (at_builtin;refine kJ rfl _ _ 38 rfl w.heap.size 3 i0 _ 1 8 Tryz.underlying38 hi dk dx dC rfl (by decide) bU fZ pd _ (l) rfl (gW.alloc _) ⟨bg.heap.size,0,none⟩ 1 (hg x.data.toList) rfl (aJ.one _ _) (by have:=lb.out;unfold maxLen;omega) (by have:=lb.out;omega) (by have:=aP.size;simp;omega) ?_;intro v4 cf eX fs kC)
      have gu:Below w w cf:=(aP.alloc aP.size _).grown fs (by have:=aP.size;simp;omega) (fun q bf=>(gW.lt q bf).1)
      go_roundw
      case rel=>exact⟨k + 1,l ++ [hg x.data.toList],by omega,by go_num,gp.out,eX,gu⟩
      case measure=>simp [intOf];omega
    ·have ajF:((pt[k].toNat:Int) == 110)= false:=by
      rw [beq_eq_false_iff_ne]
      intro e
      exact aR (UInt8.toNat_inj.1 (by have:(110:UInt8).toNat= 110:=rfl;omega))
     have Em:=J aR;clear aR
     cases hf:uu rs x with
     | none=>
      have hP:=J (WI an c0 rs h0 dP bD.out x none hf wr (eu.out.U aE));have cD:=J hf;clear hf
      simp only [yf,Option.isSome_none] at hP
      go_wp2_with fail
      refine hP.out.mono ?_
      rintro e bg ⟨rfl,bE⟩
      have RU:Below w w (bg.alloc (.cells #[(0:Int),.string ⟨#[]⟩,(0:Int),false,false,false,(0:Int)] 89)):=(ai aE bE).alloc (ai aE bE).size _
      have qP:ny rs pt.data.toList ws (k + 1)= none:=by rw [wv bL.out ei.out cg.out,rR];rw [if_neg Em.out,cD.out];rfl
      exact adO
     | some r=>
      obtain⟨id,nm,rk,af,fy,am,ee,aZ⟩:=r
      have hP:=J (WI an c0 rs h0 dP bD.out x _ hf wr (eu.out.U aE));have cD:=J hf;clear hf
      simp only [yf,Option.isSome_some] at hP
      go_wp2_with fail
      refine hP.out.mono ?_
      rintro e bg ⟨rfl,bE⟩
      go_upto_region 11 with fail
      have Vj:=bE.alloc bE.size (.cells #[id,nm,rk,af,fy,am,ee] 89);have bp:=aC.new bg 89 #[id,nm,rk,af,fy,am,ee]
      generalize bg.alloc (.cells #[id,nm,rk,af,fy,am,ee] 89)= hF at *
      have dj:=(bp.cell 0).trans (show _= some (.int .i64 id) from rfl);have aP:=ai aE Vj;have NQ:=Vj;clear g0;have gW:=dp.out.bh NQ
      have qP:ny rs pt.data.toList ws (k + 1)= some (l ++ [id]):=by rw [wv bL.out ei.out cg.out,rR];rw [if_neg Em.out,cD.out];rfl
      have gp:=J qP;clear qP
      go_wp2_with (at_builtin;refine kJ rfl _ _ 38 rfl w.heap.size 3 i0 _ 1 8 Tryz.underlying38 hi dk dx dC rfl (by decide) bU fZ pd _ (l) rfl (gW.alloc _) ⟨hF.heap.size,0,none⟩ 1 (id) rfl (aJ.one _ _) (by have:=lb.out;unfold maxLen;omega) (by have:=lb.out;omega) (by have:=aP.size;simp;omega) ?_;intro v4 cf eX fs kC)
      have gu:Below w w cf:=(aP.alloc aP.size _).grown fs (by have:=aP.size;simp;omega) (fun q bf=>(gW.lt q bf).1)
      go_roundw
      case rel=>exact⟨k + 1,l ++ [id],by omega,by go_num,gp.out,eX,gu⟩
      case measure=>simp [intOf];omega
   ·obtain rfl:k= ws.length:=by omega
    have kB:=dp.out
    obtain⟨Y,gV,rfl,_,_,_⟩:=kB.form fZ
    have sc:=J kB;clear kB
    go_wp2
    go_ret2
    exact⟨l,true,Y,gV,rfl,J (by rw [lp,if_pos oz.out,bL.out];rfl),sc.out,aE⟩
 ·have eg:((ws.length:Int) != (pt.size:Int))= true:=by rw [bne_iff_ne];omega
  have oz:=J hlen;clear hlen az cb bP aW EU
  go_in
  go_wp2
  go_ret2
  exact⟨[],false,none,0,rfl,J (by rw [lp,if_neg oz.out];rfl),aX.nil,Below.refl _ _⟩
open Go.RowKit Go.G9
theorem YB {rs:List aM} {qs:List aN} {k:Nat} {q:aN} {r:aM} (bf:qs[k]? =some q) (bz:hA rs q.fU= some r):(qs.take (k + 1)).map (ln rs)= (qs.take k).map (ln rs) ++ [r.name]:=by rw [List.take_add_one,bf];simp [ln,Yj bz]
theorem take_len {T uh:Type} {xs:List T} {f:T→uh} {k:Nat} (h:k≤xs.length):((xs.take k).map f).length= k:=by rw [List.length_map,List.length_take];omega
theorem adV {p:Prop} (h:p:=by
 have gu:Below w w cf:=(aP.alloc aP.size _).grown fs (by have:=aP.size;simp;omega) (fun q bf=>(gW.lt q bf).1)
 go_roundw
 case rel=>exact⟨k + 1,by omega,by go_num,by rw [gp.out];exact eX,gu⟩
 case measure=>simp [intOf];omega):p:=h
theorem aaT {p:Prop} (h:p:=by
 obtain rfl:k= qs.length:=by omega
 have kB:=dp.out
 rw [List.take_length] at kB
 obtain⟨Y,gV,rfl,_,_,_⟩:=kB.form jM
 have sc:=J kB;clear kB
 go_wp2
 go_ret2
 exact⟨Y,gV,rfl,sc.out,aE⟩):p:=h
theorem alq (an:Option Addr) (c0:Nat) (rs:List aM) (h0:rs.length≤1048576) (dP:rs.length≤c0) (ar:Option Addr) (au:Nat) (qs:List aN) (h1:qs.length≤1048576) (aR:dF rs qs= true) (w:World) (aW:aJ 7 aM.cells w an rs) (aV:aJ 3 aN.cells w ar qs):
 Calls Tryz.prog 170 #[.slice an rs c0,.slice ar qs au] w fun e ah=>∃D d,e= .returned (.tuple #[.slice D (qs.map (ln rs)).length d,true])∧aX w 9 1 hj ah (.slice D (qs.map (ln rs)).length d) (qs.map (ln rs))∧Below w w ah:=by
 obtain⟨i0,hi,dk,dx,dC⟩:=info_parts xN
 have zY:=J aR;have eu:=J aW;have gh:=J aV;clear aR aW aV
 go_in
 go_wp2_with fail
 refine (nr an c0 rs h0 dP ar au qs h1 _ zY.out _ eu.out gh.out).mono ?_
 rintro e wp ⟨rfl,An⟩
 have hL:=aX.made (f:=hj) (sz:=1) wp (B:=w.heap.size) An.size 9;have atH:=An.size
 go_wp2
 go_loopw [6,16] (fun y i wr=>∃k:Nat,k≤qs.length∧i= .int .i64 k∧aX w 9 1 hj wr y ((qs.take k).map (ln rs))∧Below w w wr) (fun _ i _=>qs.length - (intOf i).toNat)
 case atStart=>exact⟨0,Nat.zero_le _,rfl,hL,An.alloc An.size _⟩
 case round=>
  obtain⟨k,ax,rfl,bR,aE⟩:=hrel
  have lb:Hid (((qs.take k).map (ln rs)).length= k):=J (take_len ax);have dp:=J bR;clear bR hL;have ajm:=(nd zY.out).2.1
  by_cases bn:k < qs.length
  ·obtain⟨ey,gN,⟨qr,cp,dy⟩,rfl,dU,bf,nZ⟩:=gh.out.at_ aE bn
   obtain⟨r,bz⟩:=oi zY.out bf
   have gp:=J (YB bf bz)
   obtain⟨id,nm,rk,af,fy,am,ee,aZ⟩:=r
   have qq:=J bz;have cy:=nZ 0 _ rfl;have dD:=nZ 1 _ rfl;have di:=nZ 2 _ rfl
   simp only [Nat.add_zero] at cy
   have g0:=cy (aB.self _);have g1:=dD (aB.self _);have g2:=di (aB.self _)
   simp only [aB.self] at g0
   simp only [aB.self] at g1
   simp only [aB.self] at g2
   clear nZ cy dD di bf bz
   go_upto_region 7 with fail
   have ej:=aC.new wr 115 #[qr,cp,dy];have iT:=aE.alloc aE.size (.cells #[qr,cp,dy] 115);have rz:=dp.out.alloc (.cells #[qr,cp,dy] 115)
   generalize wr.alloc (.cells #[qr,cp,dy] 115)= hF at *
   clear g0 g1 g2;have fA:=ej.cK;have aik:=ej.lt
   have sx:∀W:World,(Instr.field 89 (.agg #[id,nm,rk,af,fy,am,ee]) 1).run Tryz.prog W= .ok (.string nm) W:=fun _=>by kernel_rfl
   have yw:=J rz;clear rz
   go_wp2_with fail
   refine (qY an c0 rs h0 ⟨qr,cp,dy⟩ ⟨id,nm,rk,af,fy,am,ee,aZ⟩ qq.out _ (eu.out.U iT)).mono ?_
   rintro e bg ⟨rfl,bE⟩
   have aP:=ai iT bE;have gW:=yw.out.bh bE;clear fA ej aik
   go_wp2_with (at_builtin;refine kJ rfl _ _ 57 rfl w.heap.size 9 i0 _ 1 16 Tryz.underlying57 hi dk dx dC rfl (by decide) hj jM BU _ ((qs.take k).map (ln rs)) rfl (gW.alloc _) ⟨bg.heap.size,0,none⟩ 1 (nm) rfl (aJ.one _ _) (by have:=lb.out;unfold maxLen;omega) (by have:=lb.out;omega) (by have:=aP.size;simp;omega) ?_;intro v4 cf eX fs kC)
   exact adV
  ·exact aaT
theorem aqj (an:Option Addr) (c0:Nat) (rs:List aM) (h0:rs.length≤1048576) (ar:Option Addr) (au:Nat) (qs:List aN) (h1:qs.length≤1048576) (aR:dF rs qs= true) (w:World) (aW:aJ 7 aM.cells w an rs) (aV:aJ 3 aN.cells w ar qs):
 Calls Tryz.prog 188 #[.slice an rs c0,.slice ar qs au] w fun e ah=>∃D d,e= .returned (.tuple #[.slice D (qs.map (ln rs)).length d,true])∧aX w 9 1 hj ah (.slice D (qs.map (ln rs)).length d) (qs.map (ln rs))∧Below w w ah:=by
 obtain⟨i0,hi,dk,dx,dC⟩:=info_parts xN
 have zY:=J aR;have eu:=J aW;have gh:=J aV;clear aR aW aV;have hL:=aX.made (f:=hj) (sz:=1) w (B:=w.heap.size) (Nat.le_refl _) 9;have oF:Below w w (w.alloc (.cells #[] 9)):=ca _ _
 go_in
 go_upto_region 2 with fail
 generalize w.alloc (.cells #[] 9)= QN at *
 have jI:=J hL;clear hL
 go_wp2_with fail
 refine (oe an c0 rs h0 ar au qs h1 _ zY.out _ (eu.out.U oF) (gh.out.U oF)).mono ?_
 rintro e wp ⟨rfl,An⟩
 have vY:=ai oF An;have gW:=jI.out.bh An
 go_wp2
 go_loopw [6,7] (fun y i wr=>∃k:Nat,k≤qs.length∧i= .int .i64 k∧aX w 9 1 hj wr y ((qs.take k).map (ln rs))∧Below w w wr) (fun _ i _=>qs.length - (intOf i).toNat)
 case atStart=>exact⟨0,Nat.zero_le _,rfl,gW,vY⟩
 case round=>
  obtain⟨k,ax,rfl,bR,aE⟩:=hrel
  have lb:Hid (((qs.take k).map (ln rs)).length= k):=J (take_len ax);have dp:=J bR;clear bR gW;have ajm:=(nd zY.out).2.1
  by_cases bn:k < qs.length
  ·obtain⟨ey,gN,⟨qr,cp,dy⟩,rfl,dU,bf,nZ⟩:=gh.out.at_ aE bn
   obtain⟨r,bz⟩:=oi zY.out bf
   have gp:=J (YB bf bz)
   obtain⟨j,bI,uR⟩:=rG bz
   have ie:j < rs.length:=(List.getElem?_eq_some_iff.1 uR).1
   obtain⟨fW,rN,fS,rfl,Vm,pb,tm⟩:=eu.out.at_ aE ie
   obtain rfl:r= fS:=Option.some.inj (uR.symm.trans pb)
   obtain⟨id,nm,rk,af,fy,am,ee,aZ⟩:=r
   have eI:=J bI;have cy:=nZ 0 _ rfl (aB.self _);have f1:=tm 1 _ rfl (aB.self _)
   simp only [Nat.add_zero,aB.self] at cy f1
   clear nZ bf bz tm pb uR bI
   go_wp2_with fail
   refine (vg _ c0 rs h0 qr _ eI.out _ (eu.out.U aE)).mono ?_
   rintro e w0 ⟨rfl,Us⟩
   rw [Us]
   clear Us w0;have aP:=aE;have gW:=dp.out
   go_wp2_with (at_builtin;refine kJ rfl _ _ 57 rfl w.heap.size 9 i0 _ 1 16 Tryz.underlying57 hi dk dx dC rfl (by decide) hj jM BU _ ((qs.take k).map (ln rs)) rfl (gW.alloc _) ⟨wr.heap.size,0,none⟩ 1 (nm) rfl (aJ.one _ _) (by have:=lb.out;unfold maxLen;omega) (by have:=lb.out;omega) (by have:=aP.size;simp;omega) ?_;intro v4 cf eX fs kC)
   exact adV
  ·exact aaT
open Go.RowKit Go.G9
theorem Di {T:Type} {B:Nat} {e:TypeId} {sz:Nat} {f:T→List Value} {w:World} {v:Value} {xs:List T} (h:aX B e sz f w v xs) (bd:0 < xs.length):∃g c,v= .slice (some ⟨g,0,none⟩) xs c:=by
 obtain⟨_,h⟩:=h
 rcases h with ⟨_,h0⟩ | ⟨g,cap,_,h,_⟩
 ·omega
 ·exact⟨g,cap,h⟩
open Go.RowKit Go.G9
def ZN:Value→Nat
 | .slice _ n _=>n
 | _=>0
theorem aqo (ag af sp:Int) (ak:Option Addr) (c2:Nat) (ws:List Int) (al:Option Addr) (c3:Nat) (ad:List aK) (h2:ws.length≤1048576) (h3:ad.length≤1048576) (n2:ak= none→ws= []∧c2= 0) (n3:al= none→ad= []∧c3= 0) (cm:ws.length≤c2) (az:gl ag af sp ws ad= true) (w:World) (bm:aJ 1 bU w ak ws) (bl:aJ 3 aK.cells w al ad):
 Calls Tryz.prog 190 #[.agg #[ag,af,sp,.slice ak ws c2,.slice al ad c3]] w fun e ah=>∃D d,e= .returned (.tuple #[.slice D (kF ⟨ag,af,sp,ws,ad⟩).length d,true])∧aX w 3 1 bU ah (.slice D (kF ⟨ag,af,sp,ws,ad⟩).length d) (kF ⟨ag,af,sp,ws,ad⟩)∧Below w w ah:=by
 obtain⟨i0,hi,dk,dx,dC⟩:=info_parts rI
 have bD:=J az;have iY:=J n2;have iR:=J n3;have atT:=(Jh.1 az).l;clear az n2 n3
 go_in
 go_upto_region 1 with fail
 refine cR fun aH av aj=>?_
 replace bm:=bm.U av;replace bl:=bl.U av;have I:=av;have aF:=aj.aS
 go_upto_region 2 with fail
 have hL:=aX.made (f:=bU) (sz:=1) aH (B:=w.heap.size) I.size 3;have eJ:Below aH aH (aH.alloc (.cells #[] 3)):=ca _ _
 obtain⟨wM,AH⟩ :∃b,b= aH.heap.size:=⟨_,rfl⟩
 have WB:wM < (aH.alloc (.cells #[] 3)).heap.size:=by rw [AH];simp
 rw [← AH] at hL
 generalize FO:aH.alloc (.cells #[] 3)= kr at *
 rw [← AH]
 clear AH FO;have jI:=J hL;clear hL;have ao:=be aH eJ;replace I:=ai I ao;replace bm:=bm.U ao;replace bl:=bl.U ao;replace aj:=aj.to ao;clear aF;have aF:=aj.aS
 go_wp2_with fail
 refine (mI ag af sp ak ws c2 al c3 ad h2 h3 cm _ bD.out _ (bm.U aw) (bl.U aw)).mono ?_
 rintro e bA ⟨rfl,bC⟩
 have aL:=be kr bC;replace I:=ai I aL;replace bm:=bm.U aL;replace bl:=bl.U aL;replace aj:=aj.to aL;clear aF;have aF:=aj.aS;have lr:=J (jI.out.bh aL);have xK:wM < bA.heap.size:=Nat.lt_of_lt_of_le WB aL.size;have auc:=I.size
 go_wp2_with fail
 refine (Hc ag af sp ak c2 ws al c3 ad h2 h3 iY.out iR.out _ (bm.U aw) (bl.U aw)).mono ?_
 rintro e cf ⟨bk,d2,bo,d3,rfl,mY,cZ⟩
 have bV:=be bA cZ;replace I:=ai I bV;replace aj:=aj.to bV;clear aF;have hs:=J (lr.out.bh bV);have bF:=mY.fg;have bw:=mY.fF
 have eg:oB (.slice wM ([]:List Int).length 0) (.slice bk ws d2):=fun k h1 h2=>by
  have e:wM= k:=Option.some.inj h1;have:=(bF.lt k h2).1
  omega
 have kZ:=J eg;clear mY eg xK WB jI lr bm bl
 go_upto_region 5 with fail
 obtain⟨lA,nv⟩ :∃b,b= cf.heap.size:=⟨_,rfl⟩
 refine cR fun DD cG bp=>?_
 replace bF:=bF.bh cG;replace bw:=bw.bh cG;replace I:=ai I cG;have cE:=bp.aS
 rw [← nv] at bp
 rw [← nv]
 have jV:=J (hs.out.bh cG)
 have vY:w.heap.size≤lA:=by have:=aj.lt;omega
 have uf:=J (bF.base (B':=w.heap.size) (by omega));have ug:=J (bw.base (B':=w.heap.size) (by omega));have yu:=J bp;have BC:=J I;clear nv hs bF bw aj bp cE
 go_wp2
 go_loopw [4] (fun y wr=>∃(eR jk:List Int) (W:Option Addr) (ur:Nat) (Y:Option Addr) (sl:Nat),y= .slice Y jk sl∧eR.length + jk.length= ws.length∧Hid (kF ⟨ag,af,sp,ws,ad⟩ =jk ++ kF ⟨ag,af,sp,eR,ad⟩)∧aX w 3 1 bU wr (.slice Y jk sl) jk∧aX w 3 1 bU wr (.slice W eR ur) eR∧aX w 214 3 aK.cells wr (.slice bo ad d3) ad∧aC wr lA 41 #[ag,af,sp,.slice W eR ur,.slice bo ad d3]∧Hid (oB (.slice Y jk sl) (.slice W eR ur))∧Below w w wr) (fun y _=>ws.length - ZN y)
 case atStart=>exact⟨ws,[],bk,d2,some ⟨wM,0,none⟩,0,rfl,rfl,J rfl,jV.out,uf.out,ug.out,yu.out,kZ,BC.out⟩
 case round=>
  clear jV uf ug yu BC kZ I
  obtain⟨eR,jk,W,ur,Y,sl,rfl,hlen,dW,bR,bK,yO,bp,gp,I⟩:=hrel
  have oz:=J hlen;clear hlen;have dp:=J bR;have nB:=J bK;have fD:=J yO;clear bR bK yO
  by_cases cb:0 < eR.length
  ·obtain⟨FD,asW,agC⟩:=Di nB.out cb
   injection agC with agD _ agE
   subst agD
   subst agE
   have sv:=rP nB.out fZ
   obtain⟨m,hm,iM⟩:=aqK ⟨ag,af,sp,eR,ad⟩ cb
   simp only [ym] at hm iM
   obtain⟨j,bI⟩ :∃j,ko ⟨ag,af,sp,eR,ad⟩ eR.length= j:=⟨_,rfl⟩
   have Se:=J (fun W (h:Below wr wr W)=>Xr ag af sp (some ⟨FD,0,none⟩) ur eR bo d3 ad (by have:=oz.out;omega) h3 (fun h=>by cases h) fD.out.mJ sv (rP fD.out ij) cb W (nB.out.bh h).fk (fD.out.bh h).fk)
   rw [bI] at hm iM Se
   have ie:j < eR.length:=(List.getElem?_eq_some_iff.1 hm).1;have dQ:=J hm;have BM:=J iM;clear bI hm iM;have cE:=bp.aS
   go_wp2_with fail
   refine (Se.out _ (Below.refl _ _)).mono ?_
   rintro e hX ⟨rfl,pE⟩
   have fb:=be wr pE;replace I:=ai I fb;replace bp:=bp.to fb;clear cE;have cE:=bp.aS;have Ct:=nB.out.bh fb;have gW:=dp.out.bh fb;have UA:=fD.out.bh fb;have St:=J Ct;have lr:=J gW;have RX:=J UA;have g0:=qm Ct fZ dQ.out (i:=0) (u:= .int .i64 m) rfl
   simp only [Nat.mul_one,Nat.add_zero] at g0
   have oH:jk.length≤1048576:=by have:=oz.out;omega
   have lb:Hid (jk.length= jk.length):=J rfl;have UL:=I;clear Ct gW UA
   go_upto_region 8 with (at_builtin;refine kJ rfl _ _ 38 rfl w.heap.size 3 i0 _ 1 8 Tryz.underlying38 hi dk dx dC rfl (by decide) bU fZ pd _ (jk) rfl (lr.out.alloc _) ⟨hX.heap.size,0,none⟩ 1 (m) rfl (aJ.one _ _) (by have:=lb.out;unfold maxLen;omega) (by have:=lb.out;omega) (by have:=UL.size;simp;omega) ?_;intro v4 Bt eX fs kC)
   have rD:=pC (lz (ca hX (.cells #[m] 3)) _) fs;have gu:aC Bt lA 41 #[ag,af,sp,.slice FD eR ur,.slice bo ad d3]:=bp.jO rD (fun e=>lr.out.pf bp (by decide) lA e.symm rfl);have Cs:oB v4 (.slice FD eR ur):=oB.step (H:=(World.alloc hX (.cells #[m] 3)).heap.size) gp.out (fun k ax=>by have:=(St.out.lt k ax).2;simp;omega) kC
   have vX:aX w 3 1 bU Bt (.slice FD eR ur) eR:=St.out.ne rD gp.out;have UB:aX w 214 3 aK.cells Bt (.slice bo ad d3) ad:=RX.out.kept rD (RX.out.apart lr.out (by decide));have BB:Below w w Bt:=I.grown rD I.size (fun q bf=>(lr.out.lt q bf).1);clear bp g0 I UL
   obtain⟨SL,Tz,e4,_,_,_⟩:=eX.form fZ
   subst e4
   rw [List.length_append,List.length_singleton] at eX Cs
   rw [List.length_append,List.length_singleton]
   have la:=J eX;have Ma:=J vX;have aer:=J UB;clear eX vX UB Cs fs kC rD;have I:=BB;have RV:=BB.size;clear BB;have cE:=gu.aS
   go_wp2_with fail
   refine (Xu (some ⟨FD,0,none⟩) ur eR (by have:=oz.out;omega) sv j ie _ Ma.out.fk).mono ?_
   rintro e zA ⟨g6,rr,rfl,tZ,uB⟩
   have qQ:=be Bt uB;replace I:=ai I qQ;replace gu:=gu.to qQ;clear cE;have cE:=gu.aS;have mU:=J (la.out.bh qQ);have RY:=J (aer.out.bh qQ);have Ix:=J tZ
   have aeH:Hid (oB (.slice SL (jk.length + 1) Tz) (.slice g6 (eR.length - 1) rr)):=J fun k h1 h2=>by
    have:=(la.out.lt k h1).2;have:=(tZ.lt k h2).1
    omega
   have Wm:w.heap.size≤Bt.heap.size:=RV;have Lx:=J gu;clear tZ RV;have asY:=gu.frozen 3
   go_wp2
   obtain⟨mb,FN⟩ :∃X,X= World.setCell zA ⟨lA,3,none⟩ (.slice g6 (eR.length - 1) rr):=⟨_,rfl⟩
   have eQ:dA zA lA 3 [.slice g6 (eR.length - 1) rr] mb:=by rw [FN];exact dA.cons dA.nil
   rw [← FN]
   clear FN cE;have Ah:aC mb lA 41 #[ag,af,sp,.slice g6 (eR.length - 1) rr,.slice bo ad d3]:=eQ.own gu;have zN:=eQ.aG I;have mX:=mU.out.bY eQ (mU.out.pf Lx.out (by decide));have RL:=RY.out.bY eQ (RY.out.pf Lx.out (by decide));have Ms:=(Ix.out.base (B':=w.heap.size) Wm).bY eQ (Ix.out.pf Lx.out (by decide))
   have JB:(eR.take j ++ eR.drop (j + 1)).length= eR.length - 1:=by simp;omega
   go_roundw
   case rel=>exact⟨eR.take j ++ eR.drop (j + 1),jk ++ [m],g6,rr,SL,Tz,by rw [List.length_append,List.length_singleton],by have:=oz.out;rw [JB,List.length_append,List.length_singleton];omega,J (by rw [dW.out,BM.out];simp),by rw [List.length_append,List.length_singleton];exact mX,by rw [JB];exact Ms,RL,by rw [JB];exact Ah,J (by rw [JB,List.length_append,List.length_singleton];exact aeH.out),zN⟩
   case measure=>simp [ZN];have:=oz.out;omega
  ·have dk:eR.length= 0:=by omega
   have ji:kF ⟨ag,af,sp,ws,ad⟩ =jk:=by rw [dW.out,aqJ dk,List.append_nil]
   have cD:=J ji;clear dk ji;have cE:=bp.aS
   go_wp2
   go_ret2
   exact⟨Y,sl,by rw [cD.out];rfl,by rw [cD.out];exact dp.out,I⟩
open Go.RowKit Go.G9
theorem Uq {rs:List aM} {r:aM} (h:r ∈ rs):∃x,hA rs r.id= some x:=by
 unfold hA
 cases hf:rs.find? (fun x=>x.id == r.id) with
 | some x=>exact⟨x,rfl⟩
 | none=>have:=List.find?_eq_none.1 hf r h;simp at this
theorem XO {rs:List aM} {qs:List aN} {k:Nat} {id:Int} (h:(ht rs qs)[k]? =some id):∃r,hA rs id= some r:=by
 have h:=List.mem_of_getElem? h
 unfold ht at h
 split at h
 ·obtain⟨r,bz,rfl⟩:=List.mem_map.1 h;exact Uq bz
 ·split at h
  ·split at h
   ·simp at h
   ·obtain⟨r,bz,rfl⟩:=List.mem_map.1 h;exact Uq (List.mem_filter.1 bz).1
  ·simp at h
theorem PA {rs:List aM} {qs:List aN}:(ht rs qs).length≤rs.length:=by
 exact abK
theorem Yh {rs:List aM} {xs:List Int} {k:Nat} {id:Int} {r:aM} (ay:xs[k]? =some id) (bz:hA rs id= some r):(xs.take (k + 1)).map (lD rs)= (xs.take k).map (lD rs) ++ [r.name]:=by rw [List.take_add_one,ay];simp [Yj bz]
theorem Td {w ah:World} {a b c:Addr} {x y z:Value} {row:Option Nat} (h:w.cell? a= some x∧w.cell? b= some y∧w.cell? c= some z) (ck:w.grownBy ah row) (n1:some a.block≠row) (n2:some b.block≠row) (n3:some c.block≠row):ah.cell? a= some x∧ah.cell? b= some y∧ah.cell? c= some z:=⟨ck.cell h.1 n1,ck.cell h.2.1 n2,ck.cell h.2.2 n3⟩
theorem BX {w ah:World} {a b c:Addr} {x y z:Value} (h:w.cell? a= some x∧w.cell? b= some y∧w.cell? c= some z) (aE:Below w w ah):ah.cell? a= some x∧ah.cell? b= some y∧ah.cell? c= some z:=Td h (lz aE none) (by simp) (by simp) (by simp)
theorem Yn {T:Type} {B:Nat} {e:TypeId} {sz:Nat} {f:T→List Value} {w:World} {b o n c:Nat} {xs:List T} (h:aX B e sz f w (.slice (some ⟨b,o,none⟩) n c) xs) (bd:0 < xs.length):(Value.slice (some ⟨b,o,none⟩) n c).ownBlock= some b:=by
 rcases h.2 with ⟨_,h0⟩ | ⟨g,cap,cur,az,_⟩
 ·omega
 ·injection az with h1 _ _
  injection h1 with h2
  injection h2 with h3 h4
  subst h3;subst h4;rfl
theorem acr {p:Prop} (h:p:=by
 have h2:=Yn iv.out (by omega)
 exact dp.out.apart iv.out (by decide) q bf (by rw [h2,e])):p:=h
theorem acy {p:Prop} (h:p:=by
 go_wp2_with (at_builtin;refine kJ rfl _ _ 57 rfl aH.heap.size 9 i0 _ 1 16 Tryz.underlying57 hi dk dx dC rfl (by decide) hj jM BU _ ((ys.take k).map (lD rs)) rfl (oY.alloc _) ⟨KW.heap.size,0,none⟩ 1 (nm) rfl (aJ.one _ _) (by have:=lb.out;unfold maxLen;omega) (by have:=lb.out;omega) (by have:=aP.size;simp;omega) ?_;intro v4 cf eX fs kC)
 have rD:=pC (lz (rn.alloc rn.size (.cells #[nm] 9)) _) fs;have gu:Below aH aH cf:=(aP.alloc aP.size _).grown fs (by have:=aP.size;simp;omega) (fun q bf=>(dp.out.lt q bf).1);have ais:=iv.out.kept rD (iv.out.apart dp.out (by decide))
 refine hh ((db.out _).2 (Td vI.out rD (fun e=>iR.out.1 _ e.symm rfl) (fun e=>iR.out.2.1 _ e.symm rfl) (fun e=>iR.out.2.2 _ e.symm rfl))) (dX _ _ ?_)
 refine mg ?_
 change wpQuiet _ _ _ _ (_ ::[]) _
 repeat (go_big_quiet_step (fail))
 refine wpQuiet_nil ?_
 go_wp2
 go_roundw
 case rel=>exact⟨k + 1,by omega,by go_num,by rw [gp.out];exact eX,ais,gu⟩
 case measure=>simp [intOf];omega):p:=h
theorem apT (an:Option Addr) (c0:Nat) (ar:Option Addr) (au:Nat) (ak:Option Addr) (c2:Nat) (al:Option Addr) (c3:Nat) (aA:Option Addr) (c4:Nat) (rs:List aM) (qs:List aN) (ag af sp:Int) (ws:List Int) (ad:List aK) (os:List Out) (h0:rs.length≤1000) (h1:qs.length≤1048576) (aR:dF rs qs= true) (w:World) (aW:aJ 7 aM.cells w an rs) (aV:aJ 3 aN.cells w ar qs):
 Calls Tryz.prog 94 #[.agg #[.slice an rs c0,.slice ar qs au,ag,af,sp,.slice ak ws c2,.slice al ad c3,.slice aA os c4]] w fun e ah=>∃D d,e= .returned (.slice D ((ht rs qs).map (lD rs)).length d)∧aX w 9 1 hj ah (.slice D ((ht rs qs).map (lD rs)).length d) ((ht rs qs).map (lD rs))∧Below w w ah:=by
 obtain⟨i0,hi,dk,dx,dC⟩:=info_parts xN
 have zU:=J (fun k id (h:(ht rs qs)[k]? =some id)=>XO h);have ju:=PA (rs:=rs) (qs:=qs);have LH:=J (fun W (h:aJ 7 aM.cells W an rs) (dv:aJ 3 aN.cells W ar qs)=>Pt an c0 rs (by omega) ar au qs h1 aR W h dv)
 generalize ht rs qs= ys at *
 clear aR
 go_in
 go_upto_region 1 with fail
 obtain⟨sF,lQ⟩ :∃b,b= w.heap.size:=⟨_,rfl⟩
 refine cR fun aH av aY=>?_
 replace aW:=aW.U av;replace aV:=aV.U av;have I:=av
 obtain⟨m0,m1,m2,m3,m4,m5,m6,m7⟩:=aY.aI
 rw [← lQ] at aY m0 m1 m2 m3 m4 m5 m6 m7
 rw [← lQ]
 have zN:=J (fun b o (e:an= some ⟨b,o,none⟩) (bd:0 < rs.length)=>(show b < aH.heap.size by obtain⟨cE,mL,gy,eZ,_⟩:=aW bd;rw [e] at gy;injection gy with gy;injection gy with e1 _;omega));have sa:=J aY;have eu:=J aW;have Cv:=I.size
 go_upto_region 2 with fail
 have hL:=aX.made (f:=hj) (sz:=1) aH (B:=aH.heap.size) (Nat.le_refl _) 9;have eJ:Below aH aH (aH.alloc (.cells #[] 9)):=ca _ _
 generalize FO:aH.alloc (.cells #[] 9)= kr at *
 have jI:=J hL;clear hL lQ;clear aY m0 m1 m2 m3 m4 m5 m6 m7;have yu:=J I;have ao:=be aH eJ;replace aW:=aW.U ao;replace aV:=aV.U ao;have ti:=sa.out.U eJ sa.out.lt
 obtain⟨m0,m1,m2,m3,m4,m5,m6,m7⟩:=ti.aI
 go_wp2_with fail
 refine (LH.out _ (aW.U aw) (aV.U aw)).mono ?_
 rintro e bA ⟨Y,sl,rfl,EH,bC⟩
 have aL:=be kr bC;replace ti:=ti.to aL;clear m0 m1 m2 m3 m4 m5 m6 m7
 obtain⟨m0,m1,m2,m3,m4,m5,m6,m7⟩:=ti.aI
 have gW:=jI.out.bh aL;have FU:=EH.base (B':=aH.heap.size) eJ.size;have FI:=ai eJ aL;clear aW aV jI EH I
 go_wp2
 clear m0 m1 m2 m3 m4 m5 m6 m7 ti
 go_loopw [3,5] (fun y i wr=>∃k:Nat,k≤ys.length∧i= .int .i64 k∧aX aH 9 1 hj wr y ((ys.take k).map (lD rs))∧aX aH 3 1 bU wr (.slice Y ys sl) ys∧Below aH aH wr) (fun _ i _=>ys.length - (intOf i).toNat)
 case atStart=>exact⟨0,Nat.zero_le _,rfl,gW,FU,FI⟩
 case round=>
  clear gW FU FI
  obtain⟨k,ax,rfl,bR,FT,aE⟩:=hrel
  have lb:Hid (((ys.take k).map (lD rs)).length= k):=J (take_len ax);have dp:=J bR;have iv:=J FT;clear bR FT
  by_cases bn:k < ys.length
  ·skip
   obtain⟨xa,Ho,id,NL,aiI,hid,Gj⟩:=(iv.out.fk (hf:=fZ)).at_ (Below.refl _ _) bn
   obtain⟨r,bz⟩:=zU.out k id hid
   obtain⟨j,bI,uR⟩:=rG bz
   have ie:j < rs.length:=(List.getElem?_eq_some_iff.1 uR).1
   obtain⟨fW,rN,fS,uv,Vm,pb,tm⟩:=eu.out.at_ aE ie
   obtain rfl:r= fS:=Option.some.inj (uR.symm.trans pb)
   have gp:=J (Yh hid bz)
   obtain⟨HT,nm,rk,af,fy,am,ee,aZ⟩:=r
   have a0:=Gj 0 _ rfl (aB.self _);have n1:=tm 1 _ rfl (aB.self _)
   simp only [Nat.add_zero,Nat.mul_one,aB.self] at a0 n1
   have eI:=J bI
   subst NL uv
   go_upto_region 6 with fail
   have yP:=sa.out.U aE sa.out.lt;have m0:=(yP.cell 0).trans (show _= some (.slice (some ⟨fW,rN,none⟩) rs c0) from rfl);have vI:=J (show wr.cell? ⟨sF,0,none⟩ =some (.slice (some ⟨fW,rN,none⟩) rs c0)∧wr.cell? ⟨xa,Ho + k,none⟩ =some (.int .i64 id)∧wr.cell? ⟨fW,rN + j * 7 + 1,none⟩ =some (.string nm) from⟨m0,a0,n1⟩)
   have oa:∀q,u3.ownBlock= some q→sF≠q:=fun q bf e=>dp.out.pf yP (by decide) q bf e.symm
   have sB:∀q,u3.ownBlock= some q→xa≠q:=fun q bf e=>by
    exact acr
   have rE:∀q,u3.ownBlock= some q→fW≠q:=fun q bf e=>by have:=(dp.out.lt q bf).1;have:=zN.out fW rN rfl (by omega);omega
   have iR:=J (⟨oa,sB,rE⟩ :(∀q,u3.ownBlock= some q→sF≠q)∧(∀q,u3.ownBlock= some q→xa≠q)∧(∀q,u3.ownBlock= some q→fW≠q));clear Gj hid bz tm pb uR bI oa sB rE m0 a0 n1 yP
   obtain⟨eL,gB⟩ :∃X:World→Prop,∀V,X V↔V.cell? ⟨sF,0,none⟩ =some (.slice (some ⟨fW,rN,none⟩) rs c0)∧V.cell? ⟨xa,Ho + k,none⟩ =some (.int .i64 id)∧V.cell? ⟨fW,rN + j * 7 + 1,none⟩ =some (.string nm):=⟨_,fun _=>Iff.rfl⟩
   have db:=J gB;clear gB
   haveI:Nonempty (cP eL):=⟨⟨wr,(db.out _).2 vI.out⟩⟩
   have m0:=fun K:cP eL=>((db.out _).1 K.holds).1
   have a0:=fun K:cP eL=>((db.out _).1 K.holds).2.1
   have n1:=fun K:cP eL=>((db.out _).1 K.holds).2.2
   refine oP eL [([0,1,2,3,4,5,6,7,8],9),([10,11,12],13),([],14)] [15] (by kernel_rfl) (by kernel_rfl) ((db.out _).2 (BX vI.out (Below.refl _ _).drew)) ?_
   have gL:Below wr wr wr.drew:=(Below.refl _ _).drew
   generalize wr.drew= wd at *
   refine gZ fun gr dX=>?_
   change wpQuiet _ _ _ _ (_ ::_ ::_ ::_ ::_ ::_ ::_ ::_ ::_ ::[]) _
   repeat (go_big_quiet_step (fail))
   refine wpQuiet_nil ?_
   change wpList _ _ _ (_ ::[]) _ _
   go_wp2_with fail
   refine (vg _ c0 rs (by omega) id _ eI.out _ (eu.out.U (ai aE gL))).mono ?_
   rintro e KW ⟨rfl,xE⟩
   have rn:Below wr wr KW:=by rw [xE];exact gL
   clear xE
   go_wp2
   refine hh ((db.out _).2 (BX vI.out rn)) (dX _ _ ?_)
   refine gZ fun gr dX=>?_
   change wpQuiet _ _ _ _ (_ ::_ ::_ ::[]) _
   repeat (go_big_quiet_step (fail))
   refine wpQuiet_nil ?_
   change wpList _ _ _ (_ ::[]) _ _
   go_wp2
   refine hh ((db.out _).2 (BX vI.out (rn.alloc rn.size _))) (dX _ _ ?_)
   refine gZ fun gr dX=>?_
   change wpQuiet _ _ _ _ ([]) _
   refine wpQuiet_nil ?_
   change wpList _ _ _ (_ ::[]) _ _
   have aP:=ai aE rn;have oY:=dp.out.bh rn
   exact acy
  ·obtain rfl:k= ys.length:=by omega
   have kB:=dp.out
   rw [List.take_length] at kB
   obtain⟨Mu,kt,rfl,_,_,_⟩:=kB.form jM
   have sc:=J kB;clear kB
   go_wp2
   go_ret
   exact⟨Mu,kt,rfl,sc.out.base Cv,ai yu.out aE⟩
open Go.RowKit Go.G9
theorem Kl {rs:List aM} (h:kq rs= true) (id:Int):(lD rs id).size≤10:=by
 unfold lD
 cases hf:hA rs id with
 | none=>exact Nat.zero_le _
 | some r=>exact anj h hf
theorem IP {os:List Out} {x:Int}:∀{k:Nat},x ∈ ki os k→∃o,o ∈ os∧o.fU= x
 | 0,h=>by simp [ki] at h
 | k + 1,h=>by
  unfold ki at h
  split at h
  ·rename_i o dd
   split at h
   ·rcases List.mem_append.1 h with h | h
    ·exact IP h
    ·simp at h;exact⟨o,List.mem_of_getElem? dd,h.symm⟩
   ·exact IP h
  ·exact IP h
theorem SR {m:cF} (h:gP m):∀x ∈ ki m.bt m.bt.length,-999999≤x∧x≤999999:=fun x ay=>by
 obtain⟨o,dd,rfl⟩:=IP ay
 have h1:=h.Hp o dd
 unfold ql at h1
 rw [Bool.and_eq_true] at h1
 cases hf:hA m.bx o.fU with
 | none=>rw [hf] at h1;simp at h1
 | some r=>
  obtain⟨k,ax⟩:=List.mem_iff_getElem?.1 (List.mem_of_find?_eq_some hf)
  have aE:=zu (zv (nd h.ho).1 ax)
  have he:r.id= o.fU:=by have:=List.find?_some hf;simpa using this
  omega
theorem ZP {m:cF} (h:gP m):∀x ∈ kF m.gz,-999999≤x∧x≤999999:=fun x ay=>by
 have hm:=XP (t:=iX m.gz) ay;have h1:=((lg.1 h.gz).w x hm).1;have:=rH.1 h1
 omega
theorem PD (os:List Out) (n:Int):∀k,0≤(hD os n k).1∧(hD os n k).1≤k∧0≤(hD os n k).2∧(hD os n k).2≤k
 | 0=>by simp [hD]
 | k + 1=>by
  have:=PD os n k
  unfold hD
  split
  ·split
   ·split <;> simp <;> omega
   ·simp;omega
  ·simp;omega
theorem aoz (w:World) (a b:Int):aJ 1 bU (w.alloc (.cells #[a,b] 3)) (some ⟨w.heap.size,0,none⟩) [a,b]:=fun _=>⟨w.heap.size,0,rfl,by simp,fun i x ay j u hu=>by
 match i,j,ay,hu with
 | 0,0,ay,hu=>cases ay;cases hu;exact ((aC.new w 3 #[a,b]).cell 0).trans rfl
 | 1,0,ay,hu=>cases ay;cases hu;exact ((aC.new w 3 #[a,b]).cell 1).trans rfl
 | 0,_ + 1,ay,hu=>cases ay;simp [bU] at hu
 | 1,_ + 1,ay,hu=>cases ay;simp [bU] at hu
 | _ + 2,_,ay,hu=>simp at ay⟩
theorem Rg {p:Prop} (h:p:=by
 rintro e bA ⟨rfl,bC⟩
 have aL:=be aQ bC;replace I:=ai I aL;replace bP:=bP.U aL
 go_wp2
 go_ret2
 exact⟨_,rfl,fun y hy=>Option.some.inj hy,(ai I aw)⟩):p:=h
theorem afS (an ar ak al aA:Option Addr) (c0 au c2 c3 c4:Nat) (rs:List aM) (qs:List aN) (ag af sp:Int) (ws:List Int) (ad:List aK) (os:List Out) (Z:ed an ar ak al aA c0 au c2 c3 c4 rs qs ws ad os) (h:gP ⟨rs,qs,ag,af,sp,ws,ad,os⟩) (s:ByteArray) (cD:zL s 3) (L:Option Addr) (lc:Nat) (w:World) (R:dL w an ar ak al aA rs qs ws ad os) (nD:aJ 1 bU w L []) (bP:ov w):
 Calls Tryz.prog 102 #[.agg #[.slice an rs c0,.slice ar qs au,ag,af,sp,.slice ak ws c2,.slice al ad c3,.slice aA os c4],s,.slice L ([]:List Int).length lc] w fun e ah=>∃x:ByteArray,e= .returned (.tuple #[x,.bool (jL ⟨rs,qs,ag,af,sp,ws,ad,os⟩ 3 []).isSome])∧(∀y,jL ⟨rs,qs,ag,af,sp,ws,ad,os⟩ 3 []= some y→x= y)∧Below w w ah:=by
 obtain⟨f0,f1,f2,f3,f4,f5,f6,f7,f8,f9,f10,f11,f12,f13,f14⟩:=cD
 simp only [Nat.reduceBEq] at f0 f1 f2 f3 f4 f5 f6 f7 f8 f9 f10 f11 f12 f13 f14
 have LO:=J (fun W (h1:aJ 7 aM.cells W an rs) (h2:aJ 3 aN.cells W ar qs)=>alq an c0 rs Z.h0 Z.dP ar au qs Z.h1 h.ho W h1 h2)
 have pa:(qs.map (ln rs)).length≤1000:=by have:=(tv h).2.1;rw [List.length_map];simp only at this;omega
 have LM:=J (show∀x ∈ qs.map (ln rs),x.size≤1000 from fun x ay=>by obtain⟨q,_,rfl⟩:=List.mem_map.1 ay;have:=Kl (nd h.ho).1 q.fU;unfold ln;simp only at this;omega);have tQ:Hid (jL ⟨rs,qs,ag,af,sp,ws,ad,os⟩ 3 []= some (lk (qs.map (ln rs)))):=J rfl
 generalize qs.map (ln rs)= xX at *
 clear h Z nD
 rw [tQ.out]
 go_in
 go_upto_region 1 with fail
 have av:Below w w (World.alloc w (.cells #[.slice an rs c0,.slice ar qs au,ag,af,sp,.slice ak ws c2,.slice al ad c3,.slice aA os c4] 44)):=ca w _
 have aY:=aC.new w 44 #[.slice an rs c0,.slice ar qs au,ag,af,sp,.slice ak ws c2,.slice al ad c3,.slice aA os c4]
 replace R:=R.U av;replace bP:=bP.U av
 generalize World.alloc w (.cells #[.slice an rs c0,.slice ar qs au,ag,af,sp,.slice ak ws c2,.slice al ad c3,.slice aA os c4] 44)= aH at *
 have I:=av;have hN:=aY.aI;have wN:=aY.lt
 go_wp2_with fail
 refine (LO.out _ ((R.U aw)).ft ((R.U aw)).dz).mono ?_
 rintro e aQ ⟨D,d,rfl,gQ,aP⟩
 have ao:=be aH aP;replace I:=ai I ao;replace R:=R.U ao;replace bP:=bP.U ao;replace aY:=aY.to ao;clear hN;have hN:=aY.aI;clear hN R
 go_wp2_with fail
 refine (PL D d xX pa LM.out _ (gQ.fk (hf:=jM)) (rP gQ jM)).mono ?_
 exact Rg
theorem afQ (an ar ak al aA:Option Addr) (c0 au c2 c3 c4:Nat) (rs:List aM) (qs:List aN) (ag af sp:Int) (ws:List Int) (ad:List aK) (os:List Out) (Z:ed an ar ak al aA c0 au c2 c3 c4 rs qs ws ad os) (h:gP ⟨rs,qs,ag,af,sp,ws,ad,os⟩) (s:ByteArray) (cD:zL s 4) (L:Option Addr) (lc:Nat) (w:World) (R:dL w an ar ak al aA rs qs ws ad os) (nD:aJ 1 bU w L []) (bP:ov w):
 Calls Tryz.prog 102 #[.agg #[.slice an rs c0,.slice ar qs au,ag,af,sp,.slice ak ws c2,.slice al ad c3,.slice aA os c4],s,.slice L ([]:List Int).length lc] w fun e ah=>∃x:ByteArray,e= .returned (.tuple #[x,.bool (jL ⟨rs,qs,ag,af,sp,ws,ad,os⟩ 4 []).isSome])∧(∀y,jL ⟨rs,qs,ag,af,sp,ws,ad,os⟩ 4 []= some y→x= y)∧Below w w ah:=by
 obtain⟨f0,f1,f2,f3,f4,f5,f6,f7,f8,f9,f10,f11,f12,f13,f14⟩:=cD
 simp only [Nat.reduceBEq] at f0 f1 f2 f3 f4 f5 f6 f7 f8 f9 f10 f11 f12 f13 f14
 obtain⟨i0,hi,dk,dx,dC⟩:=info_parts xN
 have zU:=J (fun k id (h:(ht rs qs)[k]? =some id)=>XO h);have ju:=PA (rs:=rs) (qs:=qs);have ajI:=(tv h).1
 simp only at ajI
 have LM:=J (show∀x ∈ (ht rs qs).map (lD rs),x.size≤1000 from fun x ay=>by obtain⟨q,_,rfl⟩:=List.mem_map.1 ay;have:=Kl (nd h.ho).1 q;simp only at this;omega);have LH:=J (fun W (h1:aJ 7 aM.cells W an rs) (h2:aJ 3 aN.cells W ar qs)=>Py an c0 rs Z.h0 ar au qs Z.h1 h.ho W h1 h2);have tQ:Hid (jL ⟨rs,qs,ag,af,sp,ws,ad,os⟩ 4 []= some (lk ((ht rs qs).map (lD rs)))):=J rfl
 generalize ht rs qs= ys at *
 clear h nD;have bj:=J Z;clear Z
 rw [tQ.out]
 have aW:=R.ft;have aV:=R.dz;clear R
 go_in
 go_upto_region 1 with fail
 obtain⟨sF,lQ⟩ :∃b,b= w.heap.size:=⟨_,rfl⟩
 refine cR fun aH av aY=>?_
 replace aW:=aW.U av;replace aV:=aV.U av;replace bP:=bP.U av;have I:=av
 obtain⟨m0,m1,m2,m3,m4,m5,m6,m7⟩:=aY.aI
 rw [← lQ] at aY m0 m1 m2 m3 m4 m5 m6 m7
 rw [← lQ]
 have zN:=J (fun b o (e:an= some ⟨b,o,none⟩) (bd:0 < rs.length)=>(show b < aH.heap.size by obtain⟨cE,mL,gy,eZ,_⟩:=aW bd;rw [e] at gy;injection gy with gy;injection gy with e1 _;omega));have sa:=J aY;have eu:=J aW;have Cv:=I.size
 go_upto_region 7 with fail
 have hL:=aX.made (f:=hj) (sz:=1) aH (B:=aH.heap.size) (Nat.le_refl _) 9;have eJ:Below aH aH (aH.alloc (.cells #[] 9)):=ca _ _
 generalize FO:aH.alloc (.cells #[] 9)= kr at *
 have jI:=J hL;clear hL lQ;clear aY m0 m1 m2 m3 m4 m5 m6 m7;have yu:=J I;have ao:=be aH eJ;replace I:=ai I ao;replace aW:=aW.U ao;replace aV:=aV.U ao;replace bP:=bP.U ao;have ti:=sa.out.U eJ sa.out.lt
 obtain⟨m0,m1,m2,m3,m4,m5,m6,m7⟩:=ti.aI
 have auK:=ti.lt
 go_wp2_with fail
 refine (LH.out _ (aW.U aw) (aV.U aw)).mono ?_
 rintro e bA ⟨Y,sl,rfl,EH,bC⟩
 have aL:=be kr bC;replace I:=ai I aL;replace aW:=aW.U aL;replace aV:=aV.U aL;replace bP:=bP.U aL;replace ti:=ti.to aL;clear m0 m1 m2 m3 m4 m5 m6 m7
 obtain⟨m0,m1,m2,m3,m4,m5,m6,m7⟩:=ti.aI
 have gW:=jI.out.bh aL;have FU:=EH.base (B':=aH.heap.size) eJ.size;have FI:=ai eJ aL;clear aW aV jI EH I bP
 go_wp2
 clear m0 m1 m2 m3 m4 m5 m6 m7 ti
 go_loopw [10,43] (fun y i wr=>∃k:Nat,k≤ys.length∧i= .int .i64 k∧aX aH 9 1 hj wr y ((ys.take k).map (lD rs))∧aX aH 3 1 bU wr (.slice Y ys sl) ys∧Below aH aH wr) (fun _ i _=>ys.length - (intOf i).toNat)
 case atStart=>exact⟨0,Nat.zero_le _,rfl,gW,FU,FI⟩
 case round=>
  clear gW FU FI
  obtain⟨k,ax,rfl,bR,FT,aE⟩:=hrel
  have lb:Hid (((ys.take k).map (lD rs)).length= k):=J (take_len ax);have dp:=J bR;have iv:=J FT;clear bR FT
  by_cases bn:k < ys.length
  ·skip
   obtain⟨xa,Ho,id,NL,aiI,hid,Gj⟩:=(iv.out.fk (hf:=fZ)).at_ (Below.refl _ _) bn
   obtain⟨r,bz⟩:=zU.out k id hid
   obtain⟨j,bI,uR⟩:=rG bz
   have ie:j < rs.length:=(List.getElem?_eq_some_iff.1 uR).1
   obtain⟨fW,rN,fS,uv,Vm,pb,tm⟩:=eu.out.at_ aE ie
   obtain rfl:r= fS:=Option.some.inj (uR.symm.trans pb)
   have gp:=J (Yh hid bz)
   obtain⟨HT,nm,rk,af,fy,am,ee,aZ⟩:=r
   have a0:=Gj 0 _ rfl (aB.self _);have n1:=tm 1 _ rfl (aB.self _)
   simp only [Nat.add_zero,Nat.mul_one,aB.self] at a0 n1
   have eI:=J bI
   subst NL uv
   go_upto_region 10 with fail
   have yP:=sa.out.U aE sa.out.lt;have m0:=(yP.cell 0).trans (show _= some (.slice (some ⟨fW,rN,none⟩) rs c0) from rfl);have atB:=yP.lt;have vI:=J (show wr.cell? ⟨sF,0,none⟩ =some (.slice (some ⟨fW,rN,none⟩) rs c0)∧wr.cell? ⟨xa,Ho + k,none⟩ =some (.int .i64 id)∧wr.cell? ⟨fW,rN + j * 7 + 1,none⟩ =some (.string nm) from⟨m0,a0,n1⟩)
   have oa:∀q,u10.ownBlock= some q→sF≠q:=fun q bf e=>dp.out.pf yP (by decide) q bf e.symm
   have sB:∀q,u10.ownBlock= some q→xa≠q:=fun q bf e=>by
    exact acr
   have rE:∀q,u10.ownBlock= some q→fW≠q:=fun q bf e=>by have:=(dp.out.lt q bf).1;have:=zN.out fW rN rfl (by omega);omega
   have iR:=J (⟨oa,sB,rE⟩ :(∀q,u10.ownBlock= some q→sF≠q)∧(∀q,u10.ownBlock= some q→xa≠q)∧(∀q,u10.ownBlock= some q→fW≠q));clear Gj hid bz tm pb uR bI oa sB rE m0 a0 n1 yP
   obtain⟨eL,gB⟩ :∃X:World→Prop,∀V,X V↔V.cell? ⟨sF,0,none⟩ =some (.slice (some ⟨fW,rN,none⟩) rs c0)∧V.cell? ⟨xa,Ho + k,none⟩ =some (.int .i64 id)∧V.cell? ⟨fW,rN + j * 7 + 1,none⟩ =some (.string nm):=⟨_,fun _=>Iff.rfl⟩
   have db:=J gB;clear gB
   haveI:Nonempty (cP eL):=⟨⟨wr,(db.out _).2 vI.out⟩⟩
   have m0:=fun K:cP eL=>((db.out _).1 K.holds).1
   have a0:=fun K:cP eL=>((db.out _).1 K.holds).2.1
   have n1:=fun K:cP eL=>((db.out _).1 K.holds).2.2
   refine oP eL [([0,1,2,3,4,5],6),([7,8,9],10),([],11)] [12] (by kernel_rfl) (by kernel_rfl) ((db.out _).2 (BX vI.out (Below.refl _ _).drew)) ?_
   have gL:Below wr wr wr.drew:=(Below.refl _ _).drew
   generalize wr.drew= wd at *
   refine gZ fun gr dX=>?_
   change wpQuiet _ _ _ _ (_ ::_ ::_ ::_ ::_ ::_ ::[]) _
   repeat (go_big_quiet_step (fail))
   refine wpQuiet_nil ?_
   change wpList _ _ _ (_ ::[]) _ _
   go_wp2_with fail
   refine (Ds _ c0 rs (by omega) id _ eI.out _ (eu.out.U (ai aE gL))).mono ?_
   rintro e KW ⟨rfl,xE⟩
   have rn:Below wr wr KW:=ai gL xE;clear xE
   go_wp2
   refine hh ((db.out _).2 (BX vI.out rn)) (dX _ _ ?_)
   refine gZ fun gr dX=>?_
   change wpQuiet _ _ _ _ (_ ::_ ::_ ::[]) _
   repeat (go_big_quiet_step (fail))
   refine wpQuiet_nil ?_
   change wpList _ _ _ (_ ::[]) _ _
   go_wp2
   refine hh ((db.out _).2 (BX vI.out (rn.alloc rn.size _))) (dX _ _ ?_)
   refine gZ fun gr dX=>?_
   change wpQuiet _ _ _ _ ([]) _
   refine wpQuiet_nil ?_
   change wpList _ _ _ (_ ::[]) _ _
   have aP:=ai aE rn;have oY:=dp.out.bh rn;have atD:=iv.out.bh rn
   exact acy
  ·obtain rfl:k= ys.length:=by omega
   have kB:=dp.out
   rw [List.take_length] at kB
   obtain⟨xX,Gx⟩ :∃xX,xX= ys.map (lD rs):=⟨_,rfl⟩
   have pa:xX.length≤1000:=by rw [Gx,List.length_map];omega
   rw [← Gx] at kB
   have Sd:=LM
   rw [← Gx] at Sd
   have kZ:=J Gx;clear Gx
   obtain⟨Mu,kt,rfl,_,_,_⟩:=kB.form jM
   have sc:=J kB;clear kB
   go_wp2_with fail
   refine (PL Mu kt xX pa Sd.out _ (sc.out.fk (hf:=jM)) (rP sc.out jM)).mono ?_
   rintro e mP ⟨rfl,fR⟩
   go_wp2
   go_ret2
   exact⟨_,rfl,fun y hy=>by rw [kZ.out];exact Option.some.inj hy,ai yu.out (ai aE fR)⟩
theorem afR (an ar ak al aA:Option Addr) (c0 au c2 c3 c4:Nat) (rs:List aM) (qs:List aN) (ag af sp:Int) (ws:List Int) (ad:List aK) (os:List Out) (Z:ed an ar ak al aA c0 au c2 c3 c4 rs qs ws ad os) (h:gP ⟨rs,qs,ag,af,sp,ws,ad,os⟩) (s:ByteArray) (cD:zL s 5) (L:Option Addr) (lc:Nat) (w:World) (R:dL w an ar ak al aA rs qs ws ad os) (nD:aJ 1 bU w L []) (bP:ov w):
 Calls Tryz.prog 102 #[.agg #[.slice an rs c0,.slice ar qs au,ag,af,sp,.slice ak ws c2,.slice al ad c3,.slice aA os c4],s,.slice L ([]:List Int).length lc] w fun e ah=>∃x:ByteArray,e= .returned (.tuple #[x,.bool (jL ⟨rs,qs,ag,af,sp,ws,ad,os⟩ 5 []).isSome])∧(∀y,jL ⟨rs,qs,ag,af,sp,ws,ad,os⟩ 5 []= some y→x= y)∧Below w w ah:=by
 obtain⟨f0,f1,f2,f3,f4,f5,f6,f7,f8,f9,f10,f11,f12,f13,f14⟩:=cD
 simp only [Nat.reduceBEq] at f0 f1 f2 f3 f4 f5 f6 f7 f8 f9 f10 f11 f12 f13 f14
 have aT:=tv h
 simp only at aT
 obtain⟨_,_,Gs,Gt,_⟩:=aT
 have zP:=J (ZP h);have zf:=DA (cF.gz ⟨rs,qs,ag,af,sp,ws,ad,os⟩);have aff:=J (fun W (h1:aJ 1 bU W ak ws) (h2:aJ 3 aK.cells W al ad)=>ZQ ag af sp ak c2 ws al c3 ad Z.h2 Z.h3 Z.n2 Z.n3 Z.cm (by omega) W h1 h2);have tQ:Hid (jL ⟨rs,qs,ag,af,sp,ws,ad,os⟩ 5 []= some (pe (kF ⟨ag,af,sp,ws,ad⟩))):=J rfl
 simp only [cF.gz] at zP zf
 generalize kF ⟨ag,af,sp,ws,ad⟩ =eR at *
 have sD:eR.length≤100:=by omega
 clear h Z nD zf
 rw [tQ.out]
 go_in
 go_upto_region 1 with fail
 refine cR fun aH av aY=>?_
 replace R:=R.U av;replace bP:=bP.U av;have I:=av;have hN:=aY.aI;have wN:=aY.lt
 go_wp2_with fail
 refine (aff.out _ ((R.U aw)).r2 ((R.U aw)).gG).mono ?_
 rintro e aQ ⟨D,d,rfl,gQ,aP⟩
 have ao:=be aH aP;replace I:=ai I ao;replace R:=R.U ao;replace bP:=bP.U ao;replace aY:=aY.to ao;clear hN;have hN:=aY.aI;clear hN R
 go_wp2_with fail
 refine (Pu (some ⟨D,0,none⟩) d eR sD zP.out _ (gQ.fk (hf:=fZ)) ((bP.U aw)).t).mono ?_
 exact Rg
theorem afO (an ar ak al aA:Option Addr) (c0 au c2 c3 c4:Nat) (rs:List aM) (qs:List aN) (ag af sp:Int) (ws:List Int) (ad:List aK) (os:List Out) (Z:ed an ar ak al aA c0 au c2 c3 c4 rs qs ws ad os) (h:gP ⟨rs,qs,ag,af,sp,ws,ad,os⟩) (s:ByteArray) (cD:zL s 6) (L:Option Addr) (lc:Nat) (w:World) (R:dL w an ar ak al aA rs qs ws ad os) (nD:aJ 1 bU w L []) (bP:ov w):
 Calls Tryz.prog 102 #[.agg #[.slice an rs c0,.slice ar qs au,ag,af,sp,.slice ak ws c2,.slice al ad c3,.slice aA os c4],s,.slice L ([]:List Int).length lc] w fun e ah=>∃x:ByteArray,e= .returned (.tuple #[x,.bool (jL ⟨rs,qs,ag,af,sp,ws,ad,os⟩ 6 []).isSome])∧(∀y,jL ⟨rs,qs,ag,af,sp,ws,ad,os⟩ 6 []= some y→x= y)∧Below w w ah:=by
 obtain⟨f0,f1,f2,f3,f4,f5,f6,f7,f8,f9,f10,f11,f12,f13,f14⟩:=cD
 simp only [Nat.reduceBEq] at f0 f1 f2 f3 f4 f5 f6 f7 f8 f9 f10 f11 f12 f13 f14
 have aT:=tv h
 simp only at aT
 obtain⟨_,_,_,_,Gu⟩:=aT
 have zP:=J (SR h);have NP:=Aa os os.length;have zM:=J (fun W (dv:dL W an ar ak al aA rs qs ws ad os)=>ako ⟨rs,qs,ag,af,sp,ws,ad,os⟩ an ar ak al aA c0 au c2 c3 c4 Z.h0 Z.h1 Z.h2 Z.h3 Z.h4 W dv.ft dv.dz dv.r2 dv.gG dv.lF Z.dP Z.eh Z.cm Z.dS Z.gD);have lQ:=Dc.2 h
 rw [lQ,show oW ⟨rs,qs,ag,af,sp,ws,ad,os⟩ =ki os os.length by rw [oW,if_pos lQ]] at zM
 have tQ:Hid (jL ⟨rs,qs,ag,af,sp,ws,ad,os⟩ 6 []= some (pe (ki os os.length))):=J rfl
 simp only at zP zM
 generalize ki os os.length= eR at *
 have sD:eR.length≤100:=by omega
 clear h Z nD lQ NP
 rw [tQ.out]
 go_in
 go_upto_region 1 with fail
 refine cR fun aH av aY=>?_
 replace R:=R.U av;replace bP:=bP.U av;have I:=av;have hN:=aY.aI;have wN:=aY.lt
 go_wp2_with fail
 refine (zM.out _ (R.U aw)).mono ?_
 rintro e aQ ⟨D,d,rfl,gQ,aP⟩
 have ao:=be aH aP;replace I:=ai I ao;replace R:=R.U ao;replace bP:=bP.U ao;replace aY:=aY.to ao;clear hN;have hN:=aY.aI;clear hN R
 go_wp2_with fail
 refine (Pu D d eR sD zP.out _ (gQ.fk (hf:=fZ)) ((bP.U aw)).t).mono ?_
 exact Rg
theorem afP (an ar ak al aA:Option Addr) (c0 au c2 c3 c4:Nat) (rs:List aM) (qs:List aN) (ag af sp:Int) (ws:List Int) (ad:List aK) (os:List Out) (Z:ed an ar ak al aA c0 au c2 c3 c4 rs qs ws ad os) (h:gP ⟨rs,qs,ag,af,sp,ws,ad,os⟩) (s:ByteArray) (cD:zL s 11) (L:Option Addr) (lc:Nat) (n:Int) (w:World) (R:dL w an ar ak al aA rs qs ws ad os) (nD:aJ 1 bU w L [n]) (bP:ov w):
 Calls Tryz.prog 102 #[.agg #[.slice an rs c0,.slice ar qs au,ag,af,sp,.slice ak ws c2,.slice al ad c3,.slice aA os c4],s,.slice L ([n]:List Int).length lc] w fun e ah=>∃x:ByteArray,e= .returned (.tuple #[x,.bool (jL ⟨rs,qs,ag,af,sp,ws,ad,os⟩ 11 [n]).isSome])∧(∀y,jL ⟨rs,qs,ag,af,sp,ws,ad,os⟩ 11 [n]= some y→x= y)∧Below w w ah:=by
 obtain⟨f0,f1,f2,f3,f4,f5,f6,f7,f8,f9,f10,f11,f12,f13,f14⟩:=cD
 simp only [Nat.reduceBEq] at f0 f1 f2 f3 f4 f5 f6 f7 f8 f9 f10 f11 f12 f13 f14
 have oH:gl ag af sp ws ad= true:=h.gz;have Il:=J (fun W (h1:aJ 1 bU W ak ws) (h2:aJ 3 aK.cells W al ad)=>akV ag af sp ak c2 ws al c3 ad Z.h2 Z.h3 Z.cm oH n W h1 h2)
 have rB:-999999≤(if eH n then af - (eB ad n).cU else 0)∧(if eH n then af - (eB ad n).cU else 0)≤999999:=by
  split
  ·rename_i hm
   have:=KI oH hm
   omega
  ·omega
 have tQ:Hid (jL ⟨rs,qs,ag,af,sp,ws,ad,os⟩ 11 [n]= if eH n then some (eT (if eH n then af - (eB ad n).cU else 0)) else none):=J (by
  show (if eH n then some (eT (af - (eB ad n).cU)) else none)= _
  cases eH n <;> rfl)
 rw [tQ.out]
 generalize (if eH n then af - (eB ad n).cU else 0)= v at *
 generalize eH n= b at *
 obtain⟨Fb,iV,rfl,dU,jA⟩:=nD (by simp)
 have g0:=jA 0 _ rfl 0 _ rfl
 simp only [Nat.zero_mul,Nat.add_zero] at g0
 have hx:=J g0;have vH:=J dU;clear h Z oH jA dU g0 nD
 cases b
 all_goals
  simp only [Bool.false_eq_true,if_false,if_true,Option.isSome_some,Option.isSome_none]
  go_in
  go_upto_region 1 with fail
  refine cR fun aH av aY=>?_
  replace R:=R.U av;replace bP:=bP.U av;have I:=av;have hN:=aY.aI;have wN:=aY.lt
  go_upto_region 16 with fail
  have ea:=J R.r2;have cS:=J R.gG;have oF:=I
  have u0:=fun K:aB aH.heap.size aH=>(K.cell (p:=⟨Fb,_,none⟩) (Nat.lt_of_lt_of_le vH.out oF.size)).trans ((oF.cell (p:=⟨Fb,_,none⟩) vH.out).trans hx.out)
  clear R;have lW:=J (fun k:aB aH.heap.size aH=>Il.out k.world (ea.out.U k.U) (cS.out.U k.U));clear hN;have hN:=aC.qb (fun K:aB aH.heap.size aH=>(aY.U K.U aY.lt))
  refine eC (by kernel_rfl) (by kernel_rfl) ?_
  repeat (go_big_quiet_step ((first | (go_at_call 175;exact aB.call _ (by first | exact Nat.le_refl _ | omega) (lW.out _)))))
  refine wpQuiet_nil ?_
  intro K
  clear hN;have ao:Below aH aH K.world:=ai aw K.U;replace I:=ai I ao;replace bP:=bP.U ao;replace aY:=aY.to ao;have hN:=aY.aI;clear u0;have wN:=aY.lt
  go_wp2_with fail
  refine (AN v (by omega) (by omega) _ ((bP.U aw)).t).mono ?_
  rintro e bA ⟨rfl,bC⟩
  have aL:Below K.world.heap.size K.world bA:=ai aw bC;replace I:=ai I aL;replace bP:=bP.U aL;replace aY:=aY.to aL;clear hN;have hN:=aY.aI
  go_wp2
  go_ret2
  exact⟨_,rfl,fun y hy=>(by first | exact Option.some.inj hy | cases hy),(ai I aw)⟩
theorem afT (an ar ak al aA:Option Addr) (c0 au c2 c3 c4:Nat) (rs:List aM) (qs:List aN) (ag af sp:Int) (ws:List Int) (ad:List aK) (os:List Out) (Z:ed an ar ak al aA c0 au c2 c3 c4 rs qs ws ad os) (h:gP ⟨rs,qs,ag,af,sp,ws,ad,os⟩) (s:ByteArray) (cD:zL s 12) (L:Option Addr) (lc:Nat) (n:Int) (w:World) (R:dL w an ar ak al aA rs qs ws ad os) (nD:aJ 1 bU w L [n]) (bP:ov w):
 Calls Tryz.prog 102 #[.agg #[.slice an rs c0,.slice ar qs au,ag,af,sp,.slice ak ws c2,.slice al ad c3,.slice aA os c4],s,.slice L ([n]:List Int).length lc] w fun e ah=>∃x:ByteArray,e= .returned (.tuple #[x,.bool (jL ⟨rs,qs,ag,af,sp,ws,ad,os⟩ 12 [n]).isSome])∧(∀y,jL ⟨rs,qs,ag,af,sp,ws,ad,os⟩ 12 [n]= some y→x= y)∧Below w w ah:=by
 obtain⟨f0,f1,f2,f3,f4,f5,f6,f7,f8,f9,f10,f11,f12,f13,f14⟩:=cD
 simp only [Nat.reduceBEq] at f0 f1 f2 f3 f4 f5 f6 f7 f8 f9 f10 f11 f12 f13 f14
 have lQ:=Dc.2 h;have rB:=PD os n os.length;have tq:=(tv h).2.2.2.2
 simp only at tq
 obtain⟨b,aE⟩ :∃b,eH n= b:=⟨_,rfl⟩
 obtain⟨v1,tr⟩ :∃v,v= if b then (hD os n os.length).1 else 0:=⟨_,rfl⟩
 obtain⟨v2,pI⟩ :∃v,v= if b then (hD os n os.length).2 else 0:=⟨_,rfl⟩
 have LK:=J (fun W (dv:dL W an ar ak al aA rs qs ws ad os)=>aln ⟨rs,qs,ag,af,sp,ws,ad,os⟩ an ar ak al aA c0 au c2 c3 c4 Z.h0 Z.h1 Z.h2 Z.h3 Z.h4 n (.tuple #[v1,v2,.bool b]) (by rw [wm,lQ,aE,tr,pI];cases b <;> rfl) W dv.ft dv.dz dv.r2 dv.gG dv.lF Z.dP Z.eh Z.cm Z.dS Z.gD)
 have tQ:Hid (jL ⟨rs,qs,ag,af,sp,ws,ad,os⟩ 12 [n]= if b then some (pe [v1,v2]) else none):=J (by
  show (if eH n then some (pe [(hD os n os.length).1,(hD os n os.length).2]) else none)= _
  rw [aE,tr,pI]
  cases b <;> rfl)
 rw [tQ.out]
 have zP:=J (show∀x ∈ [v1,v2],-999999≤x∧x≤999999 from fun x ay=>by
  simp only [List.mem_cons,List.not_mem_nil,or_false] at ay
  rw [tr,pI] at ay
  cases b
  ·rcases ay with rfl | rfl <;> simp
  ·rcases ay with rfl | rfl <;> simp <;> omega)
 obtain⟨Fb,iV,rfl,dU,jA⟩:=nD (by simp)
 have g0:=jA 0 _ rfl 0 _ rfl
 simp only [Nat.zero_mul,Nat.add_zero] at g0
 have hx:=J g0;have vH:=J dU;clear h Z lQ rB tq aE tr pI jA dU g0 nD
 cases b
 all_goals
  simp only [Bool.false_eq_true,if_false,if_true,Option.isSome_some,Option.isSome_none]
  go_in
  go_upto_region 1 with fail
  refine cR fun aH av aY=>?_
  replace R:=R.U av;replace bP:=bP.U av;have I:=av;have hN:=aY.aI;have wN:=aY.lt
  go_upto_region 21 with fail
  have bL:=J R;have oF:=I
  have u0:=fun K:aB aH.heap.size aH=>(K.cell (p:=⟨Fb,_,none⟩) (Nat.lt_of_lt_of_le vH.out oF.size)).trans ((oF.cell (p:=⟨Fb,_,none⟩) vH.out).trans hx.out)
  clear R;have lW:=J (fun k:aB aH.heap.size aH=>LK.out k.world (bL.out.U k.U));clear hN;have hN:=aC.qb (fun K:aB aH.heap.size aH=>(aY.U K.U aY.lt))
  refine eC (by kernel_rfl) (by kernel_rfl) ?_
  repeat (go_big_quiet_step ((first | (go_at_call 177;exact aB.call _ (by first | exact Nat.le_refl _ | omega) (lW.out _)))))
  refine wpQuiet_nil ?_
  intro K
  clear hN;have ao:Below aH aH K.world:=ai aw K.U;replace I:=ai I ao;replace bP:=bP.U ao;replace aY:=aY.to ao;have hN:=aY.aI;clear u0;have wN:=aY.lt;have kl:aJ 1 bU (K.world.alloc (.cells #[v1,v2] 3)) (some ⟨K.world.heap.size,0,none⟩) [v1,v2]:=aoz _ _ _;have sd:=J kl;clear kl
  go_wp2_with fail
  refine (Pu _ 2 [v1,v2] (by simp) zP.out _ sd.out ((bP.U aw)).t).mono ?_
  rintro e mP ⟨rfl,fR⟩
  go_wp2
  go_ret2
  exact⟨_,rfl,fun y hy=>(by first | exact Option.some.inj hy | cases hy),ai (ai I aw) (ai (ca _ _) fR)⟩
theorem afV (an ar ak al aA:Option Addr) (c0 au c2 c3 c4:Nat) (rs:List aM) (qs:List aN) (ag af sp:Int) (ws:List Int) (ad:List aK) (os:List Out) (Z:ed an ar ak al aA c0 au c2 c3 c4 rs qs ws ad os) (h:gP ⟨rs,qs,ag,af,sp,ws,ad,os⟩) (s pt:ByteArray) (aR:mf (eG s)= some pt) (L:Option Addr) (lc:Nat) (l:List Int) (aT:l.length= pt.size) (cX:sg (eG s) l= none) (w:World) (R:dL w an ar ak al aA rs qs ws ad os) (nD:aJ 1 bU w L l) (bP:ov w):
 Calls Tryz.prog 102 #[.agg #[.slice an rs c0,.slice ar qs au,ag,af,sp,.slice ak ws c2,.slice al ad c3,.slice aA os c4],s,.slice L l lc] w fun e ah=>∃x:ByteArray,e= .returned (.tuple #[x,.bool (jL ⟨rs,qs,ag,af,sp,ws,ad,os⟩ (eG s) l).isSome])∧(∀y,jL ⟨rs,qs,ag,af,sp,ws,ad,os⟩ (eG s) l= some y→x= y)∧Below w w ah:=by
 have cD:=Cb s;have hle:=Fk s
 generalize eG s= i at *
 have h0:∀q,some ⟨#[]⟩ =some q→(q:ByteArray).size= 0:=fun q e=>by cases e;rfl
 have h1:∀q,some ((⟨#[110]⟩ :ByteArray):ByteArray)= some q→q.size= 1:=fun q e=>by cases e;rfl
 have e0:l.length= 0→l= []:=List.length_eq_zero_iff.1
 have e1:l.length= 1→∃n,l= [n]:=fun e=>by
  match l,e with
  | [n],_=>exact⟨n,rfl⟩
 match i,hle with
 | 0,_=>cases cX
 | 1,_=>cases cX
 | 2,_=>cases cX
 | 3,_=>obtain rfl:=e0 (aT.trans (h0 pt aR));exact afS _ _ _ _ _ _ _ _ _ _ _ _ _ _ _ _ _ _ Z h s cD L lc w R nD bP
 | 4,_=>obtain rfl:=e0 (aT.trans (h0 pt aR));exact afQ _ _ _ _ _ _ _ _ _ _ _ _ _ _ _ _ _ _ Z h s cD L lc w R nD bP
 | 5,_=>obtain rfl:=e0 (aT.trans (h0 pt aR));exact afR _ _ _ _ _ _ _ _ _ _ _ _ _ _ _ _ _ _ Z h s cD L lc w R nD bP
 | 6,_=>obtain rfl:=e0 (aT.trans (h0 pt aR));exact afO _ _ _ _ _ _ _ _ _ _ _ _ _ _ _ _ _ _ Z h s cD L lc w R nD bP
 | 7,_=>obtain⟨n,rfl⟩:=e1 (aT.trans (h1 pt aR));cases cX
 | 8,_=>obtain⟨n,rfl⟩:=e1 (aT.trans (h1 pt aR));cases cX
 | 9,_=>obtain⟨n,rfl⟩:=e1 (aT.trans (h1 pt aR));cases cX
 | 10,_=>obtain⟨n,rfl⟩:=e1 (aT.trans (h1 pt aR));cases cX
 | 11,_=>obtain⟨n,rfl⟩:=e1 (aT.trans (h1 pt aR));exact afP _ _ _ _ _ _ _ _ _ _ _ _ _ _ _ _ _ _ Z h s cD L lc n w R nD bP
 | 12,_=>obtain⟨n,rfl⟩:=e1 (aT.trans (h1 pt aR));exact afT _ _ _ _ _ _ _ _ _ _ _ _ _ _ _ _ _ _ Z h s cD L lc n w R nD bP
 | 13,_=>
  have e2:l.length= 2:=aT.trans (by cases aR;rfl)
  match l,e2 with
  | [a,b],_=>cases cX
 | 14,_=>
  have e2:l.length= 3:=aT.trans (by cases aR;rfl)
  match l,e2 with
  | [a,b,c],_=>cases cX
 | 15,_=>cases aR
open Go.RowKit Go.G9
theorem KM (c:UInt8):∀(l u:List UInt8),u ∈ kY c l→u.length≤l.length
 | [],u,h=>by simp [kY] at h;subst h;simp
 | x ::l,u,h=>by
  unfold kY at h
  split at h
  ·rcases List.mem_cons.1 h with rfl | h
   ·simp
   ·have:=KM c l u h;simp;omega
  ·split at h
   ·simp at h;subst h;simp
   ·rename_i v vs he
    rcases List.mem_cons.1 h with rfl | h
    ·have:=KM c l v (by rw [he];simp);simp;omega
    ·have:=KM c l u (by rw [he];simp [h]);simp;omega
theorem KK {c:UInt8} {s x:ByteArray} (h:x ∈ gO c s):x.size≤s.size:=by
 obtain⟨u,hu,rfl⟩:=List.mem_map.1 h
 have h1:=KM c s.data.toList u hu
 show u.toArray.size≤_
 rw [List.size_toArray]
 simpa using h1
theorem ZR (c:UInt8) (s:ByteArray):(gO c s).length≤s.size + 1:=by
 unfold gO
 rw [List.length_map]
 have:=Qw c s.data.toList
 simpa using this
theorem KL (c:UInt8) (s:ByteArray):gO c s≠[]:=by
 unfold gO
 have:=Qx c s.data.toList
 intro e
 exact this (List.map_eq_nil_iff.1 e)
theorem gi.gw {B g:Nat} {w ah:World} {cl:Option Addr} {d0:Nat} {cN:Option Addr} {d1:Nat} {bk:Option Addr} {d2:Nat} {bo:Option Addr} {d3:Nat} {cn:Option Addr} {d4:Nat} {rs:List aM} {qs:List aN} {ws:List Int} {ad:List aK} {os:List Out} {cs:Array Value} (h:gi B w cl d0 cN d1 bk d2 bo d3 cn d4 rs qs ws ad os) (aE:aC w g 46 cs) (ck:w.grownBy ah (some g)):gi B ah cl d0 cN d1 bk d2 bo d3 cn d4 rs qs ws ad os:=
 ⟨h.kp.kept ck (fun k ax e=>h.kp.pf aE (by decide) k ax (Option.some.inj e)),h.hO.kept ck (fun k ax e=>h.hO.pf aE (by decide) k ax (Option.some.inj e)),h.fg.kept ck (fun k ax e=>h.fg.pf aE (by decide) k ax (Option.some.inj e)),h.fF.kept ck (fun k ax e=>h.fF.pf aE (by decide) k ax (Option.some.inj e)),h.lE.kept ck (fun k ax e=>h.lE.pf aE (by decide) k ax (Option.some.inj e))⟩
theorem abp {p:Prop} (h:p:=by
 rw [hm] at H
 exact H.mono fun e ah ⟨he,aE⟩=>⟨[],[],0,0,0,[],[],[],none,0,none,0,none,0,none,0,none,0,false,he,J (by simp),amR,aE⟩):p:=h
theorem adS {p:Prop} (h:p:=by
 rw [hm] at H
 obtain⟨dn,dB,dO,dN,dG,bX,cc,dm⟩:=n
 exact H.mono fun e ah ⟨cl,d0,cN,d1,bk,d2,bo,d3,cn,d4,he,bR,aE⟩=>⟨dn,dB,dO,dN,dG,bX,cc,dm,cl,d0,cN,d1,bk,d2,bo,d3,cn,d4,true,he,J (by simp),bR,aE⟩):p:=h
theorem ali (an ar ak al aA:Option Addr) (c0 au c2 c3 c4:Nat) (rs:List aM) (qs:List aN) (ag af sp:Int) (ws:List Int) (ad:List aK) (os:List Out) (Z:ed an ar ak al aA c0 au c2 c3 c4 rs qs ws ad os) (kind mem val yes no bB:Int) (h:gP ⟨rs,qs,ag,af,sp,ws,ad,os⟩) (w:World) (R:dL w an ar ak al aA rs qs ws ad os):
 Calls Tryz.prog 103 #[.agg #[.slice an rs c0,.slice ar qs au,ag,af,sp,.slice ak ws c2,.slice al ad c3,.slice aA os c4],.agg #[kind,mem,val,yes,no,bB]] w fun e ah=>∃(dn:List aM) (dB:List aN) (dO dN dG:Int) (bX:List Int) (cc:List aK) (dm:List Out) (cI:Option Addr) (e0:Nat) (cC:Option Addr) (e1:Nat) (cV:Option Addr) (e2:Nat) (cW:Option Addr) (e3:Nat) (cL:Option Addr) (e4:Nat) (b:Bool),e= .returned (.tuple #[.agg #[.slice cI dn e0,.slice cC dB e1,dO,dN,dG,.slice cV bX e2,.slice cW cc e3,.slice cL dm e4],b])∧Hid (gE ⟨rs,qs,ag,af,sp,ws,ad,os⟩ ⟨kind,mem,val,yes,no,bB⟩ =if b= true then some ⟨dn,dB,dO,dN,dG,bX,cc,dm⟩ else none)∧gi w ah cI e0 cC e1 cV e2 cW e3 cL e4 dn dB bX cc dm∧Below w w ah:=by
 have H:=akW an ar ak al aA c0 au c2 c3 c4 rs qs ag af sp ws ad os Z kind mem val yes no bB h w R
 cases hm:gE ⟨rs,qs,ag,af,sp,ws,ad,os⟩ ⟨kind,mem,val,yes,no,bB⟩ with
 | none=>
  exact abp
 | some n=>
  exact adS
theorem XT {m n:cF} {a:ou} (h:gP m) (hm:gE m a= some n):-999999≤n.dH∧n.dH≤999999:=by
 have H:=lg.1 (Kc h hm).gz
 rcases H.p with h0 | h1
 ·have:n.dH= 0:=h0
  omega
 ·have:=rH.1 h1
  have e:(cF.gz n).sp= n.dH:=rfl
  omega
theorem XS {m n:cF} {a:ou} (hm:gE m a= some n) (ax:a.kind= 7):0 < n.bt.length:=by
 have e:pk m a= some n:=by
  unfold gE at hm
  rw [if_neg (by omega),if_neg (by omega),if_pos ax] at hm
  split at hm
  ·exact hm
  ·cases hm
 obtain⟨ps,q,_,_,_,rfl⟩:=KV e
 simp [cF.DE]
theorem ahk {m:cF} {v:ByteArray} {r:List ByteArray} (h:mf (eG v)= none):ns m (v ::r)= none:=by rw [ns,h]
theorem ahm {m:cF} {v p:ByteArray} {r:List ByteArray} (h:mf (eG v)= some p) (bz:lp m.bx p r= none):ns m (v ::r)= none:=by simp only [ns,h,bz]
theorem Ud {m:cF} {v p:ByteArray} {r:List ByteArray} {l:List Int} (h:mf (eG v)= some p) (bz:lp m.bx p r= some l) (cX:sg (eG v) l= none):ns m (v ::r)= (jL m (eG v) l).map (fun s=>(m,s)):=by simp only [ns,h,bz,cX]
theorem Uc {m:cF} {v p:ByteArray} {r:List ByteArray} {l:List Int} {a:ou} (h:mf (eG v)= some p) (bz:lp m.bx p r= some l) (cX:sg (eG v) l= some a):ns m (v ::r)= (gE m a).map (fun n=>(n,pQ n a.kind)):=by simp only [ns,h,bz,cX]
theorem aof {rs:List aM} {p:ByteArray} {r:List ByteArray} {l:List Int} (h:lp rs p r= some l):l.length= p.size:=by
 unfold lp at h
 split at h
 ·rename_i he;rw [Qa h,he]
 ·cases h
theorem abL {p:Prop} (h:p:=by
 clear v0 v1 v2 v3 v4 v5 v6 lU
 obtain⟨v0,v1,v2,v3,v4,v5,v6,lU⟩:=eO.aI
 have ank:=ni.cH eO;have anl:=lK.cH eO;have anm:=jJ.cH eO;have ann:=jK.cH eO;have ano:=ld.cH eO;have atc:=eO.jb;have auL:=eO.lt
 refine Qj 10 [11] #[true,true,true,true,true,true,true,true,true,true,true,true] (by kernel_rfl) ((db.out _).2 I) (fun K gg=>?_)
 change wpList _ _ _ (_ ::[]) _ _
 go_wp2
 clear v0 v1 v2 v3 v4 v5 v6 lU
 refine iE 0 fun aaq yl=>?_
 replace I:=yl.aG I;replace eO:=yl.ja eO;have atu:=yl.fG;have auD:=yl.sz;replace ni:=ni.bY yl ank;replace lK:=lK.bY yl anl;replace jJ:=jJ.bY yl anm;replace jK:=jK.bY yl ann;replace ld:=ld.bY yl ano
 obtain⟨v0,v1,v2,v3,v4,v5,v6,lU⟩:=eO.aI
 refine⟨rfl,(db.out _).2 I,?_⟩
 change wpQuiet _ _ _ _ (_ ::[]) _
 repeat (go_big_quiet_step (fail))
 refine wpQuiet_nil ?_
 refine gg _ _ ?_
 clear gg K
 refine aoG (by kernel_rfl) ((db.out _).2 I) ?_
 go_wp2_with fail
 go_meet
 exact⟨cH,b,dn,dB,dO,dN,dG,bX,cc,dm,cI,e0,cC,e1,cV,e2,cW,e3,cL,e4,rfl,rfl,OC,yt,eO,⟨ni,lK,jJ,jK,ld⟩,I⟩):p:=h
theorem ahn (B p:Nat) (an ar ak al aA:Option Addr) (c0 au c2 c3 c4:Nat) (rs:List aM) (qs:List aN) (ag af sp:Int) (ws:List Int) (ad:List aK) (os:List Out) (ct cu:ByteArray) (cr:Int) (h:gP ⟨rs,qs,ag,af,sp,ws,ad,os⟩) (l:ByteArray) (aT:l.size≤160) (w:World) (Nn:B≤p) (nV:B≤w.heap.size) (aO:aC w p 46 #[.slice an rs c0,.slice ar qs au,ag,af,sp,.slice ak ws c2,.slice al ad c3,.slice aA os c4,ct,cu,cr]) (bR:gi B w an c0 ar au ak c2 al c3 aA c4 rs qs ws ad os) (bP:∀W,w.grownBy W (some p)→ov W):
  Calls Tryz.prog 56 #[.pointer (some ⟨p,0,none⟩),l] w fun e ah=>∃(dn:List aM) (dB:List aN) (dO dN dG:Int) (bX:List Int) (cc:List aK) (dm:List Out) (cI:Option Addr) (e0:Nat) (cC:Option Addr) (e1:Nat) (cV:Option Addr) (e2:Nat) (cW:Option Addr) (e3:Nat) (cL:Option Addr) (e4:Nat) (x:ByteArray) (b:Bool),e= .returned (.tuple #[x,.bool b])∧Hid (ns ⟨rs,qs,ag,af,sp,ws,ad,os⟩ (gO 32 l)= if b= true then some (⟨dn,dB,dO,dN,dG,bX,cc,dm⟩,x) else none)∧Hid (b= false→(⟨dn,dB,dO,dN,dG,bX,cc,dm⟩ :cF)=⟨rs,qs,ag,af,sp,ws,ad,os⟩)∧aC ah p 46 #[.slice cI dn e0,.slice cC dB e1,dO,dN,dG,.slice cV bX e2,.slice cW cc e3,.slice cL dm e4,ct,cu,cr]∧gi B ah cI e0 cC e1 cV e2 cW e3 cL e4 dn dB bX cc dm∧w.grownBy ah (some p):=by
  have ju:=tv h
  simp only at ju
  obtain⟨m0,m1,m2,m3,m4⟩:=ju
  have cB:=J (bR.JQ (by omega) (by omega) (by omega) (by omega) (by omega));have iu:=J h;have lX:=J (fun W (h:wW W)=>Pj l 32 (by omega) W h);have GJ:=ZR 32 l;have yz:=J (show∀x ∈ gO 32 l,x.size≤1000 from fun x ay=>by have:=KK ay;omega);have Wt:=KL 32 l
  generalize gO 32 l= vs at *
  obtain⟨v0,vt,rfl⟩ :∃v0 vt,vs= v0 ::vt:=by
    cases vs with
    | nil=>exact absurd rfl Wt
    | cons a b=>exact⟨a,b,rfl⟩
  have ajX:vt.length≤160:=by simp only [List.length_cons] at GJ;omega
  obtain⟨op,hop⟩ :∃o,mf (eG v0)= o:=⟨_,rfl⟩
  have En:=fun W=>anR v0 W
  rw [hop] at En
  have vM:=J hop;have BN:=J bP;have hb:=J aO;have jI:=J bR;have eu:=J bR.rd;have OI:=aO.lt;clear GJ Wt hop h bP aO bR
  go_in
  go_wp2_with fail
  refine (lX.out _ (BN.out w (qe _ _)).m).mono ?_
  rintro e bg ⟨Mt,wn,rfl,oS,I⟩
  obtain⟨my,aaz,Fs⟩:=Di oS (by simp)
  injection Fs with Ft _ Fu
  subst Ft
  subst Fu
  have sv:=rP oS jM
  simp only [List.length_cons] at sv
  have g0:=qm oS jM (j:=0) (x:=v0) rfl (i:=0) (u:= .string v0) rfl
  simp only [Nat.zero_mul,Nat.add_zero] at g0
  have uM:=(oS.lt my rfl).2;have bD:=J oS;clear oS;have gh:=J (eu.out.U I)
  cases op with
  | none=>
    have BI:=J En;clear En
    simp only [Option.getD_none,Option.isSome_none] at BI
    go_wp2_with fail
    refine (BI.out _).mono ?_
    rintro e QR ⟨rfl,cb⟩
    rw [cb]
    clear cb QR
    go_wp2
    go_ret2
    exact⟨rs,qs,ag,af,sp,ws,ad,os,an,c0,ar,au,ak,c2,al,c3,aA,c4,⟨#[]⟩,false,rfl,J (ahk vM.out),J (fun _=>rfl),hb.out.U I hb.out.lt,jI.out.bh I,lz I _⟩
  | some pt=>
    have BI:=J En;clear En
    simp only [Option.getD_some,Option.isSome_some] at BI
    go_wp2_with fail
    refine (BI.out _).mono ?_
    rintro e QR ⟨rfl,cb⟩
    rw [cb]
    clear cb QR
    go_upto_region 5 with fail
    go_cut [9,10] (fun v9 v10 W=>∃(li:List Int) (sK:Bool) (yA:Option Addr) (AT:Nat),v9= .slice yA li AT∧v10= .bool sK∧Hid (lp rs pt vt= if sK= true then some li else none)∧aX bg 3 1 bU W (.slice yA li AT) li∧Below bg bg W)
    case first=>
      have yx:Hid (∀W,Below bg bg W→(wn= 1→aJ 1 hj W (some ⟨my,0,none⟩) vt)∧aJ 1 hj W (some ⟨my,1,none⟩) vt):=J (fun W bK=>⟨fun e=>by
        have:vt= []:=List.length_eq_zero_iff.1 (by omega)
        rw [this];exact aJ.nil,by
        have h:=HB (bD.out.bh bK).fk 1
        simpa using h⟩)
      obtain⟨eL,gB⟩ :∃X:World→Prop,∀V,X V↔Below bg bg V:=⟨_,fun _=>Iff.rfl⟩
      have db:=J gB;clear gB
      haveI:Nonempty (cP eL):=⟨⟨bg,(db.out _).2 (Below.refl _ _)⟩⟩
      have Su:=J (hb.out.U I hb.out.lt)
      have dj:=fun K:cP eL=>((Su.out.U ((db.out _).1 K.holds) Su.out.lt).cell 0).trans (show _= some (.slice an rs c0) from rfl)
      clear g0 uM bD
      by_cases sC:wn= 1
      case' pos=>
        subst sC
        obtain rfl:vt= []:=List.length_eq_zero_iff.1 (by omega)
        clear sv ajX
      all_goals
        refine oP eL [([0,1,2,3,4,5,6,7],8)] [9,10,11,12,13] (by kernel_rfl) (by kernel_rfl) ((db.out _).2 (Below.refl _ _).drew) ?_
        have gL:Below bg bg bg.drew:=(Below.refl _ _).drew
        generalize bg.drew= wd at *
        refine gZ fun gr dX=>?_
        change wpQuiet _ _ _ _ (_ ::_ ::_ ::_ ::_ ::_ ::_ ::_ ::[]) _
        repeat (go_big_quiet_step (fail))
        refine wpQuiet_nil ?_
        change wpList _ _ _ (_ ::[]) _ _
        go_wp2_with fail
        first
          | refine (YQ an c0 rs (by omega) cB.out.dP (nd iu.out.ho).1 pt _ _ vt (by first | omega | simp) (fun x ay=>yz.out x (by simp [ay])) wd (gh.out.ft.U gL) (yx.out wd gL).2 (BN.out wd (lz (ai I gL) _))).mono ?_
          | refine (YQ an c0 rs (by omega) cB.out.dP (nd iu.out.ho).1 pt _ _ [] (by first | omega | simp) (fun x ay=>yz.out x (by simp [ay])) wd (gh.out.ft.U gL) ((yx.out wd gL).1 (by first | trivial | rfl)) (BN.out wd (lz (ai I gL) _))).mono ?_
        rintro e aQ ⟨li,sK,yA,AT,rfl,nA,nC,aP⟩
        have mS:=ai gL aP;have qp:=J (nC.base (B':=bg.heap.size) gL.size);clear nC
        go_wp2
        refine hh ((db.out _).2 mS) (dX _ _ ?_)
        refine mg ?_
        change wpQuiet _ _ _ _ (_ ::_ ::_ ::_ ::_ ::[]) _
        repeat (go_big_quiet_step (fail))
        refine wpQuiet_nil ?_
        go_wp2_with fail
        go_meet
        exact⟨li,sK,yA,AT,rfl,rfl,nA,qp.out,mS⟩
    case rest=>
     obtain⟨li,sK,yA,AT,rfl,rfl,nA,nC,mS⟩:=hcut
     generalize wc= aQ at *
     have qp:=J nC;clear nC;have bp:=ai I mS;replace g0:=(mS.cell (p:=⟨my,0,none⟩) uM).trans g0;replace uM:my < aQ.heap.size:=Nat.lt_of_lt_of_le uM mS.size;have Sv:=J (hb.out.U bp hb.out.lt);have hs:=J (jI.out.bh bp);have ea:=J (eu.out.U bp);clear I mS gh bD
     cases sK
     · have hn:lp rs pt vt= none:=by simpa using nA.out
       have wU:=J hn;clear hn
       go_wp2
       go_ret2
       exact⟨rs,qs,ag,af,sp,ws,ad,os,an,c0,ar,au,ak,c2,al,c3,aA,c4,⟨#[]⟩,false,rfl,J (ahm vM.out wU.out),J (fun _=>rfl),Sv.out,hs.out,lz bp _⟩
     have JC:lp rs pt vt= some li:=by simpa using nA.out
     have yY:=aof JC;have BK:=J JC;clear JC nA
     have DU:=fun W (h:aJ 1 bU W yA li)=>afx v0 yA AT li (fun q bf=>by rw [vM.out] at bf;cases bf;exact yY) W h
     obtain⟨PI,OD⟩ :∃o,sg (eG v0) li= o:=⟨_,rfl⟩
     rw [OD] at DU
     have Ef:=J OD;have BE:=J yY;clear OD yY
     cases PI with
     | none=>
       have sR:=J DU;clear DU
       simp only [Mv,Option.isSome_none] at sR
       go_wp2_with fail
       refine (sR.out _ (qp.out.fk (hf:=fZ))).mono ?_
       rintro e bA ⟨rfl,bC⟩
       go_upto_region 10 with fail
       have Am:=bC.alloc bC.size (.cells #[(0:Int),(0:Int),(0:Int),(0:Int),(0:Int),(0:Int)] 148)
       generalize bA.alloc (.cells #[(0:Int),(0:Int),(0:Int),(0:Int),(0:Int),(0:Int)] 148)= hF at *
       have uw:=ai bp Am;replace g0:=(Am.cell (p:=⟨my,0,none⟩) uM).trans g0;have ajc:my < hF.heap.size:=Nat.lt_of_lt_of_le uM Am.size;have aeT:=J (qp.out.bh Am)
       obtain⟨eL,gB⟩ :∃X:World→Prop,∀V,X V↔Below hF hF V:=⟨_,fun _=>Iff.rfl⟩
       have db:=J gB;clear gB
       haveI:Nonempty (cP eL):=⟨⟨hF,(db.out _).2 (Below.refl _ _)⟩⟩
       have Ev:=J (hb.out.U uw hb.out.lt);have asp:=J (jI.out.bh uw);have It:=J (eu.out.U uw)
       obtain⟨dj,dY,dV,er,eA,fJ,fK,fL,fM,fN,fI⟩:=aC.ru (fun K:cP eL=>Ev.out.U ((db.out _).1 K.holds) Ev.out.lt)
       have kK:=fun K:cP eL=>(((db.out _).1 K.holds).cell (p:=⟨my,0,none⟩) ajc).trans g0
       clear g0
       refine oP eL [([0,1,2,3,4,5,6,7],8)] [9,10,11,12] (by kernel_rfl) (by kernel_rfl) ((db.out _).2 (Below.refl _ _).drew) ?_
       have gL:Below hF hF hF.drew:=(Below.refl _ _).drew
       generalize hF.drew= aat at *
       refine gZ fun gr dX=>?_
       change wpQuiet _ _ _ _ (_ ::_ ::_ ::_ ::_ ::_ ::_ ::_ ::[]) _
       repeat (go_big_quiet_step (fail))
       refine wpQuiet_nil ?_
       change wpList _ _ _ (_ ::[]) _ _
       go_wp2_with fail
       refine (afV an ar ak al aA c0 au c2 c3 c4 rs qs ag af sp ws ad os cB.out iu.out v0 pt vM.out yA AT li BE.out Ef.out aat (It.out.U gL) (aeT.out.bh gL).fk (BN.out aat (lz (ai uw gL) _))).mono ?_
       rintro e dE ⟨x,rfl,ay,ek⟩
       have wR:=ai gL ek;have afk:=J ay;clear ay
       go_wp2
       refine hh ((db.out _).2 wR) (dX _ _ ?_)
       refine mg ?_
       change wpQuiet _ _ _ _ (_ ::_ ::_ ::_ ::[]) _
       repeat (go_big_quiet_step (fail))
       refine wpQuiet_nil ?_
       have Cp:=ai uw wR;clear dj dY dV er eA fJ fK fL fM fN fI kK db this
       cases bf:jL ⟨rs,qs,ag,af,sp,ws,ad,os⟩ (eG v0) li with
       | none=>
         have dc:=J bf;clear bf
         go_wp2
         go_ret2
         exact⟨rs,qs,ag,af,sp,ws,ad,os,an,c0,ar,au,ak,c2,al,c3,aA,c4,x,false,rfl,J (by rw [Ud vM.out BK.out Ef.out,dc.out];rfl),J (fun _=>rfl),hb.out.U Cp hb.out.lt,jI.out.bh Cp,lz Cp _⟩
       | some y=>
         have e:=afk.out y bf;have dc:=J bf;clear bf
         go_wp2
         go_ret2
         exact⟨rs,qs,ag,af,sp,ws,ad,os,an,c0,ar,au,ak,c2,al,c3,aA,c4,x,true,rfl,J (by rw [Ud vM.out BK.out Ef.out,dc.out,e];rfl),J (fun _=>rfl),hb.out.U Cp hb.out.lt,jI.out.bh Cp,lz Cp _⟩
     | some a=>
       obtain⟨kind,mem,val,yes,no,bB⟩:=a
       have sR:=J DU;clear DU
       simp only [Mv,Option.isSome_some] at sR
       go_wp2_with fail
       refine (sR.out _ (qp.out.fk (hf:=fZ))).mono ?_
       rintro e bA ⟨rfl,bC⟩
       go_upto_region 11 with fail
       obtain⟨ab,FW⟩ :∃b,b= bA.heap.size:=⟨_,rfl⟩
       have Am:=bC.alloc bC.size (.cells #[kind,mem,val,yes,no,bB] 148);have Nk:=aC.new bA 148 #[kind,mem,val,yes,no,bB]
       rw [← FW] at Nk
       generalize bA.alloc (.cells #[kind,mem,val,yes,no,bB] 148)= hF at *
       rw [← FW]
       have uw:=ai bp Am
       have aiv:w.heap.size≤ab:=by have:=bp.size;have:=bC.size;omega
       clear FW g0 uM;have Ev:=J (hb.out.U uw hb.out.lt);have It:=J (eu.out.U uw);have Ib:=J Nk
       go_cut [13,14] (fun arH arI W=>∃(cH:Nat) (b:Bool) (dn:List aM) (dB:List aN) (dO dN dG:Int) (bX:List Int) (cc:List aK) (dm:List Out) (cI:Option Addr) (e0:Nat) (cC:Option Addr) (e1:Nat) (cV:Option Addr) (e2:Nat) (cW:Option Addr) (e3:Nat) (cL:Option Addr) (e4:Nat),arH= .pointer (some ⟨cH,0,none⟩)∧arI= .bool b∧hF.heap.size≤cH∧Hid (gE ⟨rs,qs,ag,af,sp,ws,ad,os⟩ ⟨kind,mem,val,yes,no,bB⟩ =if b= true then some ⟨dn,dB,dO,dN,dG,bX,cc,dm⟩ else none)∧aC W cH 44 #[.slice cI dn e0,.slice cC dB e1,dO,dN,dG,.slice cV bX e2,.slice cW cc e3,.slice cL dm e4]∧gi hF W cI e0 cC e1 cV e2 cW e3 cL e4 dn dB bX cc dm∧Below hF hF W)
       case first=>
         have RP:=J (fun W (h:dL W an ar ak al aA rs qs ws ad os)=>ali an ar ak al aA c0 au c2 c3 c4 rs qs ag af sp ws ad os cB.out kind mem val yes no bB iu.out W h);have Sk:=It;clear hb jI eu BN Sv hs ea bp bC Am uw aiv qp Nk lX sR BI It nV OI
         generalize hF= w at *
         obtain⟨eL,gB⟩ :∃X:World→Prop,∀V,X V↔Below w w V:=⟨_,fun _=>Iff.rfl⟩
         have db:=J gB;clear gB
         haveI:Nonempty (cP eL):=⟨⟨w,(db.out _).2 (Below.refl _ _)⟩⟩
         refine asd eL [0,1,2,3,4] #[true,true,true,true,true,false,false,false,false,false,false,false] (by kernel_rfl) (by kernel_rfl) ((db.out _).2 (Below.refl _ _).drew) (fun K gg=>?_)
         obtain⟨dj,dY,dV,er,eA,fJ,fK,fL,fM,fN,fI⟩:=aC.ru (fun K:cP eL=>Ev.out.U ((db.out _).1 K.holds) Ev.out.lt)
         obtain⟨a0,a1,a2,a3,a4,a5⟩:=aC.MH (fun K:cP eL=>Ib.out.U ((db.out _).1 K.holds) Ib.out.lt)
         change wpQuiet _ _ _ _ (_ ::_ ::_ ::_ ::_ ::[]) _
         repeat (go_big_quiet_step (fail))
         refine wpQuiet_nil ?_
         refine gg _ _ ?_
         have I:Below w w w.drew:=(Below.refl _ _).drew;clear gg K dj dY dV er eA fJ fK fL fM fN fI a0 a1 a2 a3 a4 a5
         generalize w.drew= wd at *
         refine aoH 5 [6,7,8] #[true,true,true,true,true,true,true,true,true,false,false,false] 9 [] #[true,true,true,true,true,false,false,false,false,true,false,false] (by kernel_rfl) ((db.out _).2 I) (fun K gg=>?_) (fun K gg=>?_)
         · skip
           change wpList _ _ _ (_ ::[]) _ _
           have wG:=I.size
           go_wp2_with fail
           refine (RP.out _ (Sk.out.U (ai I aw))).mono ?_
           rintro e bg ⟨dn,dB,dO,dN,dG,bX,cc,dm,cI,e0,cC,e1,cV,e2,cW,e3,cL,e4,b,rfl,yt,fB,bE⟩
           have av:=be wd bE;replace I:=ai I av;replace fB:=fB.base (B':=w.heap.size) (by omega);have ni:=fB.kp;have lK:=fB.hO;have jJ:=fB.fg;have jK:=fB.fF;have ld:=fB.lE;clear fB wG
           go_wp2
           refine⟨rfl,(db.out _).2 I,?_⟩
           change wpQuiet _ _ _ _ (_ ::_ ::_ ::[]) _
           repeat (go_big_quiet_step (fail))
           refine wpQuiet_nil ?_
           refine gg _ _ ?_
           clear gg K
           refine Qj 9 [] #[true,true,true,true,true,true,true,true,true,true,false,false] (by kernel_rfl) ((db.out _).2 I) (fun K gg=>?_)
           change wpList _ _ _ (_ ::[]) _ _
           obtain⟨cH,mF⟩ :∃b,b= bg.heap.size:=⟨_,rfl⟩
           have OC:w.heap.size≤cH:=by have:=I.size;omega
           go_wp2
           refine cR fun ng ao eO=>?_
           replace ni:=ni.bh ao;replace lK:=lK.bh ao;replace jJ:=jJ.bh ao;replace jK:=jK.bh ao;replace ld:=ld.bh ao;replace I:=ai I ao
           obtain⟨v0,v1,v2,v3,v4,v5,v6,lU⟩:=eO.aI
           rw [← mF] at eO v0 v1 v2 v3 v4 v5 v6 lU
           rw [← mF]
           clear mF v0 v1 v2 v3 v4 v5 v6 lU
           obtain⟨v0,v1,v2,v3,v4,v5,v6,lU⟩:=eO.aI
           refine⟨rfl,(db.out _).2 I,?_⟩
           change wpQuiet _ _ _ _ ([]) _
           refine wpQuiet_nil ?_
           refine gg _ _ ?_
           clear gg K
           generalize ng= arO at *
           exact abL
         · skip
           change wpList _ _ _ (_ ::[]) _ _
           obtain⟨cH,mF⟩ :∃b,b= wd.heap.size:=⟨_,rfl⟩
           have OC:w.heap.size≤cH:=by have:=I.size;omega
           go_wp2
           refine cR fun ng av eO=>?_
           replace I:=ai I av
           obtain⟨v0,v1,v2,v3,v4,v5,v6,lU⟩:=eO.aI
           rw [← mF] at eO v0 v1 v2 v3 v4 v5 v6 lU
           rw [← mF]
           clear mF v0 v1 v2 v3 v4 v5 v6 lU
           obtain⟨v0,v1,v2,v3,v4,v5,v6,lU⟩:=eO.aI
           refine⟨rfl,(db.out _).2 I,?_⟩
           change wpQuiet _ _ _ _ ([]) _
           refine wpQuiet_nil ?_
           refine gg _ _ ?_
           clear gg K
           refine Qj 5 [6,7,8] #[true,true,true,true,true,true,true,true,true,true,false,false] (by kernel_rfl) ((db.out _).2 I) (fun K gg=>?_)
           change wpList _ _ _ (_ ::[]) _ _
           have wG:=I.size
           go_wp2_with fail
           refine (RP.out _ (Sk.out.U (ai I aw))).mono ?_
           rintro e aQ ⟨dn,dB,dO,dN,dG,bX,cc,dm,cI,e0,cC,e1,cV,e2,cW,e3,cL,e4,b,rfl,yt,fB,aP⟩
           have ao:=be ng aP;replace I:=ai I ao;replace eO:=eO.to ao;clear v0 v1 v2 v3 v4 v5 v6 lU
           obtain⟨v0,v1,v2,v3,v4,v5,v6,lU⟩:=eO.aI
           replace fB:=fB.base (B':=w.heap.size) (by omega);have ni:=fB.kp;have lK:=fB.hO;have jJ:=fB.fg;have jK:=fB.fF;have ld:=fB.lE;clear fB wG
           go_wp2
           refine⟨rfl,(db.out _).2 I,?_⟩
           change wpQuiet _ _ _ _ (_ ::_ ::_ ::[]) _
           repeat (go_big_quiet_step (fail))
           refine wpQuiet_nil ?_
           refine gg _ _ ?_
           clear gg K
           generalize aQ= arO at *
           exact abL
       case rest=>
         obtain⟨cH,b,dn,dB,dO,dN,dG,bX,cc,dm,cI,e0,cC,e1,cV,e2,cW,e3,cL,e4,rfl,rfl,OC,yt,eO,fB,Uw⟩:=hcut
         generalize wc= aaq at *
         have FF:=ai uw Uw
         cases b
         · have lj:gE ⟨rs,qs,ag,af,sp,ws,ad,os⟩ ⟨kind,mem,val,yes,no,bB⟩ =none:=by simpa using yt.out
           have vK:=J lj;clear lj
           go_wp2
           go_ret2
           exact⟨rs,qs,ag,af,sp,ws,ad,os,an,c0,ar,au,ak,c2,al,c3,aA,c4,⟨#[]⟩,false,rfl,J (by rw [Uc vM.out BK.out Ef.out,vK.out];rfl),J (fun _=>rfl),hb.out.U FF hb.out.lt,jI.out.bh FF,lz FF _⟩
         · have lj:gE ⟨rs,qs,ag,af,sp,ws,ad,os⟩ ⟨kind,mem,val,yes,no,bB⟩ =some ⟨dn,dB,dO,dN,dG,bX,cc,dm⟩:=by simpa using yt.out
           have vK:=J lj;clear lj;have FQ:=hb.out.U FF hb.out.lt;have Nl:=Ib.out.U Uw Ib.out.lt;have auh:=uw.size
           have ajy:cH≠p:=by omega
           have js:ab≠p:=by omega
           have Sw:=J FQ;have afp:=J (fB.base (B':=B) (by omega));have Vc:=FQ.lt;have aih:=eO.lt;have ahT:=Nl.lt;have oh:=eO.aI;have Fy:=FQ.jb;have ase:=FQ.bQ;clear fB
           go_upto_region 15 with fail
           clear oh Fy ase
           refine iE 0 fun cQ aD=>?_
           have ec:=aD.PT Sw.out;have Nt:=aD.dJ eO ajy;have hA9:=aD.dJ Nl js;have Mj:=afp.out.gw Sw.out aD.fG;have UJ:=pC (lz FF (some p)) aD.fG
           have n9:=Nt.aI;have a9:=hA9.df;have atC:=Nt.lt;have atz:=hA9.lt;have sU:=J ec;have zW:=J Mj;have wS:=J UJ;have afa:=J Mj.rd.lF;have tq:=(tv (Kc iu.out vK.out)).2.2.2.2
           simp only at tq
           clear FQ Nl eO ec Nt hA9 Mj UJ aD Vc aih ahT
           go_wp2_with fail
           refine (afA dn dB dO dN dG bX cc dm cI e0 cC e1 cV e2 cW e3 cL e4 ⟨kind,mem,val,yes,no,bB⟩ (XT iu.out vK.out) (fun ax=>XS vK.out ax) (by omega) cQ afa.out (BN.out cQ wS.out).t).mono ?_
           rintro e HL ⟨rfl,Ga⟩
           go_wp2
           go_ret2
           exact⟨dn,dB,dO,dN,dG,bX,cc,dm,cI,e0,cC,e1,cV,e2,cW,e3,cL,e4,_,true,rfl,J (by rw [Uc vM.out BK.out Ef.out,vK.out];rfl),J (fun e=>by cases e),sU.out.U Ga sU.out.lt,zW.out.bh Ga,pC wS.out (lz Ga _)⟩
open Go.RowKit Go.G9
theorem hE {w:World} {g:Nat} {Q:World→Prop} (k:Nat) {a0 a1 a2 a3 a4 a5 a6 a7 a8 a9 a10:Value} (h:∀W,dA w g k [a0,a1,a2,a3,a4,a5,a6,a7,a8,a9,a10] W→Q W):Q (World.setCell (World.setCell (World.setCell (World.setCell (World.setCell (World.setCell (World.setCell (World.setCell (World.setCell (World.setCell (World.setCell w ⟨g,k,none⟩ a0) ⟨g,k + 1,none⟩ a1) ⟨g,k + 2,none⟩ a2) ⟨g,k + 3,none⟩ a3) ⟨g,k + 4,none⟩ a4) ⟨g,k + 5,none⟩ a5) ⟨g,k + 6,none⟩ a6) ⟨g,k + 7,none⟩ a7) ⟨g,k + 8,none⟩ a8) ⟨g,k + 9,none⟩ a9) ⟨g,k + 10,none⟩ a10):=h _ (dA.cons (dA.cons (dA.cons (dA.cons (dA.cons (dA.cons (dA.cons (dA.cons (dA.cons (dA.cons (dA.cons dA.nil)))))))))))
theorem Kj (an ar ak al aA:Option Addr) (c0 au c2 c3 c4:Nat) (rs:List aM) (qs:List aN) (ag af sp:Int) (ws:List Int) (ad:List aK) (os:List Out) (ct cu:ByteArray) (cr:Int) (Z:ed an ar ak al aA c0 au c2 c3 c4 rs qs ws ad os) (w:World) (R:dL w an ar ak al aA rs qs ws ad os):
 Calls Tryz.prog 54 #[.agg #[.slice an rs c0,.slice ar qs au,ag,af,sp,.slice ak ws c2,.slice al ad c3,.slice aA os c4,ct,cu,cr]] w fun e ah=>∃(cl:Option Addr) (d0:Nat) (cN:Option Addr) (d1:Nat) (bk:Option Addr) (d2:Nat) (bo:Option Addr) (d3:Nat) (cn:Option Addr) (d4:Nat),e= .returned (.agg #[.slice cl rs d0,.slice cN qs d1,ag,af,sp,.slice bk ws d2,.slice bo ad d3,.slice cn os d4,ct,cu,cr])∧gi w ah cl d0 cN d1 bk d2 bo d3 cn d4 rs qs ws ad os∧Below w w ah:=by
 have cB:=J Z;clear Z
 go_in
 go_upto_region 1 with fail
 refine fp fun aH av aO ae=>?_
 replace R:=R.U av;have I:=av;have bG:=aO.bQ;obtain⟨z0,ch,z2,z3,z4,z5,fl,iH,iQ,z9,iP⟩:=ae.bQ
 have bL:=J R;clear R;clear bG z0 ch z2 z3 z4 z5 fl iH iQ z9 iP
 obtain⟨eL,gB⟩ :∃X:World→Prop,∀V,X V↔aC V w.heap.size 46 #[.slice an rs c0,.slice ar qs au,ag,af,sp,.slice ak ws c2,.slice al ad c3,.slice aA os c4,ct,cu,cr]:=⟨_,fun _=>Iff.rfl⟩
 have db:=J gB;clear gB
 haveI:Nonempty (cP eL):=⟨⟨aH,(db.out _).2 aO⟩⟩
 refine oP eL [([0,1,3,4],2),([5],6)] [] (by kernel_rfl) (by kernel_rfl) ((db.out _).2 aO) ?_
 have bG:=aC.ru (fun K:cP eL=>(db.out _).1 K.holds);have gL:Below w w aH.drew:=ai I (Below.refl _ _).drew;have LS:=J (bL.out.U (Below.refl _ _).drew);have nX:aC aH.drew w.heap.size 46 #[.slice an rs c0,.slice ar qs au,ag,af,sp,.slice ak ws c2,.slice al ad c3,.slice aA os c4,ct,cu,cr]:=aO
 have NN:aC aH.drew (w.heap.size + 1) 46 #[.slice none 0 0,.slice none 0 0,(0:Int),(0:Int),(0:Int),.slice none 0 0,.slice none 0 0,.slice none 0 0,.string ⟨#[]⟩,.string ⟨#[]⟩,(0:Int)]:=ae;clear aO ae
 generalize aH.drew= wd at *
 refine gZ fun gr dX=>?_
 change wpQuiet _ _ _ _ (_ ::_ ::_ ::_ ::[]) _
 repeat (go_big_quiet_step (fail))
 refine wpQuiet_nil ?_
 change wpList _ _ _ (_ ::[]) _ _
 go_wp2_with fail
 refine (Kk an ar ak al aA c0 au c2 c3 c4 rs qs ag af sp ws ad os cB.out wd LS.out).mono ?_
 rintro e aQ ⟨cl,d0,cN,d1,bk,d2,bo,d3,cn,d4,rfl,gQ,aP⟩
 have jr:=nX.to aP;have tk:=NN.to aP;have mS:=ai gL aP;have NZ:=gL.size;have ky:=J (gQ.base (B':=w.heap.size) NZ);clear gQ
 go_wp2
 refine hh ((db.out _).2 jr) (dX _ _ ?_)
 refine gZ fun gr dX=>?_
 change wpQuiet _ _ _ _ (_ ::[]) _
 repeat (go_big_quiet_step (fail))
 refine wpQuiet_nil ?_
 change wpList _ _ _ (_ ::[]) _ _
 have Ew:=J tk;have aq:=tk.bQ;have eM:=tk.gS;clear tk
 go_wp2
 clear aq eM
 refine hE 0 fun cQ aD=>?_
 have ec:=aD.dJ jr;have bT:=aD.hV Ew.out;have fE:=ky.out.gw Ew.out aD.fG;have eE:=aD.aG mS
 refine hh ((db.out _).2 ec) (dX _ _ ?_)
 refine mg ?_
 change wpQuiet _ _ _ _ ([]) _
 refine wpQuiet_nil ?_
 clear bG
 have z0:=bT.bQ
 go_wp2
 exact hc ⟨cl,d0,cN,d1,bk,d2,bo,d3,cn,d4,rfl,fE,eE⟩ (by simp [results,Tryz.results54,go_sem,z0])
theorem Hq (an ar ak al aA:Option Addr) (c0 au c2 c3 c4:Nat) (rs:List aM) (qs:List aN) (ag af sp:Int) (ws:List Int) (ad:List aK) (os:List Out) (ct cu:ByteArray) (cr:Int) (Z:ed an ar ak al aA c0 au c2 c3 c4 rs qs ws ad os) (w:World) (R:dL w an ar ak al aA rs qs ws ad os):
 Calls Tryz.prog 58 #[.agg #[.slice an rs c0,.slice ar qs au,ag,af,sp,.slice ak ws c2,.slice al ad c3,.slice aA os c4,ct,cu,cr]] w fun e ah=>∃(cl:Option Addr) (d0:Nat) (cN:Option Addr) (d1:Nat) (bk:Option Addr) (d2:Nat) (bo:Option Addr) (d3:Nat) (cn:Option Addr) (d4:Nat),e= .returned (.agg #[.slice cl rs d0,.slice cN qs d1,ag,af,sp,.slice bk ws d2,.slice bo ad d3,.slice cn os d4,ct,cu,cr])∧gi w ah cl d0 cN d1 bk d2 bo d3 cn d4 rs qs ws ad os∧Below w w ah:=by
 have cB:=J Z;clear Z
 go_in
 go_upto_region 1 with fail
 refine fp fun aH av aO ae=>?_
 replace R:=R.U av;have I:=av;have bG:=aO.bQ;obtain⟨z0,ch,z2,z3,z4,z5,fl,iH,iQ,z9,iP⟩:=ae.bQ
 have bL:=J R;clear R;clear bG z0 ch z2 z3 z4 z5 fl iH iQ z9 iP
 obtain⟨eL,gB⟩ :∃X:World→Prop,∀V,X V↔aC V w.heap.size 46 #[.slice an rs c0,.slice ar qs au,ag,af,sp,.slice ak ws c2,.slice al ad c3,.slice aA os c4,ct,cu,cr]:=⟨_,fun _=>Iff.rfl⟩
 have db:=J gB;clear gB
 haveI:Nonempty (cP eL):=⟨⟨aH,(db.out _).2 aO⟩⟩
 refine oP eL [([0,1,3,4],2),([5],6)] [] (by kernel_rfl) (by kernel_rfl) ((db.out _).2 aO) ?_
 have bG:=aC.ru (fun K:cP eL=>(db.out _).1 K.holds);have gL:Below w w aH.drew:=ai I (Below.refl _ _).drew;have LS:=J (bL.out.U (Below.refl _ _).drew);have nX:aC aH.drew w.heap.size 46 #[.slice an rs c0,.slice ar qs au,ag,af,sp,.slice ak ws c2,.slice al ad c3,.slice aA os c4,ct,cu,cr]:=aO
 have NN:aC aH.drew (w.heap.size + 1) 46 #[.slice none 0 0,.slice none 0 0,(0:Int),(0:Int),(0:Int),.slice none 0 0,.slice none 0 0,.slice none 0 0,.string ⟨#[]⟩,.string ⟨#[]⟩,(0:Int)]:=ae;clear aO ae
 generalize aH.drew= wd at *
 refine gZ fun gr dX=>?_
 change wpQuiet _ _ _ _ (_ ::_ ::_ ::_ ::[]) _
 repeat (go_big_quiet_step (fail))
 refine wpQuiet_nil ?_
 change wpList _ _ _ (_ ::[]) _ _
 go_wp2_with fail
 refine (Ha an ar ak al aA c0 au c2 c3 c4 rs qs ag af sp ws ad os cB.out wd LS.out).mono ?_
 rintro e aQ ⟨cl,d0,cN,d1,bk,d2,bo,d3,cn,d4,rfl,gQ,aP⟩
 have jr:=nX.to aP;have tk:=NN.to aP;have mS:=ai gL aP;have NZ:=gL.size;have ky:=J (gQ.base (B':=w.heap.size) NZ);clear gQ
 go_wp2
 refine hh ((db.out _).2 jr) (dX _ _ ?_)
 refine gZ fun gr dX=>?_
 change wpQuiet _ _ _ _ (_ ::[]) _
 repeat (go_big_quiet_step (fail))
 refine wpQuiet_nil ?_
 change wpList _ _ _ (_ ::[]) _ _
 have Ew:=J tk;have aq:=tk.bQ;have eM:=tk.gS;clear tk
 go_wp2
 clear aq eM
 refine hE 0 fun cQ aD=>?_
 have ec:=aD.dJ jr;have bT:=aD.hV Ew.out;have fE:=ky.out.gw Ew.out aD.fG;have eE:=aD.aG mS
 refine hh ((db.out _).2 ec) (dX _ _ ?_)
 refine mg ?_
 change wpQuiet _ _ _ _ ([]) _
 refine wpQuiet_nil ?_
 clear bG
 have z0:=bT.bQ
 go_wp2
 exact hc ⟨cl,d0,cN,d1,bk,d2,bo,d3,cn,d4,rfl,fE,eE⟩ (by simp [results,Tryz.results58,go_sem,z0])
end Go.Proofs.YtlaaemmmbodaaaaGreatDoor
