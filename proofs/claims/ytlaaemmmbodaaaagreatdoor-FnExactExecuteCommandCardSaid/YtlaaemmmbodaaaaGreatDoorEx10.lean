/- Parts. -/
import Derived.Test.YtlaaemmmbodaaaaGreatDoorEx9
import Derived.Deep.CutRange
import Derived.Deep.DeepCutAuto
set_option maxHeartbeats 16000000
set_option maxRecDepth 100000
set_option linter.unnecessarySimpa false
set_option linter.unusedSimpArgs false
set_option linter.unusedVariables false
namespace Go.Proofs.YtlaaemmmbodaaaaGreatDoor
open Go.RowKit Go.G9
theorem Kz {af ae sp:Int} {ws:List Int} {U:List aI} (h:gp af ae sp ws U= true) {m:Int} (hm:eG m= true):0≤(ev U m).cQ∧(ev U m).cQ≤ae∧ae≤3600:=by
 have H:=Jd.1 h;have h1:=H.t;have h2:=H.s;have h3:=vr.1 (Zy H.ok (by omega) (by omega) hm)
 omega
theorem ack {p:Prop} (h:p:=by
 rintro e w0 ⟨rfl,h0⟩
 rw [h0]
 clear h0 w0
 go_wp2
 go_ret2
 exact⟨rfl,(ah I av)⟩):p:=h
theorem aaW {p:Prop} (h:p:=by
 refine wpQuiet_nil ?_
 intro K
 clear aD;have aK:Below aM aM K.world:=ah av K.below;replace I:=ah I aK
 go_wp2
 go_ret2
 exact⟨rfl,(ah I av)⟩):p:=h
theorem akY (af ae sp:Int) (aj:Option Addr) (c2:Nat) (ws:List Int) (ak:Option Addr) (c3:Nat) (U:List aI) (h2:ws.length≤1048576) (h3:U.length≤1048576) (cp:ws.length≤c2) (aw:gp af ae sp ws U= true) (m:Int) (w:World) (bj:aH 1 bR w aj ws) (bh:aH 3 aI.cells w ak U):
 Calls Tryz.prog 175 #[.agg #[af,ae,sp,.slice aj ws c2,.slice ak U c3],m] w fun e ag=>e= .returned (.tuple #[.int .i64 (if eG m then ae - (ev U m).cQ else 0),.bool (eG m)])∧Below w w ag:=by
 have bC:=J aw
 cases hm:eG m
 ·have dR:=J hm
  rw [if_neg (by simp)]
  clear hm aw
  go_in
  go_wp2_with fail
  refine (mP af ae sp aj ws c2 ak c3 U h2 h3 cp _ bC.out _ (bj.below av) (bh.below av)).mono ?_
  rintro e bd ⟨rfl,bz⟩
  have au:=be w bz;have I:Below w w bd:=au
  go_wp2_with fail
  refine (iT m _ dR.out _).mono ?_
  exact ack
 ·have dR:=J hm
  rw [if_pos rfl]
  obtain⟨s1,s2,pT⟩:=Kz aw hm
  obtain⟨s,aX⟩ :∃s,ev U m= s:=⟨_,rfl⟩
  have eA:=J aX
  rw [aX] at s1 s2 ⊢
  clear hm aw aX
  obtain⟨sm,st,cn⟩:=s
  simp only at s1 s2 ⊢
  have sD:∀W:World,(Instr.field 214 (.agg #[sm,st,cn]) 2).run Tryz.prog W= .ok (.int .i64 cn) W:=fun _=>by kernel_rfl
  go_in
  go_upto_region 1 with fail
  refine cR fun aF au ai=>?_
  replace bj:=bj.below au;replace bh:=bh.below au;have I:=au;have aD:=ai.aP
  go_wp2_with fail
  refine (mP af ae sp aj ws c2 ak c3 U h2 h3 cp _ bC.out _ (bj.below av) (bh.below av)).mono ?_
  rintro e aM ⟨rfl,aN⟩
  have ao:=be aF aN;replace I:=ah I ao;replace bh:=bh.below ao;replace ai:=ai.to ao;clear aD;have aD:=ai.aP
  go_wp2_with fail
  refine (iT m _ dR.out _).mono ?_
  rintro e w0 ⟨rfl,h0⟩
  rw [h0]
  clear h0 w0
  go_upto_region 3 with fail
  have cO:=J bh;clear bj bh;have mi:=J (fun k:ax aM.heap.size aM=>yi af ae sp aj ws.length c2 ak c3 U h3 m ⟨sm,st,cn⟩ eA.out k.world (cO.out.below k.below));clear aD;have aD:=aq.kE (fun K:ax aM.heap.size aM=>(ai.below K.below ai.lt))
  refine ew (by kernel_rfl) (by kernel_rfl) ?_
  repeat (go_big_quiet_step ((first | (go_at_call 201;exact ax.call _ (by first | exact Nat.le_refl _ | omega) (mi.out _)))))
  exact aaW
theorem apG (af ae sp:Int) (aj:Option Addr) (c2:Nat) (ws:List Int) (ak:Option Addr) (c3:Nat) (U:List aI) (h2:ws.length≤1048576) (h3:U.length≤1048576) (cp:ws.length≤c2) (aw:gp af ae sp ws U= true) (m:Int) (w:World) (bj:aH 1 bR w aj ws) (bh:aH 3 aI.cells w ak U):
 Calls Tryz.prog 195 #[.agg #[af,ae,sp,.slice aj ws c2,.slice ak U c3],m] w fun e ag=>e= .returned (.tuple #[.int .i64 (if eG m then ae - (ev U m).cQ else 0),.bool (eG m)])∧Below w w ag:=by
 have bC:=J aw
 cases hm:eG m
 ·have dR:=J hm
  rw [if_neg (by simp)]
  clear hm aw
  go_in
  go_wp2_with fail
  refine (mR af ae sp aj ws c2 ak c3 U h2 h3 cp _ bC.out _ (bj.below av) (bh.below av)).mono ?_
  rintro e bd ⟨rfl,bz⟩
  have au:=be w bz;have I:Below w w bd:=au
  go_wp2_with fail
  refine (iG m _ dR.out _).mono ?_
  exact ack
 ·have dR:=J hm
  rw [if_pos rfl]
  obtain⟨s1,s2,pT⟩:=Kz aw hm
  obtain⟨s,aX⟩ :∃s,ev U m= s:=⟨_,rfl⟩
  have eA:=J aX
  rw [aX] at s1 s2 ⊢
  clear hm aw aX
  obtain⟨sm,st,cn⟩:=s
  simp only at s1 s2 ⊢
  have sD:∀W:World,(Instr.field 214 (.agg #[sm,st,cn]) 2).run Tryz.prog W= .ok (.int .i64 cn) W:=fun _=>by kernel_rfl
  go_in
  go_upto_region 1 with fail
  refine cR fun aF au ai=>?_
  replace bj:=bj.below au;replace bh:=bh.below au;have I:=au;have aD:=ai.aP
  go_wp2_with fail
  refine (mR af ae sp aj ws c2 ak c3 U h2 h3 cp _ bC.out _ (bj.below av) (bh.below av)).mono ?_
  rintro e aM ⟨rfl,aN⟩
  have ao:=be aF aN;replace I:=ah I ao;replace bh:=bh.below ao;replace ai:=ai.to ao;clear aD;have aD:=ai.aP
  go_wp2_with fail
  refine (iG m _ dR.out _).mono ?_
  rintro e w0 ⟨rfl,h0⟩
  rw [h0]
  clear h0 w0
  go_upto_region 3 with fail
  have cO:=J bh;clear bj bh;have mi:=J (fun k:ax aM.heap.size aM=>vk af ae sp aj ws.length c2 ak c3 U h3 m ⟨sm,st,cn⟩ eA.out k.world (cO.out.below k.below));clear aD;have aD:=aq.kE (fun K:ax aM.heap.size aM=>(ai.below K.below ai.lt))
  refine ew (by kernel_rfl) (by kernel_rfl) ?_
  repeat (go_big_quiet_step ((first | (go_at_call 267;exact ax.call _ (by first | exact Nat.le_refl _ | omega) (mi.out _)))))
  exact aaW
def yf:Option aJ→Value
 | some r=> .agg #[.int .i64 r.id,.string r.name,.int .i64 r.gG,.bool r.second,.bool r.lV,.bool r.mH,.int .i64 r.hA]
 | none=> .agg #[.int .i64 0,.string ⟨#[]⟩,.int .i64 0,.bool false,.bool false,.bool false,.int .i64 0]
theorem SW (nm:ByteArray) (g:Nat) (x:aJ) (W:World) (cw:W.cell? ⟨g,0,none⟩ =some (.string nm)) (aS:g < W.heap.size):
 Calls Tryz.prog 248 (#[.agg #[x.id,x.name,x.gG,x.second,x.lV,x.mH,x.hA]] ++ #[.pointer (some ⟨g,0,none⟩)]) W fun e ag=>e= .returned (.bool (x.name.toList == nm.toList))∧Below W W ag:=by
 cases aB:x.name.toList == nm.toList
 all_goals
  go_in
  go_wp2
  go_ret
  exact⟨rfl,bZ _ _⟩
theorem Wx (A:Option Addr) (c:Nat) (rs:List aJ) (aY:rs.length≤1048576) (aE:rs.length≤c) (aw:kx rs= true) (nm:ByteArray) (o:Option aJ) (cY:uE rs nm= o) (w:World) (bL:aH 7 aJ.cells w A rs):
 Calls Tryz.prog 169 #[.slice A rs c,nm] w fun e ag=>e= .returned (.tuple #[yf o,o.isSome])∧Below w w ag:=by
 have bC:=J aw
 cases o with
 | none=>
  have hP:=J (Di cY);clear cY aw
  simp only [yf,Option.isSome_none]
  go_in
  go_upto_region 1 with fail
  refine fm fun aF au eL ad=>?_
  replace bL:=bL.below au;have I:=au;obtain⟨z0,bw,z2,z3,z4,z5,cy⟩:=ad.qK
  have cV:Hid (∀x,x ∈ rs→∀V,Below aF aF V→Calls Tryz.prog 248 (#[.agg #[.int .i64 x.id,.string x.name,.int .i64 x.gG,.bool x.second,.bool x.lV,.bool x.mH,.int .i64 x.hA]] ++ #[.pointer (some ⟨w.heap.size,0,none⟩)]) V fun e ag=>e= .returned (.bool (x.name.toList == nm.toList))∧Below V V ag):=J fun x _ V ic=>SW nm w.heap.size x V ((eL.to ic).cell 0) (eL.to ic).lt
  go_wp2_with fail
  refine (JM A c rs aY 248 #[.pointer (some ⟨w.heap.size,0,none⟩)] (Bt Tryz.func248 (by kernel_rfl) (by kernel_rfl)) (Hl nm) _ hP.out _ (bL.below av) cV.out).mono ?_
  rintro e aM ⟨rfl,aN⟩
  have ao:=be aF aN;replace I:=ah I ao;replace bL:=bL.below ao;replace ad:=ad.to ao;clear z0 bw z2 z3 z4 z5 cy;obtain⟨z0,bw,z2,z3,z4,z5,cy⟩:=ad.qK
  go_wp2_with fail
  refine (GZ A c rs aY aE _ bC.out _ (bL.below av)).mono ?_
  rintro e bB ⟨rfl,bG⟩
  have aK:=be aM bG;replace I:=ah I aK;replace ad:=ad.to aK;clear z0 bw z2 z3 z4 z5 cy;obtain⟨z0,bw,z2,z3,z4,z5,cy⟩:=ad.qK;have ep:=ad.FF
  go_wp2
  clear z0 bw z2 z3 z4 z5 cy
  refine HI 0 fun cS aC=>?_
  replace I:=aC.aE I;replace ad:=aC.Fi ad;obtain⟨z0,bw,z2,z3,z4,z5,cy⟩:=ad.qK
  refine bodyPost_ret (v:= .tuple #[.agg #[(0:Int),.string ⟨#[]⟩,(0:Int),false,false,false,(0:Int)],false]) (by simp [results,Tryz.results169,go_sem,z0,bw,z2,z3,z4,z5,cy]) rfl ?_
  exact⟨rfl,I⟩
 | some r=>
  obtain⟨k,hi,az⟩:=rL cY
  have bl:k < rs.length:=(List.getElem?_eq_some_iff.1 az).1;have hP:=J hi;have fV:=J az;clear cY aw hi az
  simp only [yf,Option.isSome_some]
  go_in
  go_upto_region 1 with fail
  refine fm fun aF au eL ad=>?_
  replace bL:=bL.below au;have I:=au;obtain⟨z0,bw,z2,z3,z4,z5,cy⟩:=ad.qK
  have cV:Hid (∀x,x ∈ rs→∀V,Below aF aF V→Calls Tryz.prog 248 (#[.agg #[.int .i64 x.id,.string x.name,.int .i64 x.gG,.bool x.second,.bool x.lV,.bool x.mH,.int .i64 x.hA]] ++ #[.pointer (some ⟨w.heap.size,0,none⟩)]) V fun e ag=>e= .returned (.bool (x.name.toList == nm.toList))∧Below V V ag):=J fun x _ V ic=>SW nm w.heap.size x V ((eL.to ic).cell 0) (eL.to ic).lt
  go_wp2_with fail
  refine (JM A c rs aY 248 #[.pointer (some ⟨w.heap.size,0,none⟩)] (Bt Tryz.func248 (by kernel_rfl) (by kernel_rfl)) (Hl nm) _ hP.out _ (bL.below av) cV.out).mono ?_
  rintro e aM ⟨rfl,aN⟩
  have ao:=be aF aN;replace I:=ah I ao;replace bL:=bL.below ao;replace ad:=ad.to ao;clear z0 bw z2 z3 z4 z5 cy;obtain⟨z0,bw,z2,z3,z4,z5,cy⟩:=ad.qK
  go_wp2_with fail
  refine (GZ A c rs aY aE _ bC.out _ (bL.below av)).mono ?_
  rintro e bB ⟨rfl,bG⟩
  have aK:=be aM bG;replace I:=ah I aK;replace bL:=bL.below aK;replace ad:=ad.to aK;clear z0 bw z2 z3 z4 z5 cy;obtain⟨z0,bw,z2,z3,z4,z5,cy⟩:=ad.qK
  obtain⟨b,off,fT,rfl,dU,ay,bk⟩:=bL.at_ (Below.refl _ _) bl
  obtain rfl:r= fT:=Option.some.inj (fV.out.symm.trans ay)
  have f0:=bk 0 _ rfl;have f1:=bk 1 _ rfl;have f2:=bk 2 _ rfl;have f3:=bk 3 _ rfl;have f4:=bk 4 _ rfl;have f5:=bk 5 _ rfl;have f6:=bk 6 _ rfl
  simp only [Nat.add_zero] at f0
  have g0:=f0 (ax.self _);have g1:=f1 (ax.self _);have g2:=f2 (ax.self _);have g3:=f3 (ax.self _);have g4:=f4 (ax.self _);have g5:=f5 (ax.self _);have g6:=f6 (ax.self _)
  simp only [ax.self] at g0
  simp only [ax.self] at g1
  simp only [ax.self] at g2
  simp only [ax.self] at g3
  simp only [ax.self] at g4
  simp only [ax.self] at g5
  simp only [ax.self] at g6
  clear ay bk
  have Ju:¬(k:Int) < 0:=by omega
  have ep:=ad.FF
  go_wp2
  clear z0 bw z2 z3 z4 z5 cy
  refine HI 0 fun cS aC=>?_
  replace I:=aC.aE I;replace ad:=aC.Fi ad
  obtain⟨z0,bw,z2,z3,z4,z5,cy⟩:=ad.qK
  refine bodyPost_ret (v:= .tuple #[.agg #[r.id,r.name,r.gG,r.second,r.lV,r.mH,r.hA],true]) (by simp [results,Tryz.results169,go_sem,z0,bw,z2,z3,z4,z5,cy]) rfl ?_
  exact⟨rfl,I⟩
theorem apm (A:Option Addr) (c:Nat) (rs:List aJ) (aY:rs.length≤1048576) (aw:kx rs= true) (nm:ByteArray) (o:Option aJ) (cY:uE rs nm= o) (w:World) (bL:aH 7 aJ.cells w A rs):
 Calls Tryz.prog 193 #[.slice A rs c,nm] w fun e ag=>e= .returned (.tuple #[yf o,o.isSome])∧Below w w ag:=by
 have bC:=J aw;have dq:=J cY;clear aw cY
 go_in
 go_upto_region 1 with fail
 refine cR fun aF au ad=>?_
 replace bL:=bL.below au;have I:=au;obtain⟨z0,bw,z2,z3,z4,z5,cy⟩:=ad.qK
 go_wp2_with fail
 refine (JQ A c rs aY _ bC.out _ (bL.below av)).mono ?_
 rintro e aM ⟨rfl,aN⟩
 have ao:=be aF aN;replace I:=ah I ao;replace bL:=bL.below ao;replace ad:=ad.to ao;clear z0 bw z2 z3 z4 z5 cy;obtain⟨z0,bw,z2,z3,z4,z5,cy⟩:=ad.qK
 go_wp2
 go_loop [6] (fun i=>∃k:Nat,k≤rs.length∧i= .int .i64 k∧hH (fun i=>!jm (Hl nm) rs i) k= true) (fun i=>rs.length - (intOf i).toNat)
 case atStart=>exact⟨0,Nat.zero_le _,rfl,rfl⟩
 case round=>
  obtain⟨k,az,rfl,aS⟩:=hrel
  have cH:=J aS;clear aS
  by_cases bl:k < rs.length
  ·obtain⟨b,off,r,rfl,dU,ay,bk⟩:=bL.at_ (Below.refl _ _) bl
   have f0:=bk 0 _ rfl;have f1:=bk 1 _ rfl;have f2:=bk 2 _ rfl;have f3:=bk 3 _ rfl;have f4:=bk 4 _ rfl;have f5:=bk 5 _ rfl;have f6:=bk 6 _ rfl
   simp only [Nat.add_zero] at f0
   have g0:=f0 (ax.self _);have g1:=f1 (ax.self _);have g2:=f2 (ax.self _);have g3:=f3 (ax.self _);have g4:=f4 (ax.self _);have g5:=f5 (ax.self _);have g6:=f6 (ax.self _)
   simp only [ax.self] at g0
   simp only [ax.self] at g1
   simp only [ax.self] at g2
   simp only [ax.self] at g3
   simp only [ax.self] at g4
   simp only [ax.self] at g5
   simp only [ax.self] at g6
   have cb:=J ay;clear ay bk f0 f1 f2 f3 f4 f5 f6
   cases he:(r.name.toList == nm.toList)
   ·have cX:=J he
    go_wp2
    go_round
    case rel=>exact⟨k + 1,by omega,by go_num,nz cH.out (by simp only [jm,cb.out,Hl,cX.out];rfl)⟩
    case measure=>simp [intOf];omega
   ·obtain rfl:o= some r:=dq.out.symm.trans (MU cH.out cb.out he)
    have ep:=ad.FF
    go_wp2
    clear z0 bw z2 z3 z4 z5 cy
    refine HI 0 fun cS aC=>?_
    replace I:=aC.aE I;replace ad:=aC.Fi ad
    obtain⟨z0,bw,z2,z3,z4,z5,cy⟩:=ad.qK
    refine bodyPost_ret (v:= .tuple #[.agg #[r.id,r.name,r.gG,r.second,r.lV,r.mH,r.hA],true]) (by simp [results,Tryz.results193,go_sem,z0,bw,z2,z3,z4,z5,cy]) rfl ?_
    exact⟨rfl,I⟩
  ·obtain rfl:k= rs.length:=by omega
   obtain rfl:o= none:=dq.out.symm.trans (TZ cH.out)
   have ep:=ad.FF
   go_wp2
   clear z0 bw z2 z3 z4 z5 cy
   refine HI 0 fun cS aC=>?_
   replace I:=aC.aE I;replace ad:=aC.Fi ad;obtain⟨z0,bw,z2,z3,z4,z5,cy⟩:=ad.qK
   refine bodyPost_ret (v:= .tuple #[.agg #[(0:Int),.string ⟨#[]⟩,(0:Int),false,false,false,(0:Int)],false]) (by simp [results,Tryz.results193,go_sem,z0,bw,z2,z3,z4,z5,cy]) rfl ?_
   exact⟨rfl,I⟩
open Go.RowKit Go.G9
theorem anS (s:ByteArray) (w:World):Calls Tryz.prog 99 #[s] w fun e ag=>e= .returned (.tuple #[.string ((my (eF s)).getD ⟨#[]⟩),.bool (my (eF s)).isSome])∧ag= w:=by
 have cB:=Ct s
 rcases Kc (Fu s) with h | h | h | h | h | h | h | h | h | h | h | h | h | h | h | h
 all_goals
  rw [h] at cB ⊢
  obtain⟨f0,f1,f2,f3,f4,f5,f6,f7,f8,f9,f10,f11,f12,f13,f14⟩:=cB
  simp only [Nat.reduceBEq] at f0 f1 f2 f3 f4 f5 f6 f7 f8 f9 f10 f11 f12 f13 f14
  clear h
  go_in
  go_wp2
  go_ret2
  exact⟨rfl,rfl⟩
def Mn:Option oG→Value
 | some a=> .agg #[.int .i64 a.kind,.int .i64 a.mem,.int .i64 a.val,.int .i64 a.yes,.int .i64 a.no,.int .i64 a.bx]
 | none=> .agg #[.int .i64 0,.int .i64 0,.int .i64 0,.int .i64 0,.int .i64 0,.int .i64 0]
theorem La {p:Prop} (h:p:=by
 have aY:l.length= 0:=aS _ rfl;clear aS
 show Calls _ _ _ _ (fun e ag=>e= .returned (.tuple #[.agg #[(0:Int),(0:Int),(0:Int),(0:Int),(0:Int),(0:Int)],false])∧Below w w ag)
 go_in
 go_upto_region 1 with fail
 refine cR fun aF au ad=>?_
 have I:=au;have al:=ad.da;have ep:=ad.tr
 go_wp2
 clear al
 refine tN 0 fun cS aC=>?_
 replace I:=aC.aE I;replace ad:=aC.tl ad;have al:=ad.da
 refine bodyPost_ret (v:= .tuple #[.agg #[(0:Int),(0:Int),(0:Int),(0:Int),(0:Int),(0:Int)],false]) (by simp [results,Tryz.results101,go_sem,al]) rfl ?_
 exact⟨rfl,I⟩):p:=h
theorem acs {p:Prop} (h:p:=by
 have aY:l.length= 1:=aS _ rfl;clear aS
 obtain⟨a,rfl⟩ :∃a,l= [a]:=by
   match l,aY with
   | [oE],_=>exact⟨oE,rfl⟩
 clear aY
 show Calls _ _ _ _ (fun e ag=>e= .returned (.tuple #[.agg #[(0:Int),(0:Int),(0:Int),(0:Int),(0:Int),(0:Int)],false])∧Below w w ag)
 obtain⟨kW,off,rfl,dU,aE⟩:=bL (by simp)
 have g0:=aE 0 _ rfl 0 _ rfl
 simp only [Nat.mul_one,Nat.zero_mul,Nat.add_zero] at g0
 clear aE
 go_in
 go_upto_region 1 with fail
 refine cR fun aF au ad=>?_
 have I:=au;have al:=ad.da;have ep:=ad.tr
 go_wp2
 clear al
 refine tN 0 fun cS aC=>?_
 replace I:=aC.aE I;replace ad:=aC.tl ad;have al:=ad.da
 refine bodyPost_ret (v:= .tuple #[.agg #[(0:Int),(0:Int),(0:Int),(0:Int),(0:Int),(0:Int)],false]) (by simp [results,Tryz.results101,go_sem,al]) rfl ?_
 exact⟨rfl,I⟩):p:=h
theorem aff (s:ByteArray) (A:Option Addr) (c:Nat) (l:List Int) (aS:∀p,my (eF s)= some p→l.length= p.size) (w:World) (bL:aH 1 bR w A l):
 Calls Tryz.prog 101 #[s,.slice A l c] w fun e ag=>e= .returned (.tuple #[Mn (sk (eF s) l),.bool (sk (eF s) l).isSome])∧Below w w ag:=by
 have cB:=Ct s
 rcases Kc (Fu s) with h | h | h | h | h | h | h | h | h | h | h | h | h | h | h | h
 all_goals rw [h] at cB aS ⊢
 all_goals obtain⟨f0,f1,f2,f3,f4,f5,f6,f7,f8,f9,f10,f11,f12,f13,f14⟩:=cB
 all_goals simp only [Nat.reduceBEq] at f0 f1 f2 f3 f4 f5 f6 f7 f8 f9 f10 f11 f12 f13 f14
 all_goals clear h
 ·have aY:l.length= 0:=aS _ rfl
  clear aS
  show Calls _ _ _ _ (fun e ag=>e= .returned (.tuple #[.agg #[(4:Int),(0:Int),(0:Int),(0:Int),(0:Int),(0:Int)],true])∧Below w w ag)
  go_in
  go_upto_region 1 with fail
  refine cR fun aF au ad=>?_
  have I:=au;have al:=ad.da;have ep:=ad.tr
  go_wp2
  clear al
  refine tN 0 fun cS aC=>?_
  replace I:=aC.aE I;replace ad:=aC.tl ad;have al:=ad.da
  refine bodyPost_ret (v:= .tuple #[.agg #[(4:Int),(0:Int),(0:Int),(0:Int),(0:Int),(0:Int)],true]) (by simp [results,Tryz.results101,go_sem,al]) rfl ?_
  exact⟨rfl,I⟩
 ·have aY:l.length= 0:=aS _ rfl
  clear aS
  show Calls _ _ _ _ (fun e ag=>e= .returned (.tuple #[.agg #[(6:Int),(0:Int),(0:Int),(0:Int),(0:Int),(0:Int)],true])∧Below w w ag)
  go_in
  go_upto_region 1 with fail
  refine cR fun aF au ad=>?_
  have I:=au;have al:=ad.da;have ep:=ad.tr
  go_wp2
  clear al
  refine tN 0 fun cS aC=>?_
  replace I:=aC.aE I;replace ad:=aC.tl ad;have al:=ad.da
  refine bodyPost_ret (v:= .tuple #[.agg #[(6:Int),(0:Int),(0:Int),(0:Int),(0:Int),(0:Int)],true]) (by simp [results,Tryz.results101,go_sem,al]) rfl ?_
  exact⟨rfl,I⟩
 ·have aY:l.length= 0:=aS _ rfl
  clear aS
  show Calls _ _ _ _ (fun e ag=>e= .returned (.tuple #[.agg #[(9:Int),(0:Int),(0:Int),(0:Int),(0:Int),(0:Int)],true])∧Below w w ag)
  go_in
  go_upto_region 1 with fail
  refine cR fun aF au ad=>?_
  have I:=au;have al:=ad.da;have ep:=ad.tr
  go_wp2
  clear al
  refine tN 0 fun cS aC=>?_
  replace I:=aC.aE I;replace ad:=aC.tl ad;have al:=ad.da
  refine bodyPost_ret (v:= .tuple #[.agg #[(9:Int),(0:Int),(0:Int),(0:Int),(0:Int),(0:Int)],true]) (by simp [results,Tryz.results101,go_sem,al]) rfl ?_
  exact⟨rfl,I⟩
 ·exact La
 ·exact La
 ·exact La
 ·exact La
 ·have aY:l.length= 1:=aS _ rfl
  clear aS
  obtain⟨a,rfl⟩ :∃a,l= [a]:=by
    match l,aY with
    | [oE],_=>exact⟨oE,rfl⟩
  clear aY
  show Calls _ _ _ _ (fun e ag=>e= .returned (.tuple #[.agg #[(2:Int),.int .i64 a,(0:Int),(0:Int),(0:Int),(0:Int)],true])∧Below w w ag)
  obtain⟨kW,off,rfl,dU,aE⟩:=bL (by simp)
  have g0:=aE 0 _ rfl 0 _ rfl
  simp only [Nat.mul_one,Nat.zero_mul,Nat.add_zero] at g0
  clear aE
  go_in
  go_upto_region 1 with fail
  refine cR fun aF au ad=>?_
  have I:=au;have al:=ad.da;replace g0:=(I.cell (p:=⟨kW,_,none⟩) dU).trans g0;have ep:=ad.tr
  go_wp2
  clear al
  refine tN 0 fun cS aC=>?_
  replace I:=aC.aE I;replace ad:=aC.tl ad;have al:=ad.da
  refine bodyPost_ret (v:= .tuple #[.agg #[(2:Int),.int .i64 a,(0:Int),(0:Int),(0:Int),(0:Int)],true]) (by simp [results,Tryz.results101,go_sem,al]) rfl ?_
  exact⟨rfl,I⟩
 ·have aY:l.length= 1:=aS _ rfl
  clear aS
  obtain⟨a,rfl⟩ :∃a,l= [a]:=by
    match l,aY with
    | [oE],_=>exact⟨oE,rfl⟩
  clear aY
  show Calls _ _ _ _ (fun e ag=>e= .returned (.tuple #[.agg #[(3:Int),.int .i64 a,(0:Int),(0:Int),(0:Int),(0:Int)],true])∧Below w w ag)
  obtain⟨kW,off,rfl,dU,aE⟩:=bL (by simp)
  have g0:=aE 0 _ rfl 0 _ rfl
  simp only [Nat.mul_one,Nat.zero_mul,Nat.add_zero] at g0
  clear aE
  go_in
  go_upto_region 1 with fail
  refine cR fun aF au ad=>?_
  have I:=au;have al:=ad.da;replace g0:=(I.cell (p:=⟨kW,_,none⟩) dU).trans g0;have ep:=ad.tr
  go_wp2
  clear al
  refine tN 0 fun cS aC=>?_
  replace I:=aC.aE I;replace ad:=aC.tl ad;have al:=ad.da
  refine bodyPost_ret (v:= .tuple #[.agg #[(3:Int),.int .i64 a,(0:Int),(0:Int),(0:Int),(0:Int)],true]) (by simp [results,Tryz.results101,go_sem,al]) rfl ?_
  exact⟨rfl,I⟩
 ·have aY:l.length= 1:=aS _ rfl
  clear aS
  obtain⟨a,rfl⟩ :∃a,l= [a]:=by
    match l,aY with
    | [oE],_=>exact⟨oE,rfl⟩
  clear aY
  show Calls _ _ _ _ (fun e ag=>e= .returned (.tuple #[.agg #[(5:Int),(0:Int),.int .i64 a,(0:Int),(0:Int),(0:Int)],true])∧Below w w ag)
  obtain⟨kW,off,rfl,dU,aE⟩:=bL (by simp)
  have g0:=aE 0 _ rfl 0 _ rfl
  simp only [Nat.mul_one,Nat.zero_mul,Nat.add_zero] at g0
  clear aE
  go_in
  go_upto_region 1 with fail
  refine cR fun aF au ad=>?_
  have I:=au;have al:=ad.da;replace g0:=(I.cell (p:=⟨kW,_,none⟩) dU).trans g0;have ep:=ad.tr
  go_wp2
  clear al
  refine tN 0 fun cS aC=>?_
  replace I:=aC.aE I;replace ad:=aC.tl ad;have al:=ad.da
  refine bodyPost_ret (v:= .tuple #[.agg #[(5:Int),(0:Int),.int .i64 a,(0:Int),(0:Int),(0:Int)],true]) (by simp [results,Tryz.results101,go_sem,al]) rfl ?_
  exact⟨rfl,I⟩
 ·have aY:l.length= 1:=aS _ rfl
  clear aS
  obtain⟨a,rfl⟩ :∃a,l= [a]:=by
    match l,aY with
    | [oE],_=>exact⟨oE,rfl⟩
  clear aY
  show Calls _ _ _ _ (fun e ag=>e= .returned (.tuple #[.agg #[(8:Int),.int .i64 a,(0:Int),(0:Int),(0:Int),(0:Int)],true])∧Below w w ag)
  obtain⟨kW,off,rfl,dU,aE⟩:=bL (by simp)
  have g0:=aE 0 _ rfl 0 _ rfl
  simp only [Nat.mul_one,Nat.zero_mul,Nat.add_zero] at g0
  clear aE
  go_in
  go_upto_region 1 with fail
  refine cR fun aF au ad=>?_
  have I:=au;have al:=ad.da;replace g0:=(I.cell (p:=⟨kW,_,none⟩) dU).trans g0;have ep:=ad.tr
  go_wp2
  clear al
  refine tN 0 fun cS aC=>?_
  replace I:=aC.aE I;replace ad:=aC.tl ad;have al:=ad.da
  refine bodyPost_ret (v:= .tuple #[.agg #[(8:Int),.int .i64 a,(0:Int),(0:Int),(0:Int),(0:Int)],true]) (by simp [results,Tryz.results101,go_sem,al]) rfl ?_
  exact⟨rfl,I⟩
 ·exact acs
 ·exact acs
 ·have aY:l.length= 2:=aS _ rfl
  clear aS
  obtain⟨a,b,rfl⟩ :∃a b,l= [a,b]:=by
    match l,aY with
    | [oE,yn],_=>exact⟨oE,yn,rfl⟩
  clear aY
  show Calls _ _ _ _ (fun e ag=>e= .returned (.tuple #[.agg #[(1:Int),.int .i64 b,.int .i64 a,(0:Int),(0:Int),(0:Int)],true])∧Below w w ag)
  obtain⟨kW,off,rfl,dU,aE⟩:=bL (by simp)
  have g0:=aE 0 _ rfl 0 _ rfl;have g1:=aE 1 _ rfl 0 _ rfl
  simp only [Nat.mul_one,Nat.zero_mul,Nat.add_zero] at g0 g1
  clear aE
  go_in
  go_upto_region 1 with fail
  refine cR fun aF au ad=>?_
  have I:=au;have al:=ad.da;replace g0:=(I.cell (p:=⟨kW,_,none⟩) dU).trans g0;replace g1:=(I.cell (p:=⟨kW,_,none⟩) dU).trans g1;have uM:kW < aF.heap.size:=Nat.lt_of_lt_of_le dU I.size
  go_upto_region 3 with fail
  have u0:=fun K:ax aF.heap.size aF=>(K.cell (p:=⟨kW,_,none⟩) uM).trans g0
  have u1:=fun K:ax aF.heap.size aF=>(K.cell (p:=⟨kW,_,none⟩) uM).trans g1
  clear g0 g1;clear al;have al:=aq.MC (fun K:ax aF.heap.size aF=>(ad.below K.below ad.lt))
  refine HP 7 (by kernel_rfl) (by kernel_rfl) ?_
  change wpQuiet _ _ _ _ (_ ::_ ::_ ::_ ::_ ::_ ::_ ::[]) _
  repeat (go_big_quiet_step ((fail)))
  refine wpQuiet_nil ?_
  intro K
  change wpList _ _ _ (_ ::_ ::[]) _ _
  clear al;have ao:Below aF aF K.world:=ah av K.below;replace I:=ah I ao;replace ad:=ad.to ao;have al:=ad.da;have ep:=ad.tr
  go_wp2
  clear al
  refine tN 0 fun cS aC=>?_
  replace I:=aC.aE I;replace ad:=aC.tl ad;have al:=ad.da
  refine bodyPost_ret (v:= .tuple #[.agg #[(1:Int),.int .i64 b,.int .i64 a,(0:Int),(0:Int),(0:Int)],true]) (by simp [results,Tryz.results101,go_sem,al]) rfl ?_
  exact⟨rfl,I⟩
 ·have aY:l.length= 3:=aS _ rfl
  clear aS
  obtain⟨a,b,d,rfl⟩ :∃a b d,l= [a,b,d]:=by
    match l,aY with
    | [oE,yn,zJ],_=>exact⟨oE,yn,zJ,rfl⟩
  clear aY
  show Calls _ _ _ _ (fun e ag=>e= .returned (.tuple #[.agg #[(7:Int),(0:Int),(0:Int),.int .i64 a,.int .i64 b,.int .i64 d],true])∧Below w w ag)
  obtain⟨kW,off,rfl,dU,aE⟩:=bL (by simp)
  have g0:=aE 0 _ rfl 0 _ rfl;have g1:=aE 1 _ rfl 0 _ rfl;have g2:=aE 2 _ rfl 0 _ rfl
  simp only [Nat.mul_one,Nat.zero_mul,Nat.add_zero] at g0 g1 g2
  clear aE
  go_in
  go_upto_region 1 with fail
  refine cR fun aF au ad=>?_
  have I:=au;have al:=ad.da;replace g0:=(I.cell (p:=⟨kW,_,none⟩) dU).trans g0;replace g1:=(I.cell (p:=⟨kW,_,none⟩) dU).trans g1;replace g2:=(I.cell (p:=⟨kW,_,none⟩) dU).trans g2;have uM:kW < aF.heap.size:=Nat.lt_of_lt_of_le dU I.size
  go_upto_region 15 with fail
  have u0:=fun K:ax aF.heap.size aF=>(K.cell (p:=⟨kW,_,none⟩) uM).trans g0
  have u1:=fun K:ax aF.heap.size aF=>(K.cell (p:=⟨kW,_,none⟩) uM).trans g1
  have u2:=fun K:ax aF.heap.size aF=>(K.cell (p:=⟨kW,_,none⟩) uM).trans g2
  clear g0 g1 g2;clear al;have al:=aq.MC (fun K:ax aF.heap.size aF=>(ad.below K.below ad.lt))
  refine HP 11 (by kernel_rfl) (by kernel_rfl) ?_
  change wpQuiet _ _ _ _ (_ ::_ ::_ ::_ ::_ ::_ ::_ ::_ ::_ ::_ ::_ ::[]) _
  repeat (go_big_quiet_step ((fail)))
  refine wpQuiet_nil ?_
  intro K
  change wpList _ _ _ (_ ::_ ::[]) _ _
  clear al;have ao:Below aF aF K.world:=ah av K.below;replace I:=ah I ao;replace ad:=ad.to ao;have al:=ad.da;have ep:=ad.tr
  go_wp2
  clear al
  refine tN 0 fun cS aC=>?_
  replace I:=aC.aE I;replace ad:=aC.tl ad;have al:=ad.da
  refine bodyPost_ret (v:= .tuple #[.agg #[(7:Int),(0:Int),(0:Int),.int .i64 a,.int .i64 b,.int .i64 d],true]) (by simp [results,Tryz.results101,go_sem,al]) rfl ?_
  exact⟨rfl,I⟩
 ·clear aS
  show Calls _ _ _ _ (fun e ag=>e= .returned (.tuple #[.agg #[(0:Int),(0:Int),(0:Int),(0:Int),(0:Int),(0:Int)],false])∧Below w w ag)
  clear bL
  go_in
  go_upto_region 1 with fail
  refine cR fun aF au ad=>?_
  have I:=au;have al:=ad.da;have ep:=ad.tr
  go_wp2
  clear al
  refine tN 0 fun cS aC=>?_
  replace I:=aC.aE I;replace ad:=aC.tl ad;have al:=ad.da
  refine bodyPost_ret (v:= .tuple #[.agg #[(0:Int),(0:Int),(0:Int),(0:Int),(0:Int),(0:Int)],false]) (by simp [results,Tryz.results101,go_sem,al]) rfl ?_
  exact⟨rfl,I⟩
theorem anM (b:Bool) (s t:ByteArray) (w:World):Calls Tryz.prog 181 #[b,s,t] w fun e ag=>e= .returned (.string (if b then s else t))∧ag= w:=by
 cases b
 all_goals
  go_in
  go_wp2
  go_ret
  exact⟨rfl,rfl⟩
theorem afi (rs:List aJ) (qs:List aL) (af ae sp:Int) (ws:List Int) (U:List aI) (os:List Out) (cq:Option Addr) (d0:Nat) (cK:Option Addr) (d1:Nat) (bg:Option Addr) (d2:Nat) (bn:Option Addr) (d3:Nat) (ct:Option Addr) (d4:Nat) (a:oG) (aX:-999999≤sp∧sp≤999999) (cY:a.kind= 7→0 < os.length) (aY:os.length≤1048576) (w:World) (bU:aH 3 Out.cells w ct os) (bX:ll w):
 Calls Tryz.prog 104 #[.agg #[.slice cq rs d0,.slice cK qs d1,af,ae,sp,.slice bg ws d2,.slice bn U d3,.slice ct os d4],.agg #[a.kind,a.mem,a.val,a.yes,a.no,a.bx]] w fun e ag=>e= .returned (.string (pR ⟨rs,qs,af,ae,sp,ws,U,os⟩ a.kind))∧Below w w ag:=by
 obtain⟨xc,am,asv,asw,asp,aa⟩:=a
 simp only at cY ⊢
 by_cases h4:xc= 4
 ·have e:pR ⟨rs,qs,af,ae,sp,ws,U,os⟩ xc= eQ sp:=by rw [pR,if_pos h4]
  rw [e]
  have xr:(xc == 4)= true:=beq_iff_eq.2 h4;clear e h4 cY bU
  go_in
  go_upto_region 1 with fail
  refine fm fun aF au aW aR=>?_
  replace bX:=bX.below au;have I:=au;have hN:=aW.aG;have bF:=aR.da
  go_wp2_with fail
  refine (AU sp (by omega) (by omega) _ (bX.below av)).mono ?_
  rintro e aM ⟨rfl,aN⟩
  have ao:=be aF aN;replace I:=ah I ao;clear hN;clear bF
  go_wp2
  go_ret
  exact⟨rfl,(ah I av)⟩
 ·have xr:(xc == 4)= false:=beq_eq_false_iff_ne.2 h4
  by_cases h7:xc= 7
  ·have wj:=cY h7
   obtain⟨j,bH⟩ :∃j,j + 1= os.length:=⟨os.length - 1,by omega⟩
   obtain⟨o,ay⟩ :∃o,os[j]? =some o:=⟨_,List.getElem?_eq_getElem (by omega)⟩
   have e:pR ⟨rs,qs,af,ae,sp,ws,U,os⟩ xc= if o.hB then (⟨#[97,100,111,112,116,101,100]⟩ :ByteArray) else (⟨#[108,111,115,116]⟩ :ByteArray):=by rw [pR,if_neg h4,if_pos h7];simp only [Hd,← bH,Nat.add_sub_cancel,ay]
   rw [e]
   have ahU:(xc == 7)= true:=beq_iff_eq.2 h7
   obtain⟨kW,off,mU,rfl,dU,lf,bk⟩:=bU.at_ (Below.refl _ _) (k:=j) (by omega)
   obtain rfl:o= mU:=Option.some.inj (ay.symm.trans lf)
   have g2:=bk 2 _ rfl (ax.self _)
   simp only [ax.self] at g2
   obtain⟨tI,lb⟩ :∃b,o.hB= b:=⟨_,rfl⟩
   rw [lb] at g2 ⊢
   have hO:=J g2;have zV:=J dU;clear e h4 h7 cY bU bX bk ay lf g2 dU lb
   cases tI
   all_goals
    go_in
    go_upto_region 1 with fail
    refine fm fun aF au aW aR=>?_
    have I:=au;have hN:=aW.aG;have bF:=aR.da;have g2:=(I.cell (p:=⟨kW,_,none⟩) zV.out).trans hO.out
    have CY:((os.length:Int) - 1)= (j:Int):=by omega
    have ie:j < os.length:=by omega
    clear bH;have wR:=aW.lt;have DT:=aR.lt
    go_wp2_with fail
    refine (anM _ (⟨#[97,100,111,112,116,101,100]⟩ :ByteArray) (⟨#[108,111,115,116]⟩ :ByteArray) _).mono ?_
    rintro e bd ⟨rfl,rfl⟩
    go_wp2
    go_ret
    exact⟨rfl,(ah I av)⟩
  ·have e:pR ⟨rs,qs,af,ae,sp,ws,U,os⟩ xc= (⟨#[111,107]⟩ :ByteArray):=by rw [pR,if_neg h4,if_neg h7]
   rw [e]
   have ahU:(xc == 7)= false:=beq_eq_false_iff_ne.2 h7;clear e h4 h7 cY bU bX
   go_in
   go_upto_region 1 with fail
   refine fm fun aF au aW aR=>?_
   have I:=au;have bF:=aR.da
   go_wp2
   go_ret
   exact⟨rfl,(ah I av)⟩
theorem YF {s:ByteArray} (h:fg s= true):Go.G9.jQ s= .tuple #[.int .i64 (hk s.data.toList),true]:=by rw [Go.G9.jQ,if_pos h]
theorem YE {s:ByteArray} (h:fg s= false):Go.G9.jQ s= .tuple #[(0:Int),false]:=by rw [Go.G9.jQ,if_neg (by simp [h])]
theorem adu {p:Prop} (h:p:=by
 have hM:ly rs pt ws= none:=by
  rw [ly,if_pos oK.out]
  have e:=Hv ra (ws.length - (k + 1))
  rwa [show k + 1 + (ws.length - (k + 1))= ws.length by omega] at e
 have gu:=J hM;clear ra hM
 go_wp2
 go_ret2
 exact⟨[],false,none,0,rfl,J (by rw [gu.out];rfl),aV.nil,RM⟩):p:=h
theorem YH (an:Option Addr) (c0:Nat) (rs:List aJ) (h0:rs.length≤1048576) (dY:rs.length≤c0) (aw:kx rs= true) (pt:ByteArray) (A:Option Addr) (c:Nat) (ws:List ByteArray) (aY:ws.length≤1000) (cc:∀x ∈ ws,x.size≤1000) (w:World) (aU:aH 7 aJ.cells w an rs) (Fa:aH 1 hC w A ws) (bX:pZ w):
 Calls Tryz.prog 100 #[.slice an rs c0,pt,.slice A ws c] w fun e ag=>∃(l:List Int) (b:Bool) (D:Option Addr) (d:Nat),e= .returned (.tuple #[.slice D l d,b])∧Hid (ly rs pt ws= if b= true then some l else none)∧aV w 3 1 bR ag (.slice D l d) l∧Below w w ag:=by
 obtain⟨i0,hi,dy,dC,dN⟩:=info_parts rN
 by_cases hlen:ws.length= pt.size
 ·have eP:((ws.length:Int) != (pt.size:Int))= false:=by rw [hlen];simp
  have oK:=J hlen;have bC:=J aw;have bf:=J cc;have jH:=J bX;have ff:=J aU;clear hlen aw cc bX aU;have hJ:=aV.made (f:=bR) (sz:=1) w (B:=w.heap.size) (Nat.le_refl _) 3
  go_in
  go_wp2
  go_loopw [8,23] (fun y i wr=>∃(k:Nat) (l:List Int),k≤ws.length∧i= .int .i64 k∧nK rs pt.data.toList ws k= some l∧aV w 3 1 bR wr y l∧Below w w wr) (fun _ i _=>ws.length - (intOf i).toNat)
  case atStart=>exact⟨0,[],Nat.zero_le _,rfl,rfl,hJ,bZ _ _⟩
  case round=>
   obtain⟨k,l,az,rfl,bu,bP,aB⟩:=hrel
   have nv:Hid (l.length= k):=J (PO bu);have bJ:=J bu;have dq:=J bP;clear bu bP
   by_cases bl:k < ws.length
   ·obtain⟨gJ,gL,x,rfl,dU,ay,bk⟩:=Fa.at_ aB bl
    have Wp:=bf.out x (List.mem_of_getElem? ay);have cu:=bk 0 _ rfl
    simp only [Nat.add_zero] at cu
    have g0:=cu (ax.self _)
    simp only [ax.self] at g0
    simp only [Nat.mul_one] at g0
    have aju:k < pt.size:=by have:=oK.out;omega
    have eg:=J (SQ pt aju);have cb:=J ay;clear ay bk cu
    by_cases aO:pt[k]= 110
    ·have ajL:((pt[k].toNat:Int) == 110)= true:=by rw [aO];rfl
     have Et:=J aO;clear aO
     cases zl:fg x
     ·have hP:=J (WB x (by unfold maxLen;omega) wr (jH.out.t.below aB) (jH.out.e.below aB))
      rw [YE zl] at hP
      have LI:=J zl;clear zl
      go_wp2_with fail
      refine hP.out.mono ?_
      rintro e bd ⟨rfl,bz⟩
      have RM:=ah aB bz
      have ra:nK rs pt.data.toList ws (k + 1)= none:=by rw [wC bJ.out eg.out cb.out,rX];rw [if_pos Et.out,LI.out];rfl
      exact adu
     ·have hP:=J (WB x (by unfold maxLen;omega) wr (jH.out.t.below aB) (jH.out.e.below aB))
      rw [YF zl] at hP
      have LI:=J zl;clear zl
      go_wp2_with fail
      refine hP.out.mono ?_
      rintro e bd ⟨rfl,bz⟩
      have aN:=ah aB bz;have NJ:=bz;clear g0;have gW:=dq.out.later NJ
      have ra:nK rs pt.data.toList ws (k + 1)= some (l ++ [hk x.data.toList]):=by rw [wC bJ.out eg.out cb.out,rX];rw [if_pos Et.out,LI.out];rfl
      have gu:=J ra;clear ra
      go_wp2_with (at_builtin;refine lA rfl _ _ 38 rfl w.heap.size 3 i0 _ 1 8 Tryz.underlying38 hi dy dC dN rfl (by decide) bR fZ pj _ (l) rfl (gW.alloc _) ⟨bd.heap.size,0,none⟩ 1 (hk x.data.toList) rfl (aH.one _ _) (by have:=nv.out;unfold maxLen;omega) (by have:=nv.out;omega) (by have:=aN.size;simp;omega) ?_;intro v4 ca fj gx lX)
      have gP:Below w w ca:=(aN.alloc aN.size _).grown gx (by have:=aN.size;simp;omega) (fun q aZ=>(gW.lt q aZ).1)
      go_roundw
      case rel=>exact⟨k + 1,l ++ [hk x.data.toList],by omega,by go_num,gu.out,fj,gP⟩
      case measure=>simp [intOf];omega
    ·have ajL:((pt[k].toNat:Int) == 110)= false:=by
      rw [beq_eq_false_iff_ne]
      intro e
      exact aO (UInt8.toNat_inj.1 (by have:(110:UInt8).toNat= 110:=rfl;omega))
     have Et:=J aO;clear aO
     cases hf:uE rs x with
     | none=>
      have hP:=J (Wx an c0 rs h0 dY bC.out x none hf wr (ff.out.below aB));have cB:=J hf;clear hf
      simp only [yf,Option.isSome_none] at hP
      go_wp2_with fail
      refine hP.out.mono ?_
      rintro e bd ⟨rfl,bz⟩
      have RM:Below w w (bd.alloc (.cells #[(0:Int),.string ⟨#[]⟩,(0:Int),false,false,false,(0:Int)] 89)):=(ah aB bz).alloc (ah aB bz).size _
      have ra:nK rs pt.data.toList ws (k + 1)= none:=by rw [wC bJ.out eg.out cb.out,rX];rw [if_neg Et.out,cB.out];rfl
      exact adu
     | some r=>
      obtain⟨id,nm,rk,ae,fw,am,ef,aX⟩:=r
      have hP:=J (Wx an c0 rs h0 dY bC.out x _ hf wr (ff.out.below aB));have cB:=J hf;clear hf
      simp only [yf,Option.isSome_some] at hP
      go_wp2_with fail
      refine hP.out.mono ?_
      rintro e bd ⟨rfl,bz⟩
      go_upto_region 11 with fail
      have UZ:=bz.alloc bz.size (.cells #[id,nm,rk,ae,fw,am,ef] 89);have bm:=aq.new bd 89 #[id,nm,rk,ae,fw,am,ef]
      generalize bd.alloc (.cells #[id,nm,rk,ae,fw,am,ef] 89)= hF at *
      have dd:=(bm.cell 0).trans (show _= some (.int .i64 id) from rfl);have aN:=ah aB UZ;have NJ:=UZ;clear g0;have gW:=dq.out.later NJ
      have ra:nK rs pt.data.toList ws (k + 1)= some (l ++ [id]):=by rw [wC bJ.out eg.out cb.out,rX];rw [if_neg Et.out,cB.out];rfl
      have gu:=J ra;clear ra
      go_wp2_with (at_builtin;refine lA rfl _ _ 38 rfl w.heap.size 3 i0 _ 1 8 Tryz.underlying38 hi dy dC dN rfl (by decide) bR fZ pj _ (l) rfl (gW.alloc _) ⟨hF.heap.size,0,none⟩ 1 (id) rfl (aH.one _ _) (by have:=nv.out;unfold maxLen;omega) (by have:=nv.out;omega) (by have:=aN.size;simp;omega) ?_;intro v4 ca fj gx lX)
      have gP:Below w w ca:=(aN.alloc aN.size _).grown gx (by have:=aN.size;simp;omega) (fun q aZ=>(gW.lt q aZ).1)
      go_roundw
      case rel=>exact⟨k + 1,l ++ [id],by omega,by go_num,gu.out,fj,gP⟩
      case measure=>simp [intOf];omega
   ·obtain rfl:k= ws.length:=by omega
    have kH:=dq.out
    obtain⟨Y,gT,rfl,_,_,_⟩:=kH.form fZ
    have vO:=J kH;clear kH
    go_wp2
    go_ret2
    exact⟨l,true,Y,gT,rfl,J (by rw [ly,if_pos oK.out,bJ.out];rfl),vO.out,aB⟩
 ·have eP:((ws.length:Int) != (pt.size:Int))= true:=by rw [bne_iff_ne];omega
  have oK:=J hlen;clear hlen aw cc bX aU Fa
  go_in
  go_wp2
  go_ret2
  exact⟨[],false,none,0,rfl,J (by rw [ly,if_neg oK.out];rfl),aV.nil,Below.refl _ _⟩
open Go.RowKit Go.G9
theorem Ys {rs:List aJ} {qs:List aL} {k:Nat} {q:aL} {r:aJ} (aZ:qs[k]? =some q) (bu:hD rs q.fW= some r):(qs.take (k + 1)).map (lx rs)= (qs.take k).map (lx rs) ++ [r.name]:=by rw [List.take_add_one,aZ];simp [lx,XZ bu]
theorem take_len {T uw:Type} {xs:List T} {f:T→uw} {k:Nat} (h:k≤xs.length):((xs.take k).map f).length= k:=by rw [List.length_map,List.length_take];omega
theorem adB {p:Prop} (h:p:=by
 have gP:Below w w ca:=(aN.alloc aN.size _).grown gx (by have:=aN.size;simp;omega) (fun q aZ=>(gW.lt q aZ).1)
 go_roundw
 case rel=>exact⟨k + 1,by omega,by go_num,by rw [gu.out];exact fj,gP⟩
 case measure=>simp [intOf];omega):p:=h
theorem aaD {p:Prop} (h:p:=by
 obtain rfl:k= qs.length:=by omega
 have kH:=dq.out
 rw [List.take_length] at kH
 obtain⟨Y,gT,rfl,_,_,_⟩:=kH.form kD
 have vO:=J kH;clear kH
 go_wp2
 go_ret2
 exact⟨Y,gT,rfl,vO.out,aB⟩):p:=h
theorem alu (an:Option Addr) (c0:Nat) (rs:List aJ) (h0:rs.length≤1048576) (dY:rs.length≤c0) (ar:Option Addr) (c1:Nat) (qs:List aL) (h1:qs.length≤1048576) (aO:dD rs qs= true) (w:World) (aU:aH 7 aJ.cells w an rs) (aT:aH 3 aL.cells w ar qs):
 Calls Tryz.prog 170 #[.slice an rs c0,.slice ar qs c1] w fun e ag=>∃D d,e= .returned (.tuple #[.slice D (qs.map (lx rs)).length d,true])∧aV w 9 1 hC ag (.slice D (qs.map (lx rs)).length d) (qs.map (lx rs))∧Below w w ag:=by
 obtain⟨i0,hi,dy,dC,dN⟩:=info_parts AR
 have Ae:=J aO;have ff:=J aU;have gm:=J aT;clear aO aU aT
 go_in
 go_wp2_with fail
 refine (nA an c0 rs h0 dY ar c1 qs h1 _ Ae.out _ ff.out gm.out).mono ?_
 rintro e wp ⟨rfl,Ax⟩
 have hJ:=aV.made (f:=hC) (sz:=1) wp (B:=w.heap.size) Ax.size 9;have atu:=Ax.size
 go_wp2
 go_loopw [6,16] (fun y i wr=>∃k:Nat,k≤qs.length∧i= .int .i64 k∧aV w 9 1 hC wr y ((qs.take k).map (lx rs))∧Below w w wr) (fun _ i _=>qs.length - (intOf i).toNat)
 case atStart=>exact⟨0,Nat.zero_le _,rfl,hJ,Ax.alloc Ax.size _⟩
 case round=>
  obtain⟨k,az,rfl,bP,aB⟩:=hrel
  have nv:Hid (((qs.take k).map (lx rs)).length= k):=J (take_len az);have dq:=J bP;clear bP hJ;have ajt:=(nr Ae.out).2.1
  by_cases bl:k < qs.length
  ·obtain⟨gJ,gL,⟨qr,cg,dw⟩,rfl,dU,aZ,oq⟩:=gm.out.at_ aB bl
   obtain⟨r,bu⟩:=oA Ae.out aZ
   have gu:=J (Ys aZ bu)
   obtain⟨id,nm,rk,ae,fw,am,ef,aX⟩:=r
   have qz:=J bu;have cu:=oq 0 _ rfl;have dI:=oq 1 _ rfl;have dj:=oq 2 _ rfl
   simp only [Nat.add_zero] at cu
   have g0:=cu (ax.self _);have g1:=dI (ax.self _);have g2:=dj (ax.self _)
   simp only [ax.self] at g0
   simp only [ax.self] at g1
   simp only [ax.self] at g2
   clear oq cu dI dj aZ bu
   go_upto_region 7 with fail
   have eh:=aq.new wr 115 #[qr,cg,dw];have iX:=aB.alloc aB.size (.cells #[qr,cg,dw] 115);have rF:=dq.out.alloc (.cells #[qr,cg,dw] 115)
   generalize wr.alloc (.cells #[qr,cg,dw] 115)= hF at *
   clear g0 g1 g2;have fy:=eh.cC;have aim:=eh.lt
   have sD:∀W:World,(Instr.field 89 (.agg #[id,nm,rk,ae,fw,am,ef]) 1).run Tryz.prog W= .ok (.string nm) W:=fun _=>by kernel_rfl
   have yB:=J rF;clear rF
   go_wp2_with fail
   refine (rq an c0 rs h0 ⟨qr,cg,dw⟩ ⟨id,nm,rk,ae,fw,am,ef,aX⟩ qz.out _ (ff.out.below iX)).mono ?_
   rintro e bd ⟨rfl,bz⟩
   have aN:=ah iX bz;have gW:=yB.out.later bz;clear fy eh aim
   go_wp2_with (at_builtin;refine lA rfl _ _ 57 rfl w.heap.size 9 i0 _ 1 16 Tryz.underlying57 hi dy dC dN rfl (by decide) hC kD Cn _ ((qs.take k).map (lx rs)) rfl (gW.alloc _) ⟨bd.heap.size,0,none⟩ 1 (nm) rfl (aH.one _ _) (by have:=nv.out;unfold maxLen;omega) (by have:=nv.out;omega) (by have:=aN.size;simp;omega) ?_;intro v4 ca fj gx lX)
   exact adB
  ·exact aaD
theorem apY (an:Option Addr) (c0:Nat) (rs:List aJ) (h0:rs.length≤1048576) (ar:Option Addr) (c1:Nat) (qs:List aL) (h1:qs.length≤1048576) (aO:dD rs qs= true) (w:World) (aU:aH 7 aJ.cells w an rs) (aT:aH 3 aL.cells w ar qs):
 Calls Tryz.prog 188 #[.slice an rs c0,.slice ar qs c1] w fun e ag=>∃D d,e= .returned (.tuple #[.slice D (qs.map (lx rs)).length d,true])∧aV w 9 1 hC ag (.slice D (qs.map (lx rs)).length d) (qs.map (lx rs))∧Below w w ag:=by
 obtain⟨i0,hi,dy,dC,dN⟩:=info_parts AR
 have Ae:=J aO;have ff:=J aU;have gm:=J aT;clear aO aU aT;have hJ:=aV.made (f:=hC) (sz:=1) w (B:=w.heap.size) (Nat.le_refl _) 9;have oO:Below w w (w.alloc (.cells #[] 9)):=bZ _ _
 go_in
 go_upto_region 2 with fail
 generalize w.alloc (.cells #[] 9)= Qy at *
 have lP:=J hJ;clear hJ
 go_wp2_with fail
 refine (ox an c0 rs h0 ar c1 qs h1 _ Ae.out _ (ff.out.below oO) (gm.out.below oO)).mono ?_
 rintro e wp ⟨rfl,Ax⟩
 have wb:=ah oO Ax;have gW:=lP.out.later Ax
 go_wp2
 go_loopw [6,7] (fun y i wr=>∃k:Nat,k≤qs.length∧i= .int .i64 k∧aV w 9 1 hC wr y ((qs.take k).map (lx rs))∧Below w w wr) (fun _ i _=>qs.length - (intOf i).toNat)
 case atStart=>exact⟨0,Nat.zero_le _,rfl,gW,wb⟩
 case round=>
  obtain⟨k,az,rfl,bP,aB⟩:=hrel
  have nv:Hid (((qs.take k).map (lx rs)).length= k):=J (take_len az);have dq:=J bP;clear bP gW;have ajt:=(nr Ae.out).2.1
  by_cases bl:k < qs.length
  ·obtain⟨gJ,gL,⟨qr,cg,dw⟩,rfl,dU,aZ,oq⟩:=gm.out.at_ aB bl
   obtain⟨r,bu⟩:=oA Ae.out aZ
   have gu:=J (Ys aZ bu)
   obtain⟨j,bH,uX⟩:=rL bu
   have ie:j < rs.length:=(List.getElem?_eq_some_iff.1 uX).1
   obtain⟨gh,rS,fT,rfl,Vc,pg,tw⟩:=ff.out.at_ aB ie
   obtain rfl:r= fT:=Option.some.inj (uX.symm.trans pg)
   obtain⟨id,nm,rk,ae,fw,am,ef,aX⟩:=r
   have eH:=J bH;have cu:=oq 0 _ rfl (ax.self _);have f1:=tw 1 _ rfl (ax.self _)
   simp only [Nat.add_zero,ax.self] at cu f1
   clear oq aZ bu tw pg uX bH
   go_wp2_with fail
   refine (vj _ c0 rs h0 qr _ eH.out _ (ff.out.below aB)).mono ?_
   rintro e w0 ⟨rfl,Uj⟩
   rw [Uj]
   clear Uj w0;have aN:=aB;have gW:=dq.out
   go_wp2_with (at_builtin;refine lA rfl _ _ 57 rfl w.heap.size 9 i0 _ 1 16 Tryz.underlying57 hi dy dC dN rfl (by decide) hC kD Cn _ ((qs.take k).map (lx rs)) rfl (gW.alloc _) ⟨wr.heap.size,0,none⟩ 1 (nm) rfl (aH.one _ _) (by have:=nv.out;unfold maxLen;omega) (by have:=nv.out;omega) (by have:=aN.size;simp;omega) ?_;intro v4 ca fj gx lX)
   exact adB
  ·exact aaD
open Go.RowKit Go.G9
theorem Yf {T:Type} {B:Nat} {e:TypeId} {sz:Nat} {f:T→List Value} {w:World} {v:Value} {xs:List T} (h:aV B e sz f w v xs) (aY:0 < xs.length):∃g c,v= .slice (some ⟨g,0,none⟩) xs c:=by
 obtain⟨_,h⟩:=h
 rcases h with ⟨_,h0⟩ | ⟨g,cap,_,h,_⟩
 ·omega
 ·exact⟨g,cap,h⟩
open Go.RowKit Go.G9
def ZB:Value→Nat
 | .slice _ n _=>n
 | _=>0
theorem aqb (af ae sp:Int) (aj:Option Addr) (c2:Nat) (ws:List Int) (ak:Option Addr) (c3:Nat) (U:List aI) (h2:ws.length≤1048576) (h3:U.length≤1048576) (n2:aj= none→ws= []∧c2= 0) (n3:ak= none→U= []∧c3= 0) (cp:ws.length≤c2) (aw:gp af ae sp ws U= true) (w:World) (bj:aH 1 bR w aj ws) (bh:aH 3 aI.cells w ak U):
 Calls Tryz.prog 190 #[.agg #[af,ae,sp,.slice aj ws c2,.slice ak U c3]] w fun e ag=>∃D d,e= .returned (.tuple #[.slice D (kM ⟨af,ae,sp,ws,U⟩).length d,true])∧aV w 3 1 bR ag (.slice D (kM ⟨af,ae,sp,ws,U⟩).length d) (kM ⟨af,ae,sp,ws,U⟩)∧Below w w ag:=by
 obtain⟨i0,hi,dy,dC,dN⟩:=info_parts rN
 have bC:=J aw;have je:=J n2;have iV:=J n3;have atH:=(Jd.1 aw).l;clear aw n2 n3
 go_in
 go_upto_region 1 with fail
 refine cR fun aF au ai=>?_
 replace bj:=bj.below au;replace bh:=bh.below au;have I:=au;have aD:=ai.aP
 go_upto_region 2 with fail
 have hJ:=aV.made (f:=bR) (sz:=1) aF (B:=w.heap.size) I.size 3;have eO:Below aF aF (aF.alloc (.cells #[] 3)):=bZ _ _
 obtain⟨yn,JF⟩ :∃b,b= aF.heap.size:=⟨_,rfl⟩
 have Wq:yn < (aF.alloc (.cells #[] 3)).heap.size:=by rw [JF];simp
 rw [← JF] at hJ
 generalize FR:aF.alloc (.cells #[] 3)= ky at *
 rw [← JF]
 clear JF FR;have lP:=J hJ;clear hJ;have ao:=be aF eO;replace I:=ah I ao;replace bj:=bj.below ao;replace bh:=bh.below ao;replace ai:=ai.to ao;clear aD;have aD:=ai.aP
 go_wp2_with fail
 refine (mR af ae sp aj ws c2 ak c3 U h2 h3 cp _ bC.out _ (bj.below av) (bh.below av)).mono ?_
 rintro e bB ⟨rfl,bG⟩
 have aK:=be ky bG;replace I:=ah I aK;replace bj:=bj.below aK;replace bh:=bh.below aK;replace ai:=ai.to aK;clear aD;have aD:=ai.aP;have lB:=J (lP.out.later aK);have xN:yn < bB.heap.size:=Nat.lt_of_lt_of_le Wq aK.size;have atS:=I.size
 go_wp2_with fail
 refine (Hc af ae sp aj c2 ws ak c3 U h2 h3 je.out iV.out _ (bj.below av) (bh.below av)).mono ?_
 rintro e ca ⟨bg,d2,bn,d3,rfl,OF,cU⟩
 have bS:=be bB cU;replace I:=ah I bS;replace ai:=ai.to bS;clear aD;have hx:=J (lB.out.later bS);have bA:=OF.fk;have bq:=OF.fJ
 have eP:qE (.slice yn ([]:List Int).length 0) (.slice bg ws d2):=fun k h1 h2=>by
  have e:yn= k:=Option.some.inj h1;have:=(bA.lt k h2).1
  omega
 have oX:=J eP;clear OF eP xN Wq lP lB bj bh
 go_upto_region 5 with fail
 obtain⟨lG,nE⟩ :∃b,b= ca.heap.size:=⟨_,rfl⟩
 refine cR fun aad cx bm=>?_
 replace bA:=bA.later cx;replace bq:=bq.later cx;replace I:=ah I cx;have cL:=bm.aP
 rw [← nE] at bm
 rw [← nE]
 have ka:=J (hx.out.later cx)
 have wb:w.heap.size≤lG:=by have:=ai.lt;omega
 have uu:=J (bA.base (B':=w.heap.size) (by omega));have uv:=J (bq.base (B':=w.heap.size) (by omega));have yz:=J bm;have RL:=J I;clear nE hx bA bq ai bm cL
 go_wp2
 go_loopw [4] (fun y wr=>∃(fU fs:List Int) (W:Option Addr) (uD:Nat) (Y:Option Addr) (ss:Nat),y= .slice Y fs ss∧fU.length + fs.length= ws.length∧Hid (kM ⟨af,ae,sp,ws,U⟩ =fs ++ kM ⟨af,ae,sp,fU,U⟩)∧aV w 3 1 bR wr (.slice Y fs ss) fs∧aV w 3 1 bR wr (.slice W fU uD) fU∧aV w 214 3 aI.cells wr (.slice bn U d3) U∧aq wr lG 41 #[af,ae,sp,.slice W fU uD,.slice bn U d3]∧Hid (qE (.slice Y fs ss) (.slice W fU uD))∧Below w w wr) (fun y _=>ws.length - ZB y)
 case atStart=>exact⟨ws,[],bg,d2,some ⟨yn,0,none⟩,0,rfl,rfl,J rfl,ka.out,uu.out,uv.out,yz.out,oX,RL.out⟩
 case round=>
  clear ka uu uv yz RL oX I
  obtain⟨fU,fs,W,uD,Y,ss,rfl,hlen,eA,bP,bI,yW,bm,gu,I⟩:=hrel
  have oK:=J hlen;clear hlen;have dq:=J bP;have nN:=J bI;have fG:=J yW;clear bP bI yW
  by_cases cc:0 < fU.length
  ·obtain⟨FI,asK,agq⟩:=Yf nN.out cc
   injection agq with agr _ ags
   subst agr
   subst ags
   have sB:=rU nN.out fZ
   obtain⟨m,hm,iS⟩:=aqw ⟨af,ae,sp,fU,U⟩ cc
   simp only [yl] at hm iS
   obtain⟨j,bH⟩ :∃j,ku ⟨af,ae,sp,fU,U⟩ fU.length= j:=⟨_,rfl⟩
   have RX:=J (fun W (h:Below wr wr W)=>Xf af ae sp (some ⟨FI,0,none⟩) uD fU bn d3 U (by have:=oK.out;omega) h3 (fun h=>by cases h) fG.out.mS sB (rU fG.out ij) cc W (nN.out.later h).dE (fG.out.later h).dE)
   rw [bH] at hm iS RX
   have ie:j < fU.length:=(List.getElem?_eq_some_iff.1 hm).1;have dR:=J hm;have BX:=J iS;clear bH hm iS;have cL:=bm.aP
   go_wp2_with fail
   refine (RX.out _ (Below.refl _ _)).mono ?_
   rintro e gZ ⟨rfl,pe⟩
   have eD:=be wr pe;replace I:=ah I eD;replace bm:=bm.to eD;clear cL;have cL:=bm.aP;have CP:=nN.out.later eD;have gW:=dq.out.later eD;have Us:=fG.out.later eD;have Sm:=J CP;have lB:=J gW;have RQ:=J Us;have g0:=rV CP fZ dR.out (i:=0) (u:= .int .i64 m) rfl
   simp only [Nat.mul_one,Nat.add_zero] at g0
   have oQ:fs.length≤1048576:=by have:=oK.out;omega
   have nv:Hid (fs.length= fs.length):=J rfl;have UD:=I;clear CP gW Us
   go_upto_region 8 with (at_builtin;refine lA rfl _ _ 38 rfl w.heap.size 3 i0 _ 1 8 Tryz.underlying38 hi dy dC dN rfl (by decide) bR fZ pj _ (fs) rfl (lB.out.alloc _) ⟨gZ.heap.size,0,none⟩ 1 (m) rfl (aH.one _ _) (by have:=nv.out;unfold maxLen;omega) (by have:=nv.out;omega) (by have:=UD.size;simp;omega) ?_;intro v4 Bz fj gx lX)
   have rJ:=qg (lU (bZ gZ (.cells #[m] 3)) _) gx;have gP:aq Bz lG 41 #[af,ae,sp,.slice FI fU uD,.slice bn U d3]:=bm.kG rJ (fun e=>lB.out.tH bm (by decide) lG e.symm rfl);have CO:qE v4 (.slice FI fU uD):=qE.step (H:=(World.alloc gZ (.cells #[m] 3)).heap.size) gu.out (fun k az=>by have:=(Sm.out.lt k az).2;simp;omega) lX
   have wa:aV w 3 1 bR Bz (.slice FI fU uD) fU:=Sm.out.ne rJ gu.out;have Ut:aV w 214 3 aI.cells Bz (.slice bn U d3) U:=RQ.out.kept rJ (RQ.out.apart lB.out (by decide));have BM:Below w w Bz:=I.grown rJ I.size (fun q aZ=>(lB.out.lt q aZ).1);clear bm g0 I UD
   obtain⟨SG,Tr,e4,_,_,_⟩:=fj.form fZ
   subst e4
   rw [List.length_append,List.length_singleton] at fj CO
   rw [List.length_append,List.length_singleton]
   have lj:=J fj;have LR:=J wa;have adY:=J Ut;clear fj wa Ut CO gx lX rJ;have I:=BM;have RN:=BM.size;clear BM;have cL:=gP.aP
   go_wp2_with fail
   refine (Xh (some ⟨FI,0,none⟩) uD fU (by have:=oK.out;omega) sB j ie _ LR.out.dE).mono ?_
   rintro e zG ⟨g6,rB,rfl,uj,uL⟩
   have rb:=be Bz uL;replace I:=ah I rb;replace gP:=gP.to rb;clear cL;have cL:=gP.aP;have nc:=J (lj.out.later rb);have RR:=J (adY.out.later rb);have Iu:=J uj
   have aep:Hid (qE (.slice SG (fs.length + 1) Tr) (.slice g6 (fU.length - 1) rB)):=J fun k h1 h2=>by
    have:=(lj.out.lt k h1).2;have:=(uj.lt k h2).1
    omega
   have Wc:w.heap.size≤Bz.heap.size:=RN;have Lq:=J gP;clear uj RN;have asM:=gP.frozen 3
   go_wp2
   obtain⟨mo,FQ⟩ :∃X,X= World.setCell zG ⟨lG,3,none⟩ (.slice g6 (fU.length - 1) rB):=⟨_,rfl⟩
   have eN:dA zG lG 3 [.slice g6 (fU.length - 1) rB] mo:=by rw [FQ];exact dA.cons dA.nil
   rw [← FQ]
   clear FQ cL;have Ar:aq mo lG 41 #[af,ae,sp,.slice g6 (fU.length - 1) rB,.slice bn U d3]:=eN.own gP;have zS:=eN.aE I;have ng:=nc.out.bW eN (nc.out.tH Lq.out (by decide));have Rv:=RR.out.bW eN (RR.out.tH Lq.out (by decide));have Mk:=(Iu.out.base (B':=w.heap.size) Wc).bW eN (Iu.out.tH Lq.out (by decide))
   have Jw:(fU.take j ++ fU.drop (j + 1)).length= fU.length - 1:=by simp;omega
   go_roundw
   case rel=>exact⟨fU.take j ++ fU.drop (j + 1),fs ++ [m],g6,rB,SG,Tr,by rw [List.length_append,List.length_singleton],by have:=oK.out;rw [Jw,List.length_append,List.length_singleton];omega,J (by rw [eA.out,BX.out];simp),by rw [List.length_append,List.length_singleton];exact ng,by rw [Jw];exact Mk,Rv,by rw [Jw];exact Ar,J (by rw [Jw,List.length_append,List.length_singleton];exact aep.out),zS⟩
   case measure=>simp [ZB];have:=oK.out;omega
  ·have dy:fU.length= 0:=by omega
   have jM:kM ⟨af,ae,sp,ws,U⟩ =fs:=by rw [eA.out,aqv dy,List.append_nil]
   have cB:=J jM;clear dy jM;have cL:=bm.aP
   go_wp2
   go_ret2
   exact⟨Y,ss,by rw [cB.out];rfl,by rw [cB.out];exact dq.out,I⟩
open Go.RowKit Go.G9
theorem Ui {rs:List aJ} {r:aJ} (h:r ∈ rs):∃x,hD rs r.id= some x:=by
 unfold hD
 cases hf:rs.find? (fun x=>x.id == r.id) with
 | some x=>exact⟨x,rfl⟩
 | none=>have:=List.find?_eq_none.1 hf r h;simp at this
theorem XD {rs:List aJ} {qs:List aL} {k:Nat} {id:Int} (h:(hz rs qs)[k]? =some id):∃r,hD rs id= some r:=by
 have h:=List.mem_of_getElem? h
 unfold hz at h
 split at h
 ·obtain⟨r,bu,rfl⟩:=List.mem_map.1 h;exact Ui bu
 ·split at h
  ·split at h
   ·simp at h
   ·obtain⟨r,bu,rfl⟩:=List.mem_map.1 h;exact Ui (List.mem_filter.1 bu).1
  ·simp at h
theorem Po {rs:List aJ} {qs:List aL}:(hz rs qs).length≤rs.length:=by
 exact abu
theorem XX {rs:List aJ} {xs:List Int} {k:Nat} {id:Int} {r:aJ} (ay:xs[k]? =some id) (bu:hD rs id= some r):(xs.take (k + 1)).map (lL rs)= (xs.take k).map (lL rs) ++ [r.name]:=by rw [List.take_add_one,ay];simp [XZ bu]
theorem SX {w ag:World} {a b c:Addr} {x y z:Value} {row:Option Nat} (h:w.cell? a= some x∧w.cell? b= some y∧w.cell? c= some z) (cw:w.grownBy ag row) (n1:some a.block≠row) (n2:some b.block≠row) (n3:some c.block≠row):ag.cell? a= some x∧ag.cell? b= some y∧ag.cell? c= some z:=⟨cw.cell h.1 n1,cw.cell h.2.1 n2,cw.cell h.2.2 n3⟩
theorem Cq {w ag:World} {a b c:Addr} {x y z:Value} (h:w.cell? a= some x∧w.cell? b= some y∧w.cell? c= some z) (aB:Below w w ag):ag.cell? a= some x∧ag.cell? b= some y∧ag.cell? c= some z:=SX h (lU aB none) (by simp) (by simp) (by simp)
theorem Yd {T:Type} {B:Nat} {e:TypeId} {sz:Nat} {f:T→List Value} {w:World} {b o n c:Nat} {xs:List T} (h:aV B e sz f w (.slice (some ⟨b,o,none⟩) n c) xs) (aY:0 < xs.length):(Value.slice (some ⟨b,o,none⟩) n c).ownBlock= some b:=by
 rcases h.2 with ⟨_,h0⟩ | ⟨g,cap,cur,aw,_⟩
 ·omega
 ·injection aw with h1 _ _
  injection h1 with h2
  injection h2 with h3 h4
  subst h3;subst h4;rfl
theorem abZ {p:Prop} (h:p:=by
 have h2:=Yd iv.out (by omega)
 exact dq.out.apart iv.out (by decide) q aZ (by rw [h2,e])):p:=h
theorem acm {p:Prop} (h:p:=by
 go_wp2_with (at_builtin;refine lA rfl _ _ 57 rfl aF.heap.size 9 i0 _ 1 16 Tryz.underlying57 hi dy dC dN rfl (by decide) hC kD Cn _ ((ys.take k).map (lL rs)) rfl (pc.alloc _) ⟨KL.heap.size,0,none⟩ 1 (nm) rfl (aH.one _ _) (by have:=nv.out;unfold maxLen;omega) (by have:=nv.out;omega) (by have:=aN.size;simp;omega) ?_;intro v4 ca fj gx lX)
 have rJ:=qg (lU (rz.alloc rz.size (.cells #[nm] 9)) _) gx;have gP:Below aF aF ca:=(aN.alloc aN.size _).grown gx (by have:=aN.size;simp;omega) (fun q aZ=>(dq.out.lt q aZ).1);have ait:=iv.out.kept rJ (iv.out.apart dq.out (by decide))
 refine hn ((di.out _).2 (SX vK.out rJ (fun e=>iV.out.1 _ e.symm rfl) (fun e=>iV.out.2.1 _ e.symm rfl) (fun e=>iV.out.2.2 _ e.symm rfl))) (dZ _ _ ?_)
 refine mA ?_
 change wpQuiet _ _ _ _ (_ ::[]) _
 repeat (go_big_quiet_step (fail))
 refine wpQuiet_nil ?_
 go_wp2
 go_roundw
 case rel=>exact⟨k + 1,by omega,by go_num,by rw [gu.out];exact fj,ait,gP⟩
 case measure=>simp [intOf];omega):p:=h
theorem apI (an:Option Addr) (c0:Nat) (ar:Option Addr) (c1:Nat) (aj:Option Addr) (c2:Nat) (ak:Option Addr) (c3:Nat) (aA:Option Addr) (c4:Nat) (rs:List aJ) (qs:List aL) (af ae sp:Int) (ws:List Int) (U:List aI) (os:List Out) (h0:rs.length≤1000) (h1:qs.length≤1048576) (aO:dD rs qs= true) (w:World) (aU:aH 7 aJ.cells w an rs) (aT:aH 3 aL.cells w ar qs):
 Calls Tryz.prog 94 #[.agg #[.slice an rs c0,.slice ar qs c1,af,ae,sp,.slice aj ws c2,.slice ak U c3,.slice aA os c4]] w fun e ag=>∃D d,e= .returned (.slice D ((hz rs qs).map (lL rs)).length d)∧aV w 9 1 hC ag (.slice D ((hz rs qs).map (lL rs)).length d) ((hz rs qs).map (lL rs))∧Below w w ag:=by
 obtain⟨i0,hi,dy,dC,dN⟩:=info_parts AR
 have Aa:=J (fun k id (h:(hz rs qs)[k]? =some id)=>XD h);have jE:=Po (rs:=rs) (qs:=qs);have Ly:=J (fun W (h:aH 7 aJ.cells W an rs) (du:aH 3 aL.cells W ar qs)=>Ph an c0 rs (by omega) ar c1 qs h1 aO W h du)
 generalize hz rs qs= ys at *
 clear aO
 go_in
 go_upto_region 1 with fail
 obtain⟨sJ,lZ⟩ :∃b,b= w.heap.size:=⟨_,rfl⟩
 refine cR fun aF au aW=>?_
 replace aU:=aU.below au;replace aT:=aT.below au;have I:=au
 obtain⟨m0,m1,m2,m3,m4,m5,m6,m7⟩:=aW.aG
 rw [← lZ] at aW m0 m1 m2 m3 m4 m5 m6 m7
 rw [← lZ]
 have zS:=J (fun b o (e:an= some ⟨b,o,none⟩) (aY:0 < rs.length)=>(show b < aF.heap.size by obtain⟨cL,mU,gC,eW,_⟩:=aU aY;rw [e] at gC;injection gC with gC;injection gC with e1 _;omega));have sf:=J aW;have ff:=J aU;have CR:=I.size
 go_upto_region 2 with fail
 have hJ:=aV.made (f:=hC) (sz:=1) aF (B:=aF.heap.size) (Nat.le_refl _) 9;have eO:Below aF aF (aF.alloc (.cells #[] 9)):=bZ _ _
 generalize FR:aF.alloc (.cells #[] 9)= ky at *
 have lP:=J hJ;clear hJ lZ;clear aW m0 m1 m2 m3 m4 m5 m6 m7;have yz:=J I;have ao:=be aF eO;replace aU:=aU.below ao;replace aT:=aT.below ao;have ts:=sf.out.below eO sf.out.lt
 obtain⟨m0,m1,m2,m3,m4,m5,m6,m7⟩:=ts.aG
 go_wp2_with fail
 refine (Ly.out _ (aU.below av) (aT.below av)).mono ?_
 rintro e bB ⟨Y,ss,rfl,EN,bG⟩
 have aK:=be ky bG;replace ts:=ts.to aK;clear m0 m1 m2 m3 m4 m5 m6 m7
 obtain⟨m0,m1,m2,m3,m4,m5,m6,m7⟩:=ts.aG
 have gW:=lP.out.later aK;have FW:=EN.base (B':=aF.heap.size) eO.size;have FN:=ah eO aK;clear aU aT lP EN I
 go_wp2
 clear m0 m1 m2 m3 m4 m5 m6 m7 ts
 go_loopw [3,5] (fun y i wr=>∃k:Nat,k≤ys.length∧i= .int .i64 k∧aV aF 9 1 hC wr y ((ys.take k).map (lL rs))∧aV aF 3 1 bR wr (.slice Y ys ss) ys∧Below aF aF wr) (fun _ i _=>ys.length - (intOf i).toNat)
 case atStart=>exact⟨0,Nat.zero_le _,rfl,gW,FW,FN⟩
 case round=>
  clear gW FW FN
  obtain⟨k,az,rfl,bP,FV,aB⟩:=hrel
  have nv:Hid (((ys.take k).map (lL rs)).length= k):=J (take_len az);have dq:=J bP;have iv:=J FV;clear bP FV
  by_cases bl:k < ys.length
  ·skip
   obtain⟨xe,Hn,id,ND,aiJ,hid,Gl⟩:=(iv.out.dE (hf:=fZ)).at_ (Below.refl _ _) bl
   obtain⟨r,bu⟩:=Aa.out k id hid
   obtain⟨j,bH,uX⟩:=rL bu
   have ie:j < rs.length:=(List.getElem?_eq_some_iff.1 uX).1
   obtain⟨gh,rS,fT,uF,Vc,pg,tw⟩:=ff.out.at_ aB ie
   obtain rfl:r= fT:=Option.some.inj (uX.symm.trans pg)
   have gu:=J (XX hid bu)
   obtain⟨HS,nm,rk,ae,fw,am,ef,aX⟩:=r
   have a0:=Gl 0 _ rfl (ax.self _);have n1:=tw 1 _ rfl (ax.self _)
   simp only [Nat.add_zero,Nat.mul_one,ax.self] at a0 n1
   have eH:=J bH
   subst ND uF
   go_upto_region 6 with fail
   have yX:=sf.out.below aB sf.out.lt;have m0:=(yX.cell 0).trans (show _= some (.slice (some ⟨gh,rS,none⟩) rs c0) from rfl);have vK:=J (show wr.cell? ⟨sJ,0,none⟩ =some (.slice (some ⟨gh,rS,none⟩) rs c0)∧wr.cell? ⟨xe,Hn + k,none⟩ =some (.int .i64 id)∧wr.cell? ⟨gh,rS + j * 7 + 1,none⟩ =some (.string nm) from⟨m0,a0,n1⟩)
   have mr:∀q,u3.ownBlock= some q→sJ≠q:=fun q aZ e=>dq.out.tH yX (by decide) q aZ e.symm
   have qZ:∀q,u3.ownBlock= some q→xe≠q:=fun q aZ e=>by
    exact abZ
   have qj:∀q,u3.ownBlock= some q→gh≠q:=fun q aZ e=>by have:=(dq.out.lt q aZ).1;have:=zS.out gh rS rfl (by omega);omega
   have iV:=J (⟨mr,qZ,qj⟩ :(∀q,u3.ownBlock= some q→sJ≠q)∧(∀q,u3.ownBlock= some q→xe≠q)∧(∀q,u3.ownBlock= some q→gh≠q));clear Gl hid bu tw pg uX bH mr qZ qj m0 a0 n1 yX
   obtain⟨eX,gV⟩ :∃X:World→Prop,∀V,X V↔V.cell? ⟨sJ,0,none⟩ =some (.slice (some ⟨gh,rS,none⟩) rs c0)∧V.cell? ⟨xe,Hn + k,none⟩ =some (.int .i64 id)∧V.cell? ⟨gh,rS + j * 7 + 1,none⟩ =some (.string nm):=⟨_,fun _=>Iff.rfl⟩
   have di:=J gV;clear gV
   haveI:Nonempty (cN eX):=⟨⟨wr,(di.out _).2 vK.out⟩⟩
   have m0:=fun K:cN eX=>((di.out _).1 K.holds).1
   have a0:=fun K:cN eX=>((di.out _).1 K.holds).2.1
   have n1:=fun K:cN eX=>((di.out _).1 K.holds).2.2
   refine oU eX [([0,1,2,3,4,5,6,7,8],9),([10,11,12],13),([],14)] [15] (by kernel_rfl) (by kernel_rfl) ((di.out _).2 (Cq vK.out (Below.refl _ _).drew)) ?_
   have hl:Below wr wr wr.drew:=(Below.refl _ _).drew
   generalize wr.drew= wd at *
   refine ha fun gz dZ=>?_
   change wpQuiet _ _ _ _ (_ ::_ ::_ ::_ ::_ ::_ ::_ ::_ ::_ ::[]) _
   repeat (go_big_quiet_step (fail))
   refine wpQuiet_nil ?_
   change wpList _ _ _ (_ ::[]) _ _
   go_wp2_with fail
   refine (vj _ c0 rs (by omega) id _ eH.out _ (ff.out.below (ah aB hl))).mono ?_
   rintro e KL ⟨rfl,xM⟩
   have rz:Below wr wr KL:=by rw [xM];exact hl
   clear xM
   go_wp2
   refine hn ((di.out _).2 (Cq vK.out rz)) (dZ _ _ ?_)
   refine ha fun gz dZ=>?_
   change wpQuiet _ _ _ _ (_ ::_ ::_ ::[]) _
   repeat (go_big_quiet_step (fail))
   refine wpQuiet_nil ?_
   change wpList _ _ _ (_ ::[]) _ _
   go_wp2
   refine hn ((di.out _).2 (Cq vK.out (rz.alloc rz.size _))) (dZ _ _ ?_)
   refine ha fun gz dZ=>?_
   change wpQuiet _ _ _ _ ([]) _
   refine wpQuiet_nil ?_
   change wpList _ _ _ (_ ::[]) _ _
   have aN:=ah aB rz;have pc:=dq.out.later rz
   exact acm
  ·obtain rfl:k= ys.length:=by omega
   have kH:=dq.out
   rw [List.take_length] at kH
   obtain⟨Mm,kA,rfl,_,_,_⟩:=kH.form kD
   have vO:=J kH;clear kH
   go_wp2
   go_ret
   exact⟨Mm,kA,rfl,vO.out.base CR,ah yz.out aB⟩
open Go.RowKit Go.G9
theorem Kh {rs:List aJ} (h:kx rs= true) (id:Int):(lL rs id).size≤10:=by
 unfold lL
 cases hf:hD rs id with
 | none=>exact Nat.zero_le _
 | some r=>exact anm h hf
theorem IK {os:List Out} {x:Int}:∀{k:Nat},x ∈ ko os k→∃o,o ∈ os∧o.fW= x
 | 0,h=>by simp [ko] at h
 | k + 1,h=>by
  unfold ko at h
  split at h
  ·rename_i o cY
   split at h
   ·rcases List.mem_append.1 h with h | h
    ·exact IK h
    ·simp at h;exact⟨o,List.mem_of_getElem? cY,h.symm⟩
   ·exact IK h
  ·exact IK h
theorem SM {m:cz} (h:gM m):∀x ∈ ko m.bt m.bt.length,-999999≤x∧x≤999999:=fun x ay=>by
 obtain⟨o,cY,rfl⟩:=IK ay
 have h1:=h.Ho o cY
 unfold qu at h1
 rw [Bool.and_eq_true] at h1
 cases hf:hD m.br o.fW with
 | none=>rw [hf] at h1;simp at h1
 | some r=>
  obtain⟨k,az⟩:=List.mem_iff_getElem?.1 (List.mem_of_find?_eq_some hf)
  have aB:=zA (zB (nr h.hq).1 az)
  have he:r.id= o.fW:=by have:=List.find?_some hf;simpa using this
  omega
theorem ZD {m:cz} (h:gM m):∀x ∈ kM m.gD,-999999≤x∧x≤999999:=fun x ay=>by
 have hm:=XE (t:=jd m.gD) ay;have h1:=((ln.1 h.gD).w x hm).1;have:=rM.1 h1
 omega
theorem Pr (os:List Out) (n:Int):∀k,0≤(hE os n k).1∧(hE os n k).1≤k∧0≤(hE os n k).2∧(hE os n k).2≤k
 | 0=>by simp [hE]
 | k + 1=>by
  have:=Pr os n k
  unfold hE
  split
  ·split
   ·split <;> simp <;> omega
   ·simp;omega
  ·simp;omega
theorem aoA (w:World) (a b:Int):aH 1 bR (w.alloc (.cells #[a,b] 3)) (some ⟨w.heap.size,0,none⟩) [a,b]:=fun _=>⟨w.heap.size,0,rfl,by simp,fun i x ay j u hu=>by
 match i,j,ay,hu with
 | 0,0,ay,hu=>cases ay;cases hu;exact ((aq.new w 3 #[a,b]).cell 0).trans rfl
 | 1,0,ay,hu=>cases ay;cases hu;exact ((aq.new w 3 #[a,b]).cell 1).trans rfl
 | 0,_ + 1,ay,hu=>cases ay;simp [bR] at hu
 | 1,_ + 1,ay,hu=>cases ay;simp [bR] at hu
 | _ + 2,_,ay,hu=>simp at ay⟩
theorem QR {p:Prop} (h:p:=by
 rintro e bB ⟨rfl,bG⟩
 have aK:=be aM bG;replace I:=ah I aK;replace bX:=bX.below aK
 go_wp2
 go_ret2
 exact⟨_,rfl,fun y hy=>Option.some.inj hy,(ah I av)⟩):p:=h
theorem afB (an ar aj ak aA:Option Addr) (c0 c1 c2 c3 c4:Nat) (rs:List aJ) (qs:List aL) (af ae sp:Int) (ws:List Int) (U:List aI) (os:List Out) (Z:eC an ar aj ak aA c0 c1 c2 c3 c4 rs qs ws U os) (h:gM ⟨rs,qs,af,ae,sp,ws,U,os⟩) (s:ByteArray) (cB:zQ s 3) (L:Option Addr) (lc:Nat) (w:World) (R:ea w an ar aj ak aA rs qs ws U os) (nO:aH 1 bR w L []) (bX:pZ w):
 Calls Tryz.prog 102 #[.agg #[.slice an rs c0,.slice ar qs c1,af,ae,sp,.slice aj ws c2,.slice ak U c3,.slice aA os c4],s,.slice L ([]:List Int).length lc] w fun e ag=>∃x:ByteArray,e= .returned (.tuple #[x,.bool (jU ⟨rs,qs,af,ae,sp,ws,U,os⟩ 3 []).isSome])∧(∀y,jU ⟨rs,qs,af,ae,sp,ws,U,os⟩ 3 []= some y→x= y)∧Below w w ag:=by
 obtain⟨f0,f1,f2,f3,f4,f5,f6,f7,f8,f9,f10,f11,f12,f13,f14⟩:=cB
 simp only [Nat.reduceBEq] at f0 f1 f2 f3 f4 f5 f6 f7 f8 f9 f10 f11 f12 f13 f14
 have LG:=J (fun W (h1:aH 7 aJ.cells W an rs) (h2:aH 3 aL.cells W ar qs)=>alu an c0 rs Z.h0 Z.dY ar c1 qs Z.h1 h.hq W h1 h2)
 have pf:(qs.map (lx rs)).length≤1000:=by have:=(tE h).2.1;rw [List.length_map];simp only at this;omega
 have LB:=J (show∀x ∈ qs.map (lx rs),x.size≤1000 from fun x ay=>by obtain⟨q,_,rfl⟩:=List.mem_map.1 ay;have:=Kh (nr h.hq).1 q.fW;unfold lx;simp only at this;omega);have ua:Hid (jU ⟨rs,qs,af,ae,sp,ws,U,os⟩ 3 []= some (lu (qs.map (lx rs)))):=J rfl
 generalize qs.map (lx rs)= xX at *
 clear h Z nO
 rw [ua.out]
 go_in
 go_upto_region 1 with fail
 have au:Below w w (World.alloc w (.cells #[.slice an rs c0,.slice ar qs c1,af,ae,sp,.slice aj ws c2,.slice ak U c3,.slice aA os c4] 44)):=bZ w _
 have aW:aq (World.alloc w (.cells #[.slice an rs c0,.slice ar qs c1,af,ae,sp,.slice aj ws c2,.slice ak U c3,.slice aA os c4] 44)) (w.heap.size) 44 #[.slice an rs c0,.slice ar qs c1,af,ae,sp,.slice aj ws c2,.slice ak U c3,.slice aA os c4]:=by repeat (first | exact aq.new _ _ _ | exact aq.fu _ _ _ _ | exact aq.fx _ _ _ _ _ | exact aq.gb _ _ _ _ _ _ | refine aq.alloc ?_ _)
 replace R:=R.below au;replace bX:=bX.below au
 generalize World.alloc w (.cells #[.slice an rs c0,.slice ar qs c1,af,ae,sp,.slice aj ws c2,.slice ak U c3,.slice aA os c4] 44)= aF at *
 have I:=au;have hN:=aW.aG;have wR:=aW.lt
 go_wp2_with fail
 refine (LG.out _ ((R.below av)).fF ((R.below av)).dJ).mono ?_
 rintro e aM ⟨D,d,rfl,gN,aN⟩
 have ao:=be aF aN;replace I:=ah I ao;replace R:=R.below ao;replace bX:=bX.below ao;replace aW:=aW.to ao;clear hN;have hN:=aW.aG;clear hN R
 go_wp2_with fail
 refine (Pz D d xX pf LB.out _ (gN.dE (hf:=kD)) (rU gN kD)).mono ?_
 exact QR
theorem afz (an ar aj ak aA:Option Addr) (c0 c1 c2 c3 c4:Nat) (rs:List aJ) (qs:List aL) (af ae sp:Int) (ws:List Int) (U:List aI) (os:List Out) (Z:eC an ar aj ak aA c0 c1 c2 c3 c4 rs qs ws U os) (h:gM ⟨rs,qs,af,ae,sp,ws,U,os⟩) (s:ByteArray) (cB:zQ s 4) (L:Option Addr) (lc:Nat) (w:World) (R:ea w an ar aj ak aA rs qs ws U os) (nO:aH 1 bR w L []) (bX:pZ w):
 Calls Tryz.prog 102 #[.agg #[.slice an rs c0,.slice ar qs c1,af,ae,sp,.slice aj ws c2,.slice ak U c3,.slice aA os c4],s,.slice L ([]:List Int).length lc] w fun e ag=>∃x:ByteArray,e= .returned (.tuple #[x,.bool (jU ⟨rs,qs,af,ae,sp,ws,U,os⟩ 4 []).isSome])∧(∀y,jU ⟨rs,qs,af,ae,sp,ws,U,os⟩ 4 []= some y→x= y)∧Below w w ag:=by
 obtain⟨f0,f1,f2,f3,f4,f5,f6,f7,f8,f9,f10,f11,f12,f13,f14⟩:=cB
 simp only [Nat.reduceBEq] at f0 f1 f2 f3 f4 f5 f6 f7 f8 f9 f10 f11 f12 f13 f14
 obtain⟨i0,hi,dy,dC,dN⟩:=info_parts AR
 have Aa:=J (fun k id (h:(hz rs qs)[k]? =some id)=>XD h);have jE:=Po (rs:=rs) (qs:=qs);have ajO:=(tE h).1
 simp only at ajO
 have LB:=J (show∀x ∈ (hz rs qs).map (lL rs),x.size≤1000 from fun x ay=>by obtain⟨q,_,rfl⟩:=List.mem_map.1 ay;have:=Kh (nr h.hq).1 q;simp only at this;omega);have Ly:=J (fun W (h1:aH 7 aJ.cells W an rs) (h2:aH 3 aL.cells W ar qs)=>Pm an c0 rs Z.h0 ar c1 qs Z.h1 h.hq W h1 h2);have ua:Hid (jU ⟨rs,qs,af,ae,sp,ws,U,os⟩ 4 []= some (lu ((hz rs qs).map (lL rs)))):=J rfl
 generalize hz rs qs= ys at *
 clear h nO;have bf:=J Z;clear Z
 rw [ua.out]
 have aU:=R.fF;have aT:=R.dJ;clear R
 go_in
 go_upto_region 1 with fail
 obtain⟨sJ,lZ⟩ :∃b,b= w.heap.size:=⟨_,rfl⟩
 refine cR fun aF au aW=>?_
 replace aU:=aU.below au;replace aT:=aT.below au;replace bX:=bX.below au;have I:=au
 obtain⟨m0,m1,m2,m3,m4,m5,m6,m7⟩:=aW.aG
 rw [← lZ] at aW m0 m1 m2 m3 m4 m5 m6 m7
 rw [← lZ]
 have zS:=J (fun b o (e:an= some ⟨b,o,none⟩) (aY:0 < rs.length)=>(show b < aF.heap.size by obtain⟨cL,mU,gC,eW,_⟩:=aU aY;rw [e] at gC;injection gC with gC;injection gC with e1 _;omega));have sf:=J aW;have ff:=J aU;have CR:=I.size
 go_upto_region 7 with fail
 have hJ:=aV.made (f:=hC) (sz:=1) aF (B:=aF.heap.size) (Nat.le_refl _) 9;have eO:Below aF aF (aF.alloc (.cells #[] 9)):=bZ _ _
 generalize FR:aF.alloc (.cells #[] 9)= ky at *
 have lP:=J hJ;clear hJ lZ;clear aW m0 m1 m2 m3 m4 m5 m6 m7;have yz:=J I;have ao:=be aF eO;replace I:=ah I ao;replace aU:=aU.below ao;replace aT:=aT.below ao;replace bX:=bX.below ao;have ts:=sf.out.below eO sf.out.lt
 obtain⟨m0,m1,m2,m3,m4,m5,m6,m7⟩:=ts.aG
 have auz:=ts.lt
 go_wp2_with fail
 refine (Ly.out _ (aU.below av) (aT.below av)).mono ?_
 rintro e bB ⟨Y,ss,rfl,EN,bG⟩
 have aK:=be ky bG;replace I:=ah I aK;replace aU:=aU.below aK;replace aT:=aT.below aK;replace bX:=bX.below aK;replace ts:=ts.to aK;clear m0 m1 m2 m3 m4 m5 m6 m7
 obtain⟨m0,m1,m2,m3,m4,m5,m6,m7⟩:=ts.aG
 have gW:=lP.out.later aK;have FW:=EN.base (B':=aF.heap.size) eO.size;have FN:=ah eO aK;clear aU aT lP EN I bX
 go_wp2
 clear m0 m1 m2 m3 m4 m5 m6 m7 ts
 go_loopw [10,43] (fun y i wr=>∃k:Nat,k≤ys.length∧i= .int .i64 k∧aV aF 9 1 hC wr y ((ys.take k).map (lL rs))∧aV aF 3 1 bR wr (.slice Y ys ss) ys∧Below aF aF wr) (fun _ i _=>ys.length - (intOf i).toNat)
 case atStart=>exact⟨0,Nat.zero_le _,rfl,gW,FW,FN⟩
 case round=>
  clear gW FW FN
  obtain⟨k,az,rfl,bP,FV,aB⟩:=hrel
  have nv:Hid (((ys.take k).map (lL rs)).length= k):=J (take_len az);have dq:=J bP;have iv:=J FV;clear bP FV
  by_cases bl:k < ys.length
  ·skip
   obtain⟨xe,Hn,id,ND,aiJ,hid,Gl⟩:=(iv.out.dE (hf:=fZ)).at_ (Below.refl _ _) bl
   obtain⟨r,bu⟩:=Aa.out k id hid
   obtain⟨j,bH,uX⟩:=rL bu
   have ie:j < rs.length:=(List.getElem?_eq_some_iff.1 uX).1
   obtain⟨gh,rS,fT,uF,Vc,pg,tw⟩:=ff.out.at_ aB ie
   obtain rfl:r= fT:=Option.some.inj (uX.symm.trans pg)
   have gu:=J (XX hid bu)
   obtain⟨HS,nm,rk,ae,fw,am,ef,aX⟩:=r
   have a0:=Gl 0 _ rfl (ax.self _);have n1:=tw 1 _ rfl (ax.self _)
   simp only [Nat.add_zero,Nat.mul_one,ax.self] at a0 n1
   have eH:=J bH
   subst ND uF
   go_upto_region 10 with fail
   have yX:=sf.out.below aB sf.out.lt;have m0:=(yX.cell 0).trans (show _= some (.slice (some ⟨gh,rS,none⟩) rs c0) from rfl);have ato:=yX.lt;have vK:=J (show wr.cell? ⟨sJ,0,none⟩ =some (.slice (some ⟨gh,rS,none⟩) rs c0)∧wr.cell? ⟨xe,Hn + k,none⟩ =some (.int .i64 id)∧wr.cell? ⟨gh,rS + j * 7 + 1,none⟩ =some (.string nm) from⟨m0,a0,n1⟩)
   have mr:∀q,u10.ownBlock= some q→sJ≠q:=fun q aZ e=>dq.out.tH yX (by decide) q aZ e.symm
   have qZ:∀q,u10.ownBlock= some q→xe≠q:=fun q aZ e=>by
    exact abZ
   have qj:∀q,u10.ownBlock= some q→gh≠q:=fun q aZ e=>by have:=(dq.out.lt q aZ).1;have:=zS.out gh rS rfl (by omega);omega
   have iV:=J (⟨mr,qZ,qj⟩ :(∀q,u10.ownBlock= some q→sJ≠q)∧(∀q,u10.ownBlock= some q→xe≠q)∧(∀q,u10.ownBlock= some q→gh≠q));clear Gl hid bu tw pg uX bH mr qZ qj m0 a0 n1 yX
   obtain⟨eX,gV⟩ :∃X:World→Prop,∀V,X V↔V.cell? ⟨sJ,0,none⟩ =some (.slice (some ⟨gh,rS,none⟩) rs c0)∧V.cell? ⟨xe,Hn + k,none⟩ =some (.int .i64 id)∧V.cell? ⟨gh,rS + j * 7 + 1,none⟩ =some (.string nm):=⟨_,fun _=>Iff.rfl⟩
   have di:=J gV;clear gV
   haveI:Nonempty (cN eX):=⟨⟨wr,(di.out _).2 vK.out⟩⟩
   have m0:=fun K:cN eX=>((di.out _).1 K.holds).1
   have a0:=fun K:cN eX=>((di.out _).1 K.holds).2.1
   have n1:=fun K:cN eX=>((di.out _).1 K.holds).2.2
   refine oU eX [([0,1,2,3,4,5],6),([7,8,9],10),([],11)] [12] (by kernel_rfl) (by kernel_rfl) ((di.out _).2 (Cq vK.out (Below.refl _ _).drew)) ?_
   have hl:Below wr wr wr.drew:=(Below.refl _ _).drew
   generalize wr.drew= wd at *
   refine ha fun gz dZ=>?_
   change wpQuiet _ _ _ _ (_ ::_ ::_ ::_ ::_ ::_ ::[]) _
   repeat (go_big_quiet_step (fail))
   refine wpQuiet_nil ?_
   change wpList _ _ _ (_ ::[]) _ _
   go_wp2_with fail
   refine (DI _ c0 rs (by omega) id _ eH.out _ (ff.out.below (ah aB hl))).mono ?_
   rintro e KL ⟨rfl,xM⟩
   have rz:Below wr wr KL:=ah hl xM;clear xM
   go_wp2
   refine hn ((di.out _).2 (Cq vK.out rz)) (dZ _ _ ?_)
   refine ha fun gz dZ=>?_
   change wpQuiet _ _ _ _ (_ ::_ ::_ ::[]) _
   repeat (go_big_quiet_step (fail))
   refine wpQuiet_nil ?_
   change wpList _ _ _ (_ ::[]) _ _
   go_wp2
   refine hn ((di.out _).2 (Cq vK.out (rz.alloc rz.size _))) (dZ _ _ ?_)
   refine ha fun gz dZ=>?_
   change wpQuiet _ _ _ _ ([]) _
   refine wpQuiet_nil ?_
   change wpList _ _ _ (_ ::[]) _ _
   have aN:=ah aB rz;have pc:=dq.out.later rz;have atq:=iv.out.later rz
   exact acm
  ·obtain rfl:k= ys.length:=by omega
   have kH:=dq.out
   rw [List.take_length] at kH
   obtain⟨xX,Gz⟩ :∃xX,xX= ys.map (lL rs):=⟨_,rfl⟩
   have pf:xX.length≤1000:=by rw [Gz,List.length_map];omega
   rw [← Gz] at kH
   have RW:=LB
   rw [← Gz] at RW
   have oX:=J Gz;clear Gz
   obtain⟨Mm,kA,rfl,_,_,_⟩:=kH.form kD
   have vO:=J kH;clear kH
   go_wp2_with fail
   refine (Pz Mm kA xX pf RW.out _ (vO.out.dE (hf:=kD)) (rU vO.out kD)).mono ?_
   rintro e mY ⟨rfl,fS⟩
   go_wp2
   go_ret2
   exact⟨_,rfl,fun y hy=>by rw [oX.out];exact Option.some.inj hy,ah yz.out (ah aB fS)⟩
theorem afA (an ar aj ak aA:Option Addr) (c0 c1 c2 c3 c4:Nat) (rs:List aJ) (qs:List aL) (af ae sp:Int) (ws:List Int) (U:List aI) (os:List Out) (Z:eC an ar aj ak aA c0 c1 c2 c3 c4 rs qs ws U os) (h:gM ⟨rs,qs,af,ae,sp,ws,U,os⟩) (s:ByteArray) (cB:zQ s 5) (L:Option Addr) (lc:Nat) (w:World) (R:ea w an ar aj ak aA rs qs ws U os) (nO:aH 1 bR w L []) (bX:pZ w):
 Calls Tryz.prog 102 #[.agg #[.slice an rs c0,.slice ar qs c1,af,ae,sp,.slice aj ws c2,.slice ak U c3,.slice aA os c4],s,.slice L ([]:List Int).length lc] w fun e ag=>∃x:ByteArray,e= .returned (.tuple #[x,.bool (jU ⟨rs,qs,af,ae,sp,ws,U,os⟩ 5 []).isSome])∧(∀y,jU ⟨rs,qs,af,ae,sp,ws,U,os⟩ 5 []= some y→x= y)∧Below w w ag:=by
 obtain⟨f0,f1,f2,f3,f4,f5,f6,f7,f8,f9,f10,f11,f12,f13,f14⟩:=cB
 simp only [Nat.reduceBEq] at f0 f1 f2 f3 f4 f5 f6 f7 f8 f9 f10 f11 f12 f13 f14
 have aS:=tE h
 simp only at aS
 obtain⟨_,_,Gt,Gu,_⟩:=aS
 have zU:=J (ZD h);have zn:=DO (cz.gD ⟨rs,qs,af,ae,sp,ws,U,os⟩);have aeL:=J (fun W (h1:aH 1 bR W aj ws) (h2:aH 3 aI.cells W ak U)=>ZE af ae sp aj c2 ws ak c3 U Z.h2 Z.h3 Z.n2 Z.n3 Z.cp (by omega) W h1 h2);have ua:Hid (jU ⟨rs,qs,af,ae,sp,ws,U,os⟩ 5 []= some (pk (kM ⟨af,ae,sp,ws,U⟩))):=J rfl
 simp only [cz.gD] at zU zn
 generalize kM ⟨af,ae,sp,ws,U⟩ =fU at *
 have sG:fU.length≤100:=by omega
 clear h Z nO zn
 rw [ua.out]
 go_in
 go_upto_region 1 with fail
 refine cR fun aF au aW=>?_
 replace R:=R.below au;replace bX:=bX.below au;have I:=au;have hN:=aW.aG;have wR:=aW.lt
 go_wp2_with fail
 refine (aeL.out _ ((R.below av)).r2 ((R.below av)).hr).mono ?_
 rintro e aM ⟨D,d,rfl,gN,aN⟩
 have ao:=be aF aN;replace I:=ah I ao;replace R:=R.below ao;replace bX:=bX.below ao;replace aW:=aW.to ao;clear hN;have hN:=aW.aG;clear hN R
 go_wp2_with fail
 refine (Pj (some ⟨D,0,none⟩) d fU sG zU.out _ (gN.dE (hf:=fZ)) ((bX.below av)).t).mono ?_
 exact QR
theorem afx (an ar aj ak aA:Option Addr) (c0 c1 c2 c3 c4:Nat) (rs:List aJ) (qs:List aL) (af ae sp:Int) (ws:List Int) (U:List aI) (os:List Out) (Z:eC an ar aj ak aA c0 c1 c2 c3 c4 rs qs ws U os) (h:gM ⟨rs,qs,af,ae,sp,ws,U,os⟩) (s:ByteArray) (cB:zQ s 6) (L:Option Addr) (lc:Nat) (w:World) (R:ea w an ar aj ak aA rs qs ws U os) (nO:aH 1 bR w L []) (bX:pZ w):
 Calls Tryz.prog 102 #[.agg #[.slice an rs c0,.slice ar qs c1,af,ae,sp,.slice aj ws c2,.slice ak U c3,.slice aA os c4],s,.slice L ([]:List Int).length lc] w fun e ag=>∃x:ByteArray,e= .returned (.tuple #[x,.bool (jU ⟨rs,qs,af,ae,sp,ws,U,os⟩ 6 []).isSome])∧(∀y,jU ⟨rs,qs,af,ae,sp,ws,U,os⟩ 6 []= some y→x= y)∧Below w w ag:=by
 obtain⟨f0,f1,f2,f3,f4,f5,f6,f7,f8,f9,f10,f11,f12,f13,f14⟩:=cB
 simp only [Nat.reduceBEq] at f0 f1 f2 f3 f4 f5 f6 f7 f8 f9 f10 f11 f12 f13 f14
 have aS:=tE h
 simp only at aS
 obtain⟨_,_,_,_,Gv⟩:=aS
 have zU:=J (SM h);have NI:=Ak os os.length;have zR:=J (fun W (du:ea W an ar aj ak aA rs qs ws U os)=>aks ⟨rs,qs,af,ae,sp,ws,U,os⟩ an ar aj ak aA c0 c1 c2 c3 c4 Z.h0 Z.h1 Z.h2 Z.h3 Z.h4 W du.fF du.dJ du.r2 du.hr du.nJ Z.dY Z.eB Z.cp Z.ed Z.hp);have lZ:=Dv.2 h
 rw [lZ,show pa ⟨rs,qs,af,ae,sp,ws,U,os⟩ =ko os os.length by rw [pa,if_pos lZ]] at zR
 have ua:Hid (jU ⟨rs,qs,af,ae,sp,ws,U,os⟩ 6 []= some (pk (ko os os.length))):=J rfl
 simp only at zU zR
 generalize ko os os.length= fU at *
 have sG:fU.length≤100:=by omega
 clear h Z nO lZ NI
 rw [ua.out]
 go_in
 go_upto_region 1 with fail
 refine cR fun aF au aW=>?_
 replace R:=R.below au;replace bX:=bX.below au;have I:=au;have hN:=aW.aG;have wR:=aW.lt
 go_wp2_with fail
 refine (zR.out _ (R.below av)).mono ?_
 rintro e aM ⟨D,d,rfl,gN,aN⟩
 have ao:=be aF aN;replace I:=ah I ao;replace R:=R.below ao;replace bX:=bX.below ao;replace aW:=aW.to ao;clear hN;have hN:=aW.aG;clear hN R
 go_wp2_with fail
 refine (Pj D d fU sG zU.out _ (gN.dE (hf:=fZ)) ((bX.below av)).t).mono ?_
 exact QR
theorem afy (an ar aj ak aA:Option Addr) (c0 c1 c2 c3 c4:Nat) (rs:List aJ) (qs:List aL) (af ae sp:Int) (ws:List Int) (U:List aI) (os:List Out) (Z:eC an ar aj ak aA c0 c1 c2 c3 c4 rs qs ws U os) (h:gM ⟨rs,qs,af,ae,sp,ws,U,os⟩) (s:ByteArray) (cB:zQ s 11) (L:Option Addr) (lc:Nat) (n:Int) (w:World) (R:ea w an ar aj ak aA rs qs ws U os) (nO:aH 1 bR w L [n]) (bX:pZ w):
 Calls Tryz.prog 102 #[.agg #[.slice an rs c0,.slice ar qs c1,af,ae,sp,.slice aj ws c2,.slice ak U c3,.slice aA os c4],s,.slice L ([n]:List Int).length lc] w fun e ag=>∃x:ByteArray,e= .returned (.tuple #[x,.bool (jU ⟨rs,qs,af,ae,sp,ws,U,os⟩ 11 [n]).isSome])∧(∀y,jU ⟨rs,qs,af,ae,sp,ws,U,os⟩ 11 [n]= some y→x= y)∧Below w w ag:=by
 obtain⟨f0,f1,f2,f3,f4,f5,f6,f7,f8,f9,f10,f11,f12,f13,f14⟩:=cB
 simp only [Nat.reduceBEq] at f0 f1 f2 f3 f4 f5 f6 f7 f8 f9 f10 f11 f12 f13 f14
 have oQ:gp af ae sp ws U= true:=h.gD;have Ij:=J (fun W (h1:aH 1 bR W aj ws) (h2:aH 3 aI.cells W ak U)=>akY af ae sp aj c2 ws ak c3 U Z.h2 Z.h3 Z.cp oQ n W h1 h2)
 have rH:-999999≤(if eG n then ae - (ev U n).cQ else 0)∧(if eG n then ae - (ev U n).cQ else 0)≤999999:=by
  split
  ·rename_i hm
   have:=Kz oQ hm
   omega
  ·omega
 have ua:Hid (jU ⟨rs,qs,af,ae,sp,ws,U,os⟩ 11 [n]= if eG n then some (eQ (if eG n then ae - (ev U n).cQ else 0)) else none):=J (by
  show (if eG n then some (eQ (ae - (ev U n).cQ)) else none)= _
  cases eG n <;> rfl)
 rw [ua.out]
 generalize (if eG n then ae - (ev U n).cQ else 0)= v at *
 generalize eG n= b at *
 obtain⟨Fk,jb,rfl,dU,jK⟩:=nO (by simp)
 have g0:=jK 0 _ rfl 0 _ rfl
 simp only [Nat.zero_mul,Nat.add_zero] at g0
 have hO:=J g0;have zV:=J dU;clear h Z oQ jK dU g0 nO
 cases b
 all_goals
  simp only [Bool.false_eq_true,if_false,if_true,Option.isSome_some,Option.isSome_none]
  go_in
  go_upto_region 1 with fail
  refine cR fun aF au aW=>?_
  replace R:=R.below au;replace bX:=bX.below au;have I:=au;have hN:=aW.aG;have wR:=aW.lt
  go_upto_region 16 with fail
  have dX:=J R.r2;have cO:=J R.hr;have oO:=I
  have u0:=fun K:ax aF.heap.size aF=>(K.cell (p:=⟨Fk,_,none⟩) (Nat.lt_of_lt_of_le zV.out oO.size)).trans ((oO.cell (p:=⟨Fk,_,none⟩) zV.out).trans hO.out)
  clear R;have mi:=J (fun k:ax aF.heap.size aF=>Ij.out k.world (dX.out.below k.below) (cO.out.below k.below));clear hN;have hN:=aq.qd (fun K:ax aF.heap.size aF=>(aW.below K.below aW.lt))
  refine ew (by kernel_rfl) (by kernel_rfl) ?_
  repeat (go_big_quiet_step ((first | (go_at_call 175;exact ax.call _ (by first | exact Nat.le_refl _ | omega) (mi.out _)))))
  refine wpQuiet_nil ?_
  intro K
  clear hN;have ao:Below aF aF K.world:=ah av K.below;replace I:=ah I ao;replace bX:=bX.below ao;replace aW:=aW.to ao;have hN:=aW.aG;clear u0;have wR:=aW.lt
  go_wp2_with fail
  refine (AU v (by omega) (by omega) _ ((bX.below av)).t).mono ?_
  rintro e bB ⟨rfl,bG⟩
  have aK:Below K.world.heap.size K.world bB:=ah av bG;replace I:=ah I aK;replace bX:=bX.below aK;replace aW:=aW.to aK;clear hN;have hN:=aW.aG
  go_wp2
  go_ret2
  exact⟨_,rfl,fun y hy=>(by first | exact Option.some.inj hy | cases hy),(ah I av)⟩
theorem afC (an ar aj ak aA:Option Addr) (c0 c1 c2 c3 c4:Nat) (rs:List aJ) (qs:List aL) (af ae sp:Int) (ws:List Int) (U:List aI) (os:List Out) (Z:eC an ar aj ak aA c0 c1 c2 c3 c4 rs qs ws U os) (h:gM ⟨rs,qs,af,ae,sp,ws,U,os⟩) (s:ByteArray) (cB:zQ s 12) (L:Option Addr) (lc:Nat) (n:Int) (w:World) (R:ea w an ar aj ak aA rs qs ws U os) (nO:aH 1 bR w L [n]) (bX:pZ w):
 Calls Tryz.prog 102 #[.agg #[.slice an rs c0,.slice ar qs c1,af,ae,sp,.slice aj ws c2,.slice ak U c3,.slice aA os c4],s,.slice L ([n]:List Int).length lc] w fun e ag=>∃x:ByteArray,e= .returned (.tuple #[x,.bool (jU ⟨rs,qs,af,ae,sp,ws,U,os⟩ 12 [n]).isSome])∧(∀y,jU ⟨rs,qs,af,ae,sp,ws,U,os⟩ 12 [n]= some y→x= y)∧Below w w ag:=by
 obtain⟨f0,f1,f2,f3,f4,f5,f6,f7,f8,f9,f10,f11,f12,f13,f14⟩:=cB
 simp only [Nat.reduceBEq] at f0 f1 f2 f3 f4 f5 f6 f7 f8 f9 f10 f11 f12 f13 f14
 have lZ:=Dv.2 h;have rH:=Pr os n os.length;have tA:=(tE h).2.2.2.2
 simp only at tA
 obtain⟨b,aB⟩ :∃b,eG n= b:=⟨_,rfl⟩
 obtain⟨v1,tB⟩ :∃v,v= if b then (hE os n os.length).1 else 0:=⟨_,rfl⟩
 obtain⟨v2,pI⟩ :∃v,v= if b then (hE os n os.length).2 else 0:=⟨_,rfl⟩
 have Lz:=J (fun W (du:ea W an ar aj ak aA rs qs ws U os)=>alq ⟨rs,qs,af,ae,sp,ws,U,os⟩ an ar aj ak aA c0 c1 c2 c3 c4 Z.h0 Z.h1 Z.h2 Z.h3 Z.h4 n (.tuple #[v1,v2,.bool b]) (by rw [wu,lZ,aB,tB,pI];cases b <;> rfl) W du.fF du.dJ du.r2 du.hr du.nJ Z.dY Z.eB Z.cp Z.ed Z.hp)
 have ua:Hid (jU ⟨rs,qs,af,ae,sp,ws,U,os⟩ 12 [n]= if b then some (pk [v1,v2]) else none):=J (by
  show (if eG n then some (pk [(hE os n os.length).1,(hE os n os.length).2]) else none)= _
  rw [aB,tB,pI]
  cases b <;> rfl)
 rw [ua.out]
 have zU:=J (show∀x ∈ [v1,v2],-999999≤x∧x≤999999 from fun x ay=>by
  simp only [List.mem_cons,List.not_mem_nil,or_false] at ay
  rw [tB,pI] at ay
  cases b
  ·rcases ay with rfl | rfl <;> simp
  ·rcases ay with rfl | rfl <;> simp <;> omega)
 obtain⟨Fk,jb,rfl,dU,jK⟩:=nO (by simp)
 have g0:=jK 0 _ rfl 0 _ rfl
 simp only [Nat.zero_mul,Nat.add_zero] at g0
 have hO:=J g0;have zV:=J dU;clear h Z lZ rH tA aB tB pI jK dU g0 nO
 cases b
 all_goals
  simp only [Bool.false_eq_true,if_false,if_true,Option.isSome_some,Option.isSome_none]
  go_in
  go_upto_region 1 with fail
  refine cR fun aF au aW=>?_
  replace R:=R.below au;replace bX:=bX.below au;have I:=au;have hN:=aW.aG;have wR:=aW.lt
  go_upto_region 21 with fail
  have bJ:=J R;have oO:=I
  have u0:=fun K:ax aF.heap.size aF=>(K.cell (p:=⟨Fk,_,none⟩) (Nat.lt_of_lt_of_le zV.out oO.size)).trans ((oO.cell (p:=⟨Fk,_,none⟩) zV.out).trans hO.out)
  clear R;have mi:=J (fun k:ax aF.heap.size aF=>Lz.out k.world (bJ.out.below k.below));clear hN;have hN:=aq.qd (fun K:ax aF.heap.size aF=>(aW.below K.below aW.lt))
  refine ew (by kernel_rfl) (by kernel_rfl) ?_
  repeat (go_big_quiet_step ((first | (go_at_call 177;exact ax.call _ (by first | exact Nat.le_refl _ | omega) (mi.out _)))))
  refine wpQuiet_nil ?_
  intro K
  clear hN;have ao:Below aF aF K.world:=ah av K.below;replace I:=ah I ao;replace bX:=bX.below ao;replace aW:=aW.to ao;have hN:=aW.aG;clear u0;have wR:=aW.lt;have ks:aH 1 bR (K.world.alloc (.cells #[v1,v2] 3)) (some ⟨K.world.heap.size,0,none⟩) [v1,v2]:=aoA _ _ _;have sh:=J ks;clear ks
  go_wp2_with fail
  refine (Pj _ 2 [v1,v2] (by simp) zU.out _ sh.out ((bX.below av)).t).mono ?_
  rintro e mY ⟨rfl,fS⟩
  go_wp2
  go_ret2
  exact⟨_,rfl,fun y hy=>(by first | exact Option.some.inj hy | cases hy),ah (ah I av) (ah (bZ _ _) fS)⟩
theorem afE (an ar aj ak aA:Option Addr) (c0 c1 c2 c3 c4:Nat) (rs:List aJ) (qs:List aL) (af ae sp:Int) (ws:List Int) (U:List aI) (os:List Out) (Z:eC an ar aj ak aA c0 c1 c2 c3 c4 rs qs ws U os) (h:gM ⟨rs,qs,af,ae,sp,ws,U,os⟩) (s pt:ByteArray) (aO:my (eF s)= some pt) (L:Option Addr) (lc:Nat) (l:List Int) (aS:l.length= pt.size) (cT:sk (eF s) l= none) (w:World) (R:ea w an ar aj ak aA rs qs ws U os) (nO:aH 1 bR w L l) (bX:pZ w):
 Calls Tryz.prog 102 #[.agg #[.slice an rs c0,.slice ar qs c1,af,ae,sp,.slice aj ws c2,.slice ak U c3,.slice aA os c4],s,.slice L l lc] w fun e ag=>∃x:ByteArray,e= .returned (.tuple #[x,.bool (jU ⟨rs,qs,af,ae,sp,ws,U,os⟩ (eF s) l).isSome])∧(∀y,jU ⟨rs,qs,af,ae,sp,ws,U,os⟩ (eF s) l= some y→x= y)∧Below w w ag:=by
 have cB:=Ct s;have hle:=Fu s
 generalize eF s= i at *
 have h0:∀q,some ⟨#[]⟩ =some q→(q:ByteArray).size= 0:=fun q e=>by cases e;rfl
 have h1:∀q,some ((⟨#[110]⟩ :ByteArray):ByteArray)= some q→q.size= 1:=fun q e=>by cases e;rfl
 have e0:l.length= 0→l= []:=List.length_eq_zero_iff.1
 have e1:l.length= 1→∃n,l= [n]:=fun e=>by
  match l,e with
  | [n],_=>exact⟨n,rfl⟩
 match i,hle with
 | 0,_=>cases cT
 | 1,_=>cases cT
 | 2,_=>cases cT
 | 3,_=>obtain rfl:=e0 (aS.trans (h0 pt aO));exact afB _ _ _ _ _ _ _ _ _ _ _ _ _ _ _ _ _ _ Z h s cB L lc w R nO bX
 | 4,_=>obtain rfl:=e0 (aS.trans (h0 pt aO));exact afz _ _ _ _ _ _ _ _ _ _ _ _ _ _ _ _ _ _ Z h s cB L lc w R nO bX
 | 5,_=>obtain rfl:=e0 (aS.trans (h0 pt aO));exact afA _ _ _ _ _ _ _ _ _ _ _ _ _ _ _ _ _ _ Z h s cB L lc w R nO bX
 | 6,_=>obtain rfl:=e0 (aS.trans (h0 pt aO));exact afx _ _ _ _ _ _ _ _ _ _ _ _ _ _ _ _ _ _ Z h s cB L lc w R nO bX
 | 7,_=>obtain⟨n,rfl⟩:=e1 (aS.trans (h1 pt aO));cases cT
 | 8,_=>obtain⟨n,rfl⟩:=e1 (aS.trans (h1 pt aO));cases cT
 | 9,_=>obtain⟨n,rfl⟩:=e1 (aS.trans (h1 pt aO));cases cT
 | 10,_=>obtain⟨n,rfl⟩:=e1 (aS.trans (h1 pt aO));cases cT
 | 11,_=>obtain⟨n,rfl⟩:=e1 (aS.trans (h1 pt aO));exact afy _ _ _ _ _ _ _ _ _ _ _ _ _ _ _ _ _ _ Z h s cB L lc n w R nO bX
 | 12,_=>obtain⟨n,rfl⟩:=e1 (aS.trans (h1 pt aO));exact afC _ _ _ _ _ _ _ _ _ _ _ _ _ _ _ _ _ _ Z h s cB L lc n w R nO bX
 | 13,_=>
  have e2:l.length= 2:=aS.trans (by cases aO;rfl)
  match l,e2 with
  | [a,b],_=>cases cT
 | 14,_=>
  have e2:l.length= 3:=aS.trans (by cases aO;rfl)
  match l,e2 with
  | [a,b,c],_=>cases cT
 | 15,_=>cases aO
open Go.RowKit Go.G9
theorem KB (c:UInt8):∀(l u:List UInt8),u ∈ lg c l→u.length≤l.length
 | [],u,h=>by simp [lg] at h;subst h;simp
 | x ::l,u,h=>by
  unfold lg at h
  split at h
  ·rcases List.mem_cons.1 h with rfl | h
   ·simp
   ·have:=KB c l u h;simp;omega
  ·split at h
   ·simp at h;subst h;simp
   ·rename_i v vs he
    rcases List.mem_cons.1 h with rfl | h
    ·have:=KB c l v (by rw [he];simp);simp;omega
    ·have:=KB c l u (by rw [he];simp [h]);simp;omega
theorem ZG {c:UInt8} {s x:ByteArray} (h:x ∈ jk c s):x.size≤s.size:=by
 obtain⟨u,hu,rfl⟩:=List.mem_map.1 h
 have h1:=KB c s.data.toList u hu
 show u.toArray.size≤_
 rw [List.size_toArray]
 simpa using h1
theorem ZF (c:UInt8) (s:ByteArray):(jk c s).length≤s.size + 1:=by
 unfold jk
 rw [List.length_map]
 have:=Qi c s.data.toList
 simpa using this
theorem ZH (c:UInt8) (s:ByteArray):jk c s≠[]:=by
 unfold jk
 have:=Qj c s.data.toList
 intro e
 exact this (List.map_eq_nil_iff.1 e)
theorem gA.gY {B g:Nat} {w ag:World} {cq:Option Addr} {d0:Nat} {cK:Option Addr} {d1:Nat} {bg:Option Addr} {d2:Nat} {bn:Option Addr} {d3:Nat} {ct:Option Addr} {d4:Nat} {rs:List aJ} {qs:List aL} {ws:List Int} {U:List aI} {os:List Out} {cs:Array Value} (h:gA B w cq d0 cK d1 bg d2 bn d3 ct d4 rs qs ws U os) (aB:aq w g 46 cs) (cw:w.grownBy ag (some g)):gA B ag cq d0 cK d1 bg d2 bn d3 ct d4 rs qs ws U os:=
 ⟨h.kJ.kept cw (fun k az e=>h.kJ.tH aB (by decide) k az (Option.some.inj e)),h.hU.kept cw (fun k az e=>h.hU.tH aB (by decide) k az (Option.some.inj e)),h.fk.kept cw (fun k az e=>h.fk.tH aB (by decide) k az (Option.some.inj e)),h.fJ.kept cw (fun k az e=>h.fJ.tH aB (by decide) k az (Option.some.inj e)),h.mc.kept cw (fun k az e=>h.mc.tH aB (by decide) k az (Option.some.inj e))⟩
theorem aaY {p:Prop} (h:p:=by
 rw [hm] at H
 exact H.mono fun e ag ⟨he,aB⟩=>⟨[],[],0,0,0,[],[],[],none,0,none,0,none,0,none,0,none,0,false,he,J (by simp),amW,aB⟩):p:=h
theorem adx {p:Prop} (h:p:=by
 rw [hm] at H
 obtain⟨dp,dB,dP,dO,dG,bV,bY,dn⟩:=n
 exact H.mono fun e ag ⟨cq,d0,cK,d1,bg,d2,bn,d3,ct,d4,he,bP,aB⟩=>⟨dp,dB,dP,dO,dG,bV,bY,dn,cq,d0,cK,d1,bg,d2,bn,d3,ct,d4,true,he,J (by simp),bP,aB⟩):p:=h
theorem alm (an ar aj ak aA:Option Addr) (c0 c1 c2 c3 c4:Nat) (rs:List aJ) (qs:List aL) (af ae sp:Int) (ws:List Int) (U:List aI) (os:List Out) (Z:eC an ar aj ak aA c0 c1 c2 c3 c4 rs qs ws U os) (kind mem val yes no bx:Int) (h:gM ⟨rs,qs,af,ae,sp,ws,U,os⟩) (w:World) (R:ea w an ar aj ak aA rs qs ws U os):
 Calls Tryz.prog 103 #[.agg #[.slice an rs c0,.slice ar qs c1,af,ae,sp,.slice aj ws c2,.slice ak U c3,.slice aA os c4],.agg #[kind,mem,val,yes,no,bx]] w fun e ag=>∃(dp:List aJ) (dB:List aL) (dP dO dG:Int) (bV:List Int) (bY:List aI) (dn:List Out) (cI:Option Addr) (e0:Nat) (cF:Option Addr) (e1:Nat) (de:Option Addr) (e2:Nat) (df:Option Addr) (e3:Nat) (cJ:Option Addr) (e4:Nat) (b:Bool),e= .returned (.tuple #[.agg #[.slice cI dp e0,.slice cF dB e1,dP,dO,dG,.slice de bV e2,.slice df bY e3,.slice cJ dn e4],b])∧Hid (gF ⟨rs,qs,af,ae,sp,ws,U,os⟩ ⟨kind,mem,val,yes,no,bx⟩ =if b= true then some ⟨dp,dB,dP,dO,dG,bV,bY,dn⟩ else none)∧gA w ag cI e0 cF e1 de e2 df e3 cJ e4 dp dB bV bY dn∧Below w w ag:=by
 have H:=akZ an ar aj ak aA c0 c1 c2 c3 c4 rs qs af ae sp ws U os Z kind mem val yes no bx h w R
 cases hm:gF ⟨rs,qs,af,ae,sp,ws,U,os⟩ ⟨kind,mem,val,yes,no,bx⟩ with
 | none=>
  exact aaY
 | some n=>
  exact adx
theorem XJ {m n:cz} {a:oG} (h:gM m) (hm:gF m a= some n):-999999≤n.dH∧n.dH≤999999:=by
 have H:=ln.1 (JZ h hm).gD
 rcases H.p with h0 | h1
 ·have:n.dH= 0:=h0
  omega
 ·have:=rM.1 h1
  have e:(cz.gD n).sp= n.dH:=rfl
  omega
theorem XI {m n:cz} {a:oG} (hm:gF m a= some n) (az:a.kind= 7):0 < n.bt.length:=by
 have e:pw m a= some n:=by
  unfold gF at hm
  rw [if_neg (by omega),if_neg (by omega),if_pos az] at hm
  split at hm
  ·exact hm
  ·cases hm
 obtain⟨ps,q,_,_,_,rfl⟩:=KK e
 simp [cz.DR]
theorem agX {m:cz} {v:ByteArray} {r:List ByteArray} (h:my (eF v)= none):nB m (v ::r)= none:=by rw [nB,h]
theorem agZ {m:cz} {v p:ByteArray} {r:List ByteArray} (h:my (eF v)= some p) (bu:ly m.br p r= none):nB m (v ::r)= none:=by simp only [nB,h,bu]
theorem TU {m:cz} {v p:ByteArray} {r:List ByteArray} {l:List Int} (h:my (eF v)= some p) (bu:ly m.br p r= some l) (cT:sk (eF v) l= none):nB m (v ::r)= (jU m (eF v) l).map (fun s=>(m,s)):=by simp only [nB,h,bu,cT]
theorem TT {m:cz} {v p:ByteArray} {r:List ByteArray} {l:List Int} {a:oG} (h:my (eF v)= some p) (bu:ly m.br p r= some l) (cT:sk (eF v) l= some a):nB m (v ::r)= (gF m a).map (fun n=>(n,pR n a.kind)):=by simp only [nB,h,bu,cT]
theorem aog {rs:List aJ} {p:ByteArray} {r:List ByteArray} {l:List Int} (h:ly rs p r= some l):l.length= p.size:=by
 unfold ly at h
 split at h
 ·rename_i he;rw [PO h,he]
 ·cases h
theorem abH {p:Prop} (h:p:=by
 clear v0 v1 v2 v3 v4 v5 v6 mg
 obtain⟨v0,v1,v2,v3,v4,v5,v6,mg⟩:=eL.aG
 have ann:=nw.cA eL;have ano:=lR.cA eL;have anp:=jS.cA eL;have anq:=jT.cA eL;have anr:=lk.cA eL;have asQ:=eL.jh;have auA:=eL.lt
 refine PY 10 [11] #[true,true,true,true,true,true,true,true,true,true,true,true] (by kernel_rfl) ((di.out _).2 I) (fun K gj=>?_)
 change wpList _ _ _ (_ ::[]) _ _
 go_wp2
 clear v0 v1 v2 v3 v4 v5 v6 mg
 refine iK 0 fun aaf yk=>?_
 replace I:=yk.aE I;replace eL:=yk.jg eL;have ati:=yk.gi;have auo:=yk.sz;replace nw:=nw.bW yk ann;replace lR:=lR.bW yk ano;replace jS:=jS.bW yk anp;replace jT:=jT.bW yk anq;replace lk:=lk.bW yk anr
 obtain⟨v0,v1,v2,v3,v4,v5,v6,mg⟩:=eL.aG
 refine⟨rfl,(di.out _).2 I,?_⟩
 change wpQuiet _ _ _ _ (_ ::[]) _
 repeat (go_big_quiet_step (fail))
 refine wpQuiet_nil ?_
 refine gj _ _ ?_
 clear gj K
 refine aoH (by kernel_rfl) ((di.out _).2 I) ?_
 go_wp2_with fail
 go_meet
 exact⟨cA,b,dp,dB,dP,dO,dG,bV,bY,dn,cI,e0,cF,e1,de,e2,df,e3,cJ,e4,rfl,rfl,Oo,yy,eL,⟨nw,lR,jS,jT,lk⟩,I⟩):p:=h
theorem aha (B p:Nat) (an ar aj ak aA:Option Addr) (c0 c1 c2 c3 c4:Nat) (rs:List aJ) (qs:List aL) (af ae sp:Int) (ws:List Int) (U:List aI) (os:List Out) (ck cl:ByteArray) (cj:Int) (h:gM ⟨rs,qs,af,ae,sp,ws,U,os⟩) (l:ByteArray) (aS:l.size≤160) (w:World) (Ng:B≤p) (oi:B≤w.heap.size) (aQ:aq w p 46 #[.slice an rs c0,.slice ar qs c1,af,ae,sp,.slice aj ws c2,.slice ak U c3,.slice aA os c4,ck,cl,cj]) (bP:gA B w an c0 ar c1 aj c2 ak c3 aA c4 rs qs ws U os) (bX:∀W,w.grownBy W (some p)→pZ W):
  Calls Tryz.prog 56 #[.pointer (some ⟨p,0,none⟩),l] w fun e ag=>∃(dp:List aJ) (dB:List aL) (dP dO dG:Int) (bV:List Int) (bY:List aI) (dn:List Out) (cI:Option Addr) (e0:Nat) (cF:Option Addr) (e1:Nat) (de:Option Addr) (e2:Nat) (df:Option Addr) (e3:Nat) (cJ:Option Addr) (e4:Nat) (x:ByteArray) (b:Bool),e= .returned (.tuple #[x,.bool b])∧Hid (nB ⟨rs,qs,af,ae,sp,ws,U,os⟩ (jk 32 l)= if b= true then some (⟨dp,dB,dP,dO,dG,bV,bY,dn⟩,x) else none)∧Hid (b= false→(⟨dp,dB,dP,dO,dG,bV,bY,dn⟩ :cz)=⟨rs,qs,af,ae,sp,ws,U,os⟩)∧aq ag p 46 #[.slice cI dp e0,.slice cF dB e1,dP,dO,dG,.slice de bV e2,.slice df bY e3,.slice cJ dn e4,ck,cl,cj]∧gA B ag cI e0 cF e1 de e2 df e3 cJ e4 dp dB bV bY dn∧w.grownBy ag (some p):=by
  have jE:=tE h
  simp only at jE
  obtain⟨m0,m1,m2,m3,m4⟩:=jE
  have dL:=J (bP.WK (by omega) (by omega) (by omega) (by omega) (by omega));have iu:=J h;have qB:=J (fun W (h:Ag W)=>alz l 32 (by omega) W h);have Wi:=ZF 32 l;have Sl:=J (show∀x ∈ jk 32 l,x.size≤1000 from fun x ay=>by have:=ZG ay;omega);have Wj:=ZH 32 l
  generalize jk 32 l= vs at *
  obtain⟨v0,vw,rfl⟩ :∃v0 vw,vs= v0 ::vw:=by
    cases vs with
    | nil=>exact absurd rfl Wj
    | cons a b=>exact⟨a,b,rfl⟩
  have akd:vw.length≤160:=by simp only [List.length_cons] at Wi;omega
  obtain⟨op,hop⟩ :∃o,my (eF v0)= o:=⟨_,rfl⟩
  have Eu:=fun W=>anS v0 W
  rw [hop] at Eu
  have vP:=J hop;have BY:=J bX;have hY:=J aQ;have lP:=J bP;have ff:=J bP.rd;have Ox:=aQ.lt;clear Wi Wj hop h bX aQ bP
  go_in
  go_wp2_with fail
  refine (qB.out _ (BY.out w (qP _ _)).m).mono ?_
  rintro e bd ⟨asl,wn,rfl,Cc,I⟩
  obtain⟨yR,auq,agn⟩:=Yf Cc (by simp)
  injection agn with ago _ agp
  subst ago
  subst agp
  have sB:=rU Cc kD
  simp only [List.length_cons] at sB
  have g0:=rV Cc kD (j:=0) (x:=v0) rfl (i:=0) (u:= .string v0) rfl
  simp only [Nat.zero_mul,Nat.add_zero] at g0
  have Az:=(Cc.lt yR rfl).2;have bC:=J Cc;clear Cc;have gm:=J (ff.out.below I)
  cases op with
  | none=>
    have BT:=J Eu;clear Eu
    simp only [Option.getD_none,Option.isSome_none] at BT
    go_wp2_with fail
    refine (BT.out _).mono ?_
    rintro e QC ⟨rfl,cc⟩
    rw [cc]
    clear cc QC
    go_wp2
    go_ret2
    exact⟨rs,qs,af,ae,sp,ws,U,os,an,c0,ar,c1,aj,c2,ak,c3,aA,c4,⟨#[]⟩,false,rfl,J (agX vP.out),J (fun _=>rfl),hY.out.below I hY.out.lt,lP.out.later I,lU I _⟩
  | some pt=>
    have BT:=J Eu;clear Eu
    simp only [Option.getD_some,Option.isSome_some] at BT
    go_wp2_with fail
    refine (BT.out _).mono ?_
    rintro e QC ⟨rfl,cc⟩
    rw [cc]
    clear cc QC
    go_upto_region 5 with fail
    go_cut [9,10] (fun v9 v10 W=>∃(li:List Int) (sO:Bool) (yE:Option Addr) (Ba:Nat),v9= .slice yE li Ba∧v10= .bool sO∧Hid (ly rs pt vw= if sO= true then some li else none)∧aV bd 3 1 bR W (.slice yE li Ba) li∧Below bd bd W)
    case first=>
      have yC:Hid (∀W,Below bd bd W→(wn= 1→aH 1 hC W (some ⟨yR,0,none⟩) vw)∧aH 1 hC W (some ⟨yR,1,none⟩) vw):=J (fun W bI=>⟨fun e=>by
        have:vw= []:=List.length_eq_zero_iff.1 (by omega)
        rw [this];exact aH.nil,by
        have h:=HA (bC.out.later bI).dE 1
        simpa using h⟩)
      obtain⟨eX,gV⟩ :∃X:World→Prop,∀V,X V↔Below bd bd V:=⟨_,fun _=>Iff.rfl⟩
      have di:=J gV;clear gV
      haveI:Nonempty (cN eX):=⟨⟨bd,(di.out _).2 (Below.refl _ _)⟩⟩
      have Sn:=J (hY.out.below I hY.out.lt)
      have dd:=fun K:cN eX=>((Sn.out.below ((di.out _).1 K.holds) Sn.out.lt).cell 0).trans (show _= some (.slice an rs c0) from rfl)
      clear g0 Az bC
      by_cases sF:wn= 1
      case' pos=>
        subst sF
        obtain rfl:vw= []:=List.length_eq_zero_iff.1 (by omega)
        clear sB akd
      all_goals
        refine oU eX [([0,1,2,3,4,5,6,7],8)] [9,10,11,12,13] (by kernel_rfl) (by kernel_rfl) ((di.out _).2 (Below.refl _ _).drew) ?_
        have hl:Below bd bd bd.drew:=(Below.refl _ _).drew
        generalize bd.drew= wd at *
        refine ha fun gz dZ=>?_
        change wpQuiet _ _ _ _ (_ ::_ ::_ ::_ ::_ ::_ ::_ ::_ ::[]) _
        repeat (go_big_quiet_step (fail))
        refine wpQuiet_nil ?_
        change wpList _ _ _ (_ ::[]) _ _
        go_wp2_with fail
        first
          | refine (YH an c0 rs (by omega) dL.out.dY (nr iu.out.hq).1 pt _ _ vw (by first | omega | simp) (fun x ay=>Sl.out x (by simp [ay])) wd (gm.out.fF.below hl) (yC.out wd hl).2 (BY.out wd (lU (ah I hl) _))).mono ?_
          | refine (YH an c0 rs (by omega) dL.out.dY (nr iu.out.hq).1 pt _ _ [] (by first | omega | simp) (fun x ay=>Sl.out x (by simp [ay])) wd (gm.out.fF.below hl) ((yC.out wd hl).1 (by first | trivial | rfl)) (BY.out wd (lU (ah I hl) _))).mono ?_
        rintro e aM ⟨li,sO,yE,Ba,rfl,nM,EM,aN⟩
        have na:=ah hl aN;have BR:=J (EM.base (B':=bd.heap.size) hl.size);clear EM
        go_wp2
        refine hn ((di.out _).2 na) (dZ _ _ ?_)
        refine mA ?_
        change wpQuiet _ _ _ _ (_ ::_ ::_ ::_ ::_ ::[]) _
        repeat (go_big_quiet_step (fail))
        refine wpQuiet_nil ?_
        go_wp2_with fail
        go_meet
        exact⟨li,sO,yE,Ba,rfl,rfl,nM,BR.out,na⟩
    case rest=>
     obtain⟨li,sO,yE,Ba,rfl,rfl,nM,EM,na⟩:=hcut
     generalize wc= aM at *
     have BR:=J EM;clear EM;have bm:=ah I na;replace g0:=(na.cell (p:=⟨yR,0,none⟩) Az).trans g0;replace Az:yR < aM.heap.size:=Nat.lt_of_lt_of_le Az na.size;have Sp:=J (hY.out.below bm hY.out.lt);have hx:=J (lP.out.later bm);have dX:=J (ff.out.below bm);clear I na gm bC
     cases sO
     · have hM:ly rs pt vw= none:=by simpa using nM.out
       have wZ:=J hM;clear hM
       go_wp2
       go_ret2
       exact⟨rs,qs,af,ae,sp,ws,U,os,an,c0,ar,c1,aj,c2,ak,c3,aA,c4,⟨#[]⟩,false,rfl,J (agZ vP.out wZ.out),J (fun _=>rfl),Sp.out,hx.out,lU bm _⟩
     have Jx:ly rs pt vw= some li:=by simpa using nM.out
     have zh:=aog Jx;have BV:=J Jx;clear Jx nM
     have Eg:=fun W (h:aH 1 bR W yE li)=>aff v0 yE Ba li (fun q aZ=>by rw [vP.out] at aZ;cases aZ;exact zh) W h
     obtain⟨Pw,Oq⟩ :∃o,sk (eF v0) li= o:=⟨_,rfl⟩
     rw [Oq] at Eg
     have Eo:=J Oq;have BO:=J zh;clear Oq zh
     cases Pw with
     | none=>
       have sV:=J Eg;clear Eg
       simp only [Mn,Option.isSome_none] at sV
       go_wp2_with fail
       refine (sV.out _ (BR.out.dE (hf:=fZ))).mono ?_
       rintro e bB ⟨rfl,bG⟩
       go_upto_region 10 with fail
       have Aw:=bG.alloc bG.size (.cells #[(0:Int),(0:Int),(0:Int),(0:Int),(0:Int),(0:Int)] 148)
       generalize bB.alloc (.cells #[(0:Int),(0:Int),(0:Int),(0:Int),(0:Int),(0:Int)] 148)= hF at *
       have uG:=ah bm Aw;replace g0:=(Aw.cell (p:=⟨yR,0,none⟩) Az).trans g0;have ajj:yR < hF.heap.size:=Nat.lt_of_lt_of_le Az Aw.size;have aeA:=J (BR.out.later Aw)
       obtain⟨eX,gV⟩ :∃X:World→Prop,∀V,X V↔Below hF hF V:=⟨_,fun _=>Iff.rfl⟩
       have di:=J gV;clear gV
       haveI:Nonempty (cN eX):=⟨⟨hF,(di.out _).2 (Below.refl _ _)⟩⟩
       have EA:=J (hY.out.below uG hY.out.lt);have asb:=J (lP.out.later uG);have Iq:=J (ff.out.below uG)
       obtain⟨dd,dV,dT,en,et,fL,fM,fN,fO,fP,fK⟩:=aq.sr (fun K:cN eX=>EA.out.below ((di.out _).1 K.holds) EA.out.lt)
       have kQ:=fun K:cN eX=>(((di.out _).1 K.holds).cell (p:=⟨yR,0,none⟩) ajj).trans g0
       clear g0
       refine oU eX [([0,1,2,3,4,5,6,7],8)] [9,10,11,12] (by kernel_rfl) (by kernel_rfl) ((di.out _).2 (Below.refl _ _).drew) ?_
       have hl:Below hF hF hF.drew:=(Below.refl _ _).drew
       generalize hF.drew= aah at *
       refine ha fun gz dZ=>?_
       change wpQuiet _ _ _ _ (_ ::_ ::_ ::_ ::_ ::_ ::_ ::_ ::[]) _
       repeat (go_big_quiet_step (fail))
       refine wpQuiet_nil ?_
       change wpList _ _ _ (_ ::[]) _ _
       go_wp2_with fail
       refine (afE an ar aj ak aA c0 c1 c2 c3 c4 rs qs af ae sp ws U os dL.out iu.out v0 pt vP.out yE Ba li BO.out Eo.out aah (Iq.out.below hl) (aeA.out.later hl).dE (BY.out aah (lU (ah uG hl) _))).mono ?_
       rintro e dc ⟨x,rfl,ay,ei⟩
       have wW:=ah hl ei;have aeQ:=J ay;clear ay
       go_wp2
       refine hn ((di.out _).2 wW) (dZ _ _ ?_)
       refine mA ?_
       change wpQuiet _ _ _ _ (_ ::_ ::_ ::_ ::[]) _
       repeat (go_big_quiet_step (fail))
       refine wpQuiet_nil ?_
       have CL:=ah uG wW;clear dd dV dT en et fL fM fN fO fP fK kQ di this
       cases aZ:jU ⟨rs,qs,af,ae,sp,ws,U,os⟩ (eF v0) li with
       | none=>
         have cV:=J aZ;clear aZ
         go_wp2
         go_ret2
         exact⟨rs,qs,af,ae,sp,ws,U,os,an,c0,ar,c1,aj,c2,ak,c3,aA,c4,x,false,rfl,J (by rw [TU vP.out BV.out Eo.out,cV.out];rfl),J (fun _=>rfl),hY.out.below CL hY.out.lt,lP.out.later CL,lU CL _⟩
       | some y=>
         have e:=aeQ.out y aZ;have cV:=J aZ;clear aZ
         go_wp2
         go_ret2
         exact⟨rs,qs,af,ae,sp,ws,U,os,an,c0,ar,c1,aj,c2,ak,c3,aA,c4,x,true,rfl,J (by rw [TU vP.out BV.out Eo.out,cV.out,e];rfl),J (fun _=>rfl),hY.out.below CL hY.out.lt,lP.out.later CL,lU CL _⟩
     | some a=>
       obtain⟨kind,mem,val,yes,no,bx⟩:=a
       have sV:=J Eg;clear Eg
       simp only [Mn,Option.isSome_some] at sV
       go_wp2_with fail
       refine (sV.out _ (BR.out.dE (hf:=fZ))).mono ?_
       rintro e bB ⟨rfl,bG⟩
       go_upto_region 11 with fail
       obtain⟨ab,FY⟩ :∃b,b= bB.heap.size:=⟨_,rfl⟩
       have Aw:=bG.alloc bG.size (.cells #[kind,mem,val,yes,no,bx] 148);have Nd:=aq.new bB 148 #[kind,mem,val,yes,no,bx]
       rw [← FY] at Nd
       generalize bB.alloc (.cells #[kind,mem,val,yes,no,bx] 148)= hF at *
       rw [← FY]
       have uG:=ah bm Aw
       have aiw:w.heap.size≤ab:=by have:=bm.size;have:=bG.size;omega
       clear FY g0 Az;have EA:=J (hY.out.below uG hY.out.lt);have Iq:=J (ff.out.below uG);have Ib:=J Nd
       go_cut [13,14] (fun aru arv W=>∃(cA:Nat) (b:Bool) (dp:List aJ) (dB:List aL) (dP dO dG:Int) (bV:List Int) (bY:List aI) (dn:List Out) (cI:Option Addr) (e0:Nat) (cF:Option Addr) (e1:Nat) (de:Option Addr) (e2:Nat) (df:Option Addr) (e3:Nat) (cJ:Option Addr) (e4:Nat),aru= .pointer (some ⟨cA,0,none⟩)∧arv= .bool b∧hF.heap.size≤cA∧Hid (gF ⟨rs,qs,af,ae,sp,ws,U,os⟩ ⟨kind,mem,val,yes,no,bx⟩ =if b= true then some ⟨dp,dB,dP,dO,dG,bV,bY,dn⟩ else none)∧aq W cA 44 #[.slice cI dp e0,.slice cF dB e1,dP,dO,dG,.slice de bV e2,.slice df bY e3,.slice cJ dn e4]∧gA hF W cI e0 cF e1 de e2 df e3 cJ e4 dp dB bV bY dn∧Below hF hF W)
       case first=>
         have RF:=J (fun W (h:ea W an ar aj ak aA rs qs ws U os)=>alm an ar aj ak aA c0 c1 c2 c3 c4 rs qs af ae sp ws U os dL.out kind mem val yes no bx iu.out W h);have Sd:=Iq;clear hY lP ff BY Sp hx dX bm bG Aw uG aiw BR Nd qB sV BT Iq oi Ox
         generalize hF= w at *
         obtain⟨eX,gV⟩ :∃X:World→Prop,∀V,X V↔Below w w V:=⟨_,fun _=>Iff.rfl⟩
         have di:=J gV;clear gV
         haveI:Nonempty (cN eX):=⟨⟨w,(di.out _).2 (Below.refl _ _)⟩⟩
         refine arQ eX [0,1,2,3,4] #[true,true,true,true,true,false,false,false,false,false,false,false] (by kernel_rfl) (by kernel_rfl) ((di.out _).2 (Below.refl _ _).drew) (fun K gj=>?_)
         obtain⟨dd,dV,dT,en,et,fL,fM,fN,fO,fP,fK⟩:=aq.sr (fun K:cN eX=>EA.out.below ((di.out _).1 K.holds) EA.out.lt)
         obtain⟨a0,a1,a2,a3,a4,a5⟩:=aq.MC (fun K:cN eX=>Ib.out.below ((di.out _).1 K.holds) Ib.out.lt)
         change wpQuiet _ _ _ _ (_ ::_ ::_ ::_ ::_ ::[]) _
         repeat (go_big_quiet_step (fail))
         refine wpQuiet_nil ?_
         refine gj _ _ ?_
         have I:Below w w w.drew:=(Below.refl _ _).drew;clear gj K dd dV dT en et fL fM fN fO fP fK a0 a1 a2 a3 a4 a5
         generalize w.drew= wd at *
         refine aoI 5 [6,7,8] #[true,true,true,true,true,true,true,true,true,false,false,false] 9 [] #[true,true,true,true,true,false,false,false,false,true,false,false] (by kernel_rfl) ((di.out _).2 I) (fun K gj=>?_) (fun K gj=>?_)
         · skip
           change wpList _ _ _ (_ ::[]) _ _
           have wL:=I.size
           go_wp2_with fail
           refine (RF.out _ (Sd.out.below (ah I av))).mono ?_
           rintro e bd ⟨dp,dB,dP,dO,dG,bV,bY,dn,cI,e0,cF,e1,de,e2,df,e3,cJ,e4,b,rfl,yy,fz,bz⟩
           have au:=be wd bz;replace I:=ah I au;replace fz:=fz.base (B':=w.heap.size) (by omega);have nw:=fz.kJ;have lR:=fz.hU;have jS:=fz.fk;have jT:=fz.fJ;have lk:=fz.mc;clear fz wL
           go_wp2
           refine⟨rfl,(di.out _).2 I,?_⟩
           change wpQuiet _ _ _ _ (_ ::_ ::_ ::[]) _
           repeat (go_big_quiet_step (fail))
           refine wpQuiet_nil ?_
           refine gj _ _ ?_
           clear gj K
           refine PY 9 [] #[true,true,true,true,true,true,true,true,true,true,false,false] (by kernel_rfl) ((di.out _).2 I) (fun K gj=>?_)
           change wpList _ _ _ (_ ::[]) _ _
           obtain⟨cA,mO⟩ :∃b,b= bd.heap.size:=⟨_,rfl⟩
           have Oo:w.heap.size≤cA:=by have:=I.size;omega
           go_wp2
           refine cR fun nt ao eL=>?_
           replace nw:=nw.later ao;replace lR:=lR.later ao;replace jS:=jS.later ao;replace jT:=jT.later ao;replace lk:=lk.later ao;replace I:=ah I ao
           obtain⟨v0,v1,v2,v3,v4,v5,v6,mg⟩:=eL.aG
           rw [← mO] at eL v0 v1 v2 v3 v4 v5 v6 mg
           rw [← mO]
           clear mO v0 v1 v2 v3 v4 v5 v6 mg
           obtain⟨v0,v1,v2,v3,v4,v5,v6,mg⟩:=eL.aG
           refine⟨rfl,(di.out _).2 I,?_⟩
           change wpQuiet _ _ _ _ ([]) _
           refine wpQuiet_nil ?_
           refine gj _ _ ?_
           clear gj K
           generalize nt= arA at *
           exact abH
         · skip
           change wpList _ _ _ (_ ::[]) _ _
           obtain⟨cA,mO⟩ :∃b,b= wd.heap.size:=⟨_,rfl⟩
           have Oo:w.heap.size≤cA:=by have:=I.size;omega
           go_wp2
           refine cR fun nt au eL=>?_
           replace I:=ah I au
           obtain⟨v0,v1,v2,v3,v4,v5,v6,mg⟩:=eL.aG
           rw [← mO] at eL v0 v1 v2 v3 v4 v5 v6 mg
           rw [← mO]
           clear mO v0 v1 v2 v3 v4 v5 v6 mg
           obtain⟨v0,v1,v2,v3,v4,v5,v6,mg⟩:=eL.aG
           refine⟨rfl,(di.out _).2 I,?_⟩
           change wpQuiet _ _ _ _ ([]) _
           refine wpQuiet_nil ?_
           refine gj _ _ ?_
           clear gj K
           refine PY 5 [6,7,8] #[true,true,true,true,true,true,true,true,true,true,false,false] (by kernel_rfl) ((di.out _).2 I) (fun K gj=>?_)
           change wpList _ _ _ (_ ::[]) _ _
           have wL:=I.size
           go_wp2_with fail
           refine (RF.out _ (Sd.out.below (ah I av))).mono ?_
           rintro e aM ⟨dp,dB,dP,dO,dG,bV,bY,dn,cI,e0,cF,e1,de,e2,df,e3,cJ,e4,b,rfl,yy,fz,aN⟩
           have ao:=be nt aN;replace I:=ah I ao;replace eL:=eL.to ao;clear v0 v1 v2 v3 v4 v5 v6 mg
           obtain⟨v0,v1,v2,v3,v4,v5,v6,mg⟩:=eL.aG
           replace fz:=fz.base (B':=w.heap.size) (by omega);have nw:=fz.kJ;have lR:=fz.hU;have jS:=fz.fk;have jT:=fz.fJ;have lk:=fz.mc;clear fz wL
           go_wp2
           refine⟨rfl,(di.out _).2 I,?_⟩
           change wpQuiet _ _ _ _ (_ ::_ ::_ ::[]) _
           repeat (go_big_quiet_step (fail))
           refine wpQuiet_nil ?_
           refine gj _ _ ?_
           clear gj K
           generalize aM= arA at *
           exact abH
       case rest=>
         obtain⟨cA,b,dp,dB,dP,dO,dG,bV,bY,dn,cI,e0,cF,e1,de,e2,df,e3,cJ,e4,rfl,rfl,Oo,yy,eL,fz,Uo⟩:=hcut
         generalize wc= aaf at *
         have FK:=ah uG Uo
         cases b
         · have lr:gF ⟨rs,qs,af,ae,sp,ws,U,os⟩ ⟨kind,mem,val,yes,no,bx⟩ =none:=by simpa using yy.out
           have vM:=J lr;clear lr
           go_wp2
           go_ret2
           exact⟨rs,qs,af,ae,sp,ws,U,os,an,c0,ar,c1,aj,c2,ak,c3,aA,c4,⟨#[]⟩,false,rfl,J (by rw [TT vP.out BV.out Eo.out,vM.out];rfl),J (fun _=>rfl),hY.out.below FK hY.out.lt,lP.out.later FK,lU FK _⟩
         · have lr:gF ⟨rs,qs,af,ae,sp,ws,U,os⟩ ⟨kind,mem,val,yes,no,bx⟩ =some ⟨dp,dB,dP,dO,dG,bV,bY,dn⟩:=by simpa using yy.out
           have vM:=J lr;clear lr;have FU:=hY.out.below FK hY.out.lt;have Nf:=Ib.out.below Uo Ib.out.lt;have atX:=uG.size
           have ajE:cA≠p:=by omega
           have jC:ab≠p:=by omega
           have Sq:=J FU;have aeV:=J (fz.base (B':=B) (by omega));have UQ:=FU.lt;have aij:=eL.lt;have ahV:=Nf.lt;have oz:=eL.aG;have aho:=FU.jh;have arR:=FU.bM;clear fz
           go_upto_region 15 with fail
           clear oz aho arR
           refine iK 0 fun cS aC=>?_
           have er:=aC.PH Sq.out;have Nn:=aC.dM eL ajE;have hA9:=aC.dM Nf jC;have Mb:=aeV.out.gY Sq.out aC.gi;have UB:=qg (lU FK (some p)) aC.gi
           have n9:=Nn.aG;have a9:=hA9.da;have atp:=Nn.lt;have atm:=hA9.lt;have BZ:=J er;have Ac:=J Mb;have oJ:=J UB;have aeG:=J Mb.rd.nJ;have tA:=(tE (JZ iu.out vM.out)).2.2.2.2
           simp only at tA
           clear FU Nf eL er Nn hA9 Mb UB aC UQ aij ahV
           go_wp2_with fail
           refine (afi dp dB dP dO dG bV bY dn cI e0 cF e1 de e2 df e3 cJ e4 ⟨kind,mem,val,yes,no,bx⟩ (XJ iu.out vM.out) (fun az=>XI vM.out az) (by omega) cS aeG.out (BY.out cS oJ.out).t).mono ?_
           rintro e HL ⟨rfl,Gc⟩
           go_wp2
           go_ret2
           exact⟨dp,dB,dP,dO,dG,bV,bY,dn,cI,e0,cF,e1,de,e2,df,e3,cJ,e4,_,true,rfl,J (by rw [TT vP.out BV.out Eo.out,vM.out];rfl),J (fun e=>by cases e),BZ.out.below Gc BZ.out.lt,Ac.out.later Gc,qg oJ.out (lU Gc _)⟩
open Go.RowKit Go.G9
theorem hX {w:World} {g:Nat} {Q:World→Prop} (k:Nat) {a0 a1 a2 a3 a4 a5 a6 a7 a8 a9 a10:Value} (h:∀W,dA w g k [a0,a1,a2,a3,a4,a5,a6,a7,a8,a9,a10] W→Q W):Q (World.setCell (World.setCell (World.setCell (World.setCell (World.setCell (World.setCell (World.setCell (World.setCell (World.setCell (World.setCell (World.setCell w ⟨g,k,none⟩ a0) ⟨g,k + 1,none⟩ a1) ⟨g,k + 2,none⟩ a2) ⟨g,k + 3,none⟩ a3) ⟨g,k + 4,none⟩ a4) ⟨g,k + 5,none⟩ a5) ⟨g,k + 6,none⟩ a6) ⟨g,k + 7,none⟩ a7) ⟨g,k + 8,none⟩ a8) ⟨g,k + 9,none⟩ a9) ⟨g,k + 10,none⟩ a10):=h _ (dA.cons (dA.cons (dA.cons (dA.cons (dA.cons (dA.cons (dA.cons (dA.cons (dA.cons (dA.cons (dA.cons dA.nil)))))))))))
theorem Kf (an ar aj ak aA:Option Addr) (c0 c1 c2 c3 c4:Nat) (rs:List aJ) (qs:List aL) (af ae sp:Int) (ws:List Int) (U:List aI) (os:List Out) (ck cl:ByteArray) (cj:Int) (Z:eC an ar aj ak aA c0 c1 c2 c3 c4 rs qs ws U os) (w:World) (R:ea w an ar aj ak aA rs qs ws U os):
 Calls Tryz.prog 54 #[.agg #[.slice an rs c0,.slice ar qs c1,af,ae,sp,.slice aj ws c2,.slice ak U c3,.slice aA os c4,ck,cl,cj]] w fun e ag=>∃(cq:Option Addr) (d0:Nat) (cK:Option Addr) (d1:Nat) (bg:Option Addr) (d2:Nat) (bn:Option Addr) (d3:Nat) (ct:Option Addr) (d4:Nat),e= .returned (.agg #[.slice cq rs d0,.slice cK qs d1,af,ae,sp,.slice bg ws d2,.slice bn U d3,.slice ct os d4,ck,cl,cj])∧gA w ag cq d0 cK d1 bg d2 bn d3 ct d4 rs qs ws U os∧Below w w ag:=by
 have dL:=J Z;clear Z
 go_in
 go_upto_region 1 with fail
 refine fm fun aF au aQ ad=>?_
 replace R:=R.below au;have I:=au;have bF:=aQ.bM;obtain⟨z0,bw,z2,z3,z4,z5,cy,dh,dm,z9,dk⟩:=ad.bM
 have bJ:=J R;clear R;clear bF z0 bw z2 z3 z4 z5 cy dh dm z9 dk
 obtain⟨eX,gV⟩ :∃X:World→Prop,∀V,X V↔aq V w.heap.size 46 #[.slice an rs c0,.slice ar qs c1,af,ae,sp,.slice aj ws c2,.slice ak U c3,.slice aA os c4,ck,cl,cj]:=⟨_,fun _=>Iff.rfl⟩
 have di:=J gV;clear gV
 haveI:Nonempty (cN eX):=⟨⟨aF,(di.out _).2 aQ⟩⟩
 refine oU eX [([0,1,3,4],2),([5],6)] [] (by kernel_rfl) (by kernel_rfl) ((di.out _).2 aQ) ?_
 have bF:=aq.sr (fun K:cN eX=>(di.out _).1 K.holds);have hl:Below w w aF.drew:=ah I (Below.refl _ _).drew;have LK:=J (bJ.out.below (Below.refl _ _).drew);have om:aq aF.drew w.heap.size 46 #[.slice an rs c0,.slice ar qs c1,af,ae,sp,.slice aj ws c2,.slice ak U c3,.slice aA os c4,ck,cl,cj]:=aQ
 have NG:aq aF.drew (w.heap.size + 1) 46 #[.slice none 0 0,.slice none 0 0,(0:Int),(0:Int),(0:Int),.slice none 0 0,.slice none 0 0,.slice none 0 0,.string ⟨#[]⟩,.string ⟨#[]⟩,(0:Int)]:=ad;clear aQ ad
 generalize aF.drew= wd at *
 refine ha fun gz dZ=>?_
 change wpQuiet _ _ _ _ (_ ::_ ::_ ::_ ::[]) _
 repeat (go_big_quiet_step (fail))
 refine wpQuiet_nil ?_
 change wpList _ _ _ (_ ::[]) _ _
 go_wp2_with fail
 refine (Kg an ar aj ak aA c0 c1 c2 c3 c4 rs qs af ae sp ws U os dL.out wd LK.out).mono ?_
 rintro e aM ⟨cq,d0,cK,d1,bg,d2,bn,d3,ct,d4,rfl,gN,aN⟩
 have jA:=om.to aN;have tu:=NG.to aN;have na:=ah hl aN;have NP:=hl.size;have kC:=J (gN.base (B':=w.heap.size) NP);clear gN
 go_wp2
 refine hn ((di.out _).2 jA) (dZ _ _ ?_)
 refine ha fun gz dZ=>?_
 change wpQuiet _ _ _ _ (_ ::[]) _
 repeat (go_big_quiet_step (fail))
 refine wpQuiet_nil ?_
 change wpList _ _ _ (_ ::[]) _ _
 have EB:=J tu;have al:=tu.bM;have eK:=tu.hh;clear tu
 go_wp2
 clear al eK
 refine hX 0 fun cS aC=>?_
 have er:=aC.dM jA;have bQ:=aC.hV EB.out;have fH:=kC.out.gY EB.out aC.gi;have ez:=aC.aE na
 refine hn ((di.out _).2 er) (dZ _ _ ?_)
 refine mA ?_
 change wpQuiet _ _ _ _ ([]) _
 refine wpQuiet_nil ?_
 clear bF
 obtain⟨z0,bw,z2,z3,z4,z5,cy,dh,dm,z9,dk⟩:=bQ.bM
 go_wp2
 exact hg ⟨cq,d0,cK,d1,bg,d2,bn,d3,ct,d4,rfl,fH,ez⟩ (by simp [results,Tryz.results54,go_sem,z0,bw,z2,z3,z4,z5,cy,dh,dm,z9,dk])
theorem Hp (an ar aj ak aA:Option Addr) (c0 c1 c2 c3 c4:Nat) (rs:List aJ) (qs:List aL) (af ae sp:Int) (ws:List Int) (U:List aI) (os:List Out) (ck cl:ByteArray) (cj:Int) (Z:eC an ar aj ak aA c0 c1 c2 c3 c4 rs qs ws U os) (w:World) (R:ea w an ar aj ak aA rs qs ws U os):
 Calls Tryz.prog 58 #[.agg #[.slice an rs c0,.slice ar qs c1,af,ae,sp,.slice aj ws c2,.slice ak U c3,.slice aA os c4,ck,cl,cj]] w fun e ag=>∃(cq:Option Addr) (d0:Nat) (cK:Option Addr) (d1:Nat) (bg:Option Addr) (d2:Nat) (bn:Option Addr) (d3:Nat) (ct:Option Addr) (d4:Nat),e= .returned (.agg #[.slice cq rs d0,.slice cK qs d1,af,ae,sp,.slice bg ws d2,.slice bn U d3,.slice ct os d4,ck,cl,cj])∧gA w ag cq d0 cK d1 bg d2 bn d3 ct d4 rs qs ws U os∧Below w w ag:=by
 have dL:=J Z;clear Z
 go_in
 go_upto_region 1 with fail
 refine fm fun aF au aQ ad=>?_
 replace R:=R.below au;have I:=au;have bF:=aQ.bM;obtain⟨z0,bw,z2,z3,z4,z5,cy,dh,dm,z9,dk⟩:=ad.bM
 have bJ:=J R;clear R;clear bF z0 bw z2 z3 z4 z5 cy dh dm z9 dk
 obtain⟨eX,gV⟩ :∃X:World→Prop,∀V,X V↔aq V w.heap.size 46 #[.slice an rs c0,.slice ar qs c1,af,ae,sp,.slice aj ws c2,.slice ak U c3,.slice aA os c4,ck,cl,cj]:=⟨_,fun _=>Iff.rfl⟩
 have di:=J gV;clear gV
 haveI:Nonempty (cN eX):=⟨⟨aF,(di.out _).2 aQ⟩⟩
 refine oU eX [([0,1,3,4],2),([5],6)] [] (by kernel_rfl) (by kernel_rfl) ((di.out _).2 aQ) ?_
 have bF:=aq.sr (fun K:cN eX=>(di.out _).1 K.holds);have hl:Below w w aF.drew:=ah I (Below.refl _ _).drew;have LK:=J (bJ.out.below (Below.refl _ _).drew);have om:aq aF.drew w.heap.size 46 #[.slice an rs c0,.slice ar qs c1,af,ae,sp,.slice aj ws c2,.slice ak U c3,.slice aA os c4,ck,cl,cj]:=aQ
 have NG:aq aF.drew (w.heap.size + 1) 46 #[.slice none 0 0,.slice none 0 0,(0:Int),(0:Int),(0:Int),.slice none 0 0,.slice none 0 0,.slice none 0 0,.string ⟨#[]⟩,.string ⟨#[]⟩,(0:Int)]:=ad;clear aQ ad
 generalize aF.drew= wd at *
 refine ha fun gz dZ=>?_
 change wpQuiet _ _ _ _ (_ ::_ ::_ ::_ ::[]) _
 repeat (go_big_quiet_step (fail))
 refine wpQuiet_nil ?_
 change wpList _ _ _ (_ ::[]) _ _
 go_wp2_with fail
 refine (Ha an ar aj ak aA c0 c1 c2 c3 c4 rs qs af ae sp ws U os dL.out wd LK.out).mono ?_
 rintro e aM ⟨cq,d0,cK,d1,bg,d2,bn,d3,ct,d4,rfl,gN,aN⟩
 have jA:=om.to aN;have tu:=NG.to aN;have na:=ah hl aN;have NP:=hl.size;have kC:=J (gN.base (B':=w.heap.size) NP);clear gN
 go_wp2
 refine hn ((di.out _).2 jA) (dZ _ _ ?_)
 refine ha fun gz dZ=>?_
 change wpQuiet _ _ _ _ (_ ::[]) _
 repeat (go_big_quiet_step (fail))
 refine wpQuiet_nil ?_
 change wpList _ _ _ (_ ::[]) _ _
 have EB:=J tu;have al:=tu.bM;have eK:=tu.hh;clear tu
 go_wp2
 clear al eK
 refine hX 0 fun cS aC=>?_
 have er:=aC.dM jA;have bQ:=aC.hV EB.out;have fH:=kC.out.gY EB.out aC.gi;have ez:=aC.aE na
 refine hn ((di.out _).2 er) (dZ _ _ ?_)
 refine mA ?_
 change wpQuiet _ _ _ _ ([]) _
 refine wpQuiet_nil ?_
 clear bF
 obtain⟨z0,bw,z2,z3,z4,z5,cy,dh,dm,z9,dk⟩:=bQ.bM
 go_wp2
 exact hg ⟨cq,d0,cK,d1,bg,d2,bn,d3,ct,d4,rfl,fH,ez⟩ (by simp [results,Tryz.results58,go_sem,z0,bw,z2,z3,z4,z5,cy,dh,dm,z9,dk])
end Go.Proofs.YtlaaemmmbodaaaaGreatDoor
