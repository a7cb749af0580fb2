/- Parts. -/
import Derived.Test.YtlaaemmmbodaaaaGreatDoorRp9
import Derived.Deep.CutRange
import Derived.Deep.DeepCutAuto
set_option maxHeartbeats 16000000
set_option maxRecDepth 100000
set_option linter.unnecessarySimpa false
set_option linter.unusedSimpArgs false
set_option linter.unusedVariables false
namespace Go.Proofs.YtlaaemmmbodaaaaGreatDoor
open Go.RowKit Go.G9
structure nF (w:World):Prop where
 t:jF w
 e:Ab w
 m:yr w
theorem nF.ae {w ah:World} (h:nF w) (aF:Below w w ah):nF ah:=⟨h.t.ae aF,h.e.ae aF,h.m.ae aF⟩
theorem ads:Builder.Extra Tryz.prog Tryz.UC:={sizeBuilder:=by kernel_rfl,liesBuilder:=by kernel_rfl,t5:=Tryz.underlying5,a5:=Tryz.isAgg5,z5:=Tryz.sizeOf5,v5:=Tryz.zeroValue5,infoByte:=by kernel_rfl,cellsByte:=by kernel_rfl,sizeByte:=by kernel_rfl,neB5:=by decide}
theorem aiU {ws:List ByteArray} {n:Nat} (h0:ws.length≠0) (h:∀x ∈ ws,x.size≤n):(kx ws).size≤ws.length * (n + 1):=by
 have h2:=MS h (ws.length - 1)
 rw [kx,if_neg h0]
 rwa [show ws.length - 1 + 1= ws.length by omega] at h2
theorem aiV (A:Option Addr) (c:Nat) (ws:List ByteArray) (h0:ws.length≠0) (aY:ws.length≤1000) (ck:∀x ∈ ws,x.size≤1000) (w:World) (bn:aS 1 hC w A ws) (fo:ws.length≤c):
 Calls Tryz.prog 249 #[.slice A ws c,.string (⟨#[32]⟩ :ByteArray)] w fun e ah=>e= .returned (.string (kx ws))∧Below w w ah:=by
 obtain⟨b,off,rfl,aF,aH⟩:=bn (by omega)
 have e:=aiT h0;have aT:=aiU h0 ck;have e2:(Lib.join (ws.map (·.data.toList)) ((⟨#[32]⟩ :ByteArray):ByteArray).data.toList).toArray.size= (kx ws).size:=congrArg ByteArray.size e
 rw [List.size_toArray] at e2
 have h:=Any.strings_Join Tryz.ajx ads b off c ws (⟨#[32]⟩ :ByteArray) w (fun j x aw=>by have:=aH j x aw 0 _ rfl;simpa using this) aF (by omega) fo (by omega)
 rw [e] at h
 exact h
theorem Nt (A:Option Addr) (c:Nat) (ws:List ByteArray) (aY:ws.length≤1000) (ck:∀x ∈ ws,x.size≤1000) (w:World) (bn:aS 1 hC w A ws) (fo:ws.length≤c):
 Calls Tryz.prog 171 #[.slice A ws c] w fun e ah=>e= .returned (.string (kx ws))∧Below w w ah:=by
 by_cases h0:ws.length= 0
 ·have e:kx ws= (⟨#[110,111,110,101]⟩ :ByteArray):=by rw [kx,if_pos h0]
  rw [e,h0]
  clear bn fo ck
  go_in
  go_wp2
  go_ret
  exact⟨rfl,Below.refl _ _⟩
 ·have eA:=J (aiV A c ws h0 aY ck w bn fo)
  have h1:((ws.length:Int) == 0)= false:=by rw [beq_eq_false_iff_ne];omega
  clear bn fo ck
  go_in
  go_wp2_with fail
  refine (eA.out).mono ?_
  exact OT
theorem aai {p:Prop} (h:p:=by
 clear g0
 go_wp2_with (at_builtin;refine kC rfl _ _ 57 rfl w.heap.size 9 i0 _ 1 16 Tryz.underlying57 hi dn dC dz rfl (by decide) hC jZ AB _ ((xs.take k).map eN) rfl (gY.alloc _) ⟨bh.heap.size,0,none⟩ 1 (eN x) rfl (aS.one _ _) (by have:=mr.out;unfold maxLen;omega) (by have:=mr.out;omega) (by have:=aL.size;simp;omega) ?_;intro v4 bU fb gq ld)
 have gS:Below w w bU:=(aL.alloc aL.size _).grown gq (by have:=aL.size;simp;omega) (fun q bj=>(gY.lt q bj).1)
 go_roundw
 case rel=>exact⟨k + 1,by omega,by go_num,by rw [cc.out];exact fb,gS⟩
 case measure=>simp [intOf];omega):p:=h
theorem Zd {p:Prop} (h:p:=by
 clear kc
 go_wp2_with fail
 refine eA.out.mono ?_
 rintro e bh ⟨rfl,br⟩
 go_wp2
 go_ret
 exact⟨by rw [nT,Ga.out];rfl,aj aF br⟩):p:=h
theorem Na (A:Option Addr) (c:Nat) (xs:List Int) (aY:xs.length≤100) (ck:∀x ∈ xs,-999999≤x∧x≤999999) (w:World) (bn:aS 1 bV w A xs) (bO:jF w):
 Calls Tryz.prog 173 #[.slice A xs c] w fun e ah=>e= .returned (.string (nT xs))∧Below w w ah:=by
 obtain⟨i0,hi,dn,dC,dz⟩:=info_parts zm
 have bg:=J ck;clear ck;have hL:=bd.made (f:=hC) (sz:=1) w (B:=w.heap.size) (Nat.le_refl _) 9
 obtain⟨ys,vX⟩ :∃ys,xs.map eN= ys:=⟨_,rfl⟩
 have JQ:=J (show ys.length≤1000 by rw [← vX,List.length_map];omega);have JR:=J (show∀s ∈ ys,s.size≤1000 from fun s aV=>by rw [← vX] at aV;obtain⟨x,aw,rfl⟩:=List.mem_map.1 aV;have:=bg.out x aw;have:=wm x (by omega);omega);have Ga:=J vX;clear vX
 go_in
 go_wp2
 go_loopw [3,9] (fun y i wr=>∃k:Nat,k≤xs.length∧i= .int .i64 k∧bd w 9 1 hC wr y ((xs.take k).map eN)∧Below w w wr) (fun _ i _=>xs.length - (intOf i).toNat)
 case atStart=>exact⟨0,Nat.zero_le _,rfl,hL,bT _ _⟩
 case round=>
  obtain⟨k,aD,rfl,bM,aF⟩:=hrel
  have pO:((xs.take k).map eN).length= k:=by rw [List.length_map,List.length_take];omega
  have dm:=J bM;have abY:=J pO;clear bM pO
  by_cases bu:k < xs.length
  ·obtain⟨dY,gP,x,rfl,ew,aw,bz⟩:=bn.at_ aF bu
   have TH:=bg.out x (List.mem_of_getElem? aw);have ch:=bz 0 _ rfl
   simp only [Nat.add_zero] at ch
   have g0:=ch (ay.self _)
   simp only [ay.self] at g0
   simp only [Nat.mul_one] at g0
   have pQ:(xs.take (k + 1)).map eN= (xs.take k).map eN ++ [eN x]:=by rw [List.take_add_one,aw];simp
   have cc:=J pQ;clear aw bz pQ ch
   go_wp2_with fail
   refine (zq x (by omega) (by omega) _ (bO.ae aF)).mono ?_
   rintro e bh ⟨rfl,br⟩
   have aL:=aj aF br;have gY:=dm.out.bm br;have mr:=abY
   exact aai
  ·obtain rfl:k= xs.length:=by omega
   have kc:=dm.out
   rw [List.take_length,Ga.out] at kc
   obtain⟨Y,gV,rfl,_,_,_⟩:=kc.form jZ
   have eA:=J (Nt Y gV ys JQ.out JR.out wr (kc.hj (hf:=jZ)) (ph kc jZ))
   exact Zd
theorem MW (A:Option Addr) (c:Nat) (ws:List ByteArray) (aY:ws.length≤1000) (ck:∀x ∈ ws,x.size≤1000) (w:World) (bn:aS 1 hC w A ws):
 Calls Tryz.prog 189 #[.slice A ws c] w fun e ah=>e= .returned (.string (kx ws))∧Below w w ah:=by
 by_cases h0:ws.length= 0
 ·have e:kx ws= (⟨#[110,111,110,101]⟩ :ByteArray):=by rw [kx,if_pos h0]
  rw [e,h0]
  clear bn ck
  go_in
  go_wp2
  go_ret
  exact⟨rfl,Below.refl _ _⟩
 ·have e:kx ws= na ws (ws.length - 1):=by rw [kx,if_neg h0]
  rw [e]
  have bg:=J (fun k=>MS ck k);have acJ:=J ck
  have h1:((ws.length:Int) == 0)= false:=by rw [beq_eq_false_iff_ne];omega
  obtain⟨b,off,dd,rfl,ew,pb,bz⟩:=bn.at_ (Below.refl _ _) (k:=0) (by omega)
  have g0:=bz 0 _ rfl (ay.self _)
  simp only [Nat.zero_mul,Nat.add_zero,ay.self] at g0
  have iF:na ws 0= dd:=by rw [na,pb];rfl
  have Ap:=J iF;have pr:=J bn;clear pb bz ck e iF bn
  go_in
  go_wp2
  clear g0
  go_loopw [3,4] (fun s i wr=>∃k:Nat,k < ws.length∧i= .int .i64 (k + 1:Nat)∧s= .string (na ws k)∧wr= w) (fun _ i _=>ws.length - (intOf i).toNat)
  case atStart=>exact⟨0,by omega,rfl,by rw [Ap.out],rfl⟩
  case round=>
   obtain⟨k,aD,rfl,rfl,rfl⟩:=hrel
   have apX:(na ws k).size≤1001000:=by
    have h1:=bg.out k;have h2:(k + 1) * (1000 + 1)≤1000 * 1001:=Nat.mul_le_mul_right _ (by omega)
    omega
   by_cases bu:k + 1 < ws.length
   ·obtain⟨dJ,Ns,x,e2,th,aw,bz⟩:=pr.out.at_ (Below.refl _ _) bu
    cases e2
    have f0:=bz 0 _ rfl (ay.self _)
    simp only [Nat.mul_one,Nat.add_zero,ay.self] at f0
    have zi:=acJ.out x (List.mem_of_getElem? aw);have cc:=J (Ul aw);clear aw bz
    generalize na ws k= s at *
    go_wp2
    go_roundw
    case rel=>exact⟨k + 1,by omega,by go_num,by rw [cc.out],by first | rfl | trivial⟩
    case measure=>simp [intOf];omega
   ·obtain rfl:k= ws.length - 1:=by omega
    have xr:¬((ws.length - 1 + 1:Nat):Int) < (ws.length:Int):=by omega
    go_wp2
    go_ret
    exact⟨rfl,Below.refl _ _⟩
theorem Uv (A:Option Addr) (c:Nat) (xs:List Int) (aY:xs.length≤100) (ck:∀x ∈ xs,-999999≤x∧x≤999999) (w:World) (bn:aS 1 bV w A xs):
 Calls Tryz.prog 191 #[.slice A xs c] w fun e ah=>e= .returned (.string (nT xs))∧Below w w ah:=by
 obtain⟨i0,hi,dn,dC,dz⟩:=info_parts zm
 have bg:=J ck;clear ck;have hL:=bd.made (f:=hC) (sz:=1) w (B:=w.heap.size) (Nat.le_refl _) 9
 obtain⟨ys,vX⟩ :∃ys,xs.map eN= ys:=⟨_,rfl⟩
 have JQ:=J (show ys.length≤1000 by rw [← vX,List.length_map];omega);have JR:=J (show∀s ∈ ys,s.size≤1000 from fun s aV=>by rw [← vX] at aV;obtain⟨x,aw,rfl⟩:=List.mem_map.1 aV;have:=bg.out x aw;have:=wm x (by omega);omega);have Ga:=J vX;clear vX
 go_in
 go_wp2
 go_loopw [3,4] (fun y i wr=>∃k:Nat,k≤xs.length∧i= .int .i64 k∧bd w 9 1 hC wr y ((xs.take k).map eN)∧Below w w wr) (fun _ i _=>xs.length - (intOf i).toNat)
 case atStart=>exact⟨0,Nat.zero_le _,rfl,hL,bT _ _⟩
 case round=>
  obtain⟨k,aD,rfl,bM,aF⟩:=hrel
  have pO:((xs.take k).map eN).length= k:=by rw [List.length_map,List.length_take];omega
  have dm:=J bM;have mr:=J pO;clear bM pO
  by_cases bu:k < xs.length
  ·obtain⟨dY,gP,x,rfl,ew,aw,bz⟩:=bn.at_ aF bu
   have TH:=bg.out x (List.mem_of_getElem? aw);have ch:=bz 0 _ rfl
   simp only [Nat.add_zero] at ch
   have g0:=ch (ay.self _)
   simp only [ay.self] at g0
   simp only [Nat.mul_one] at g0
   have pQ:(xs.take (k + 1)).map eN= (xs.take k).map eN ++ [eN x]:=by rw [List.take_add_one,aw];simp
   have cc:=J pQ;clear aw bz pQ ch
   go_wp2_with fail
   refine (pT x (by omega) (by omega) _).mono ?_
   rintro e bh ⟨rfl,br⟩
   have aL:=aj aF br;have gY:=dm.out.bm br
   exact aai
  ·obtain rfl:k= xs.length:=by omega
   have kc:=dm.out
   rw [List.take_length,Ga.out] at kc
   obtain⟨Y,gV,rfl,_,_,_⟩:=kc.form jZ
   have eA:=J (MW Y gV ys JQ.out JR.out wr (kc.hj (hf:=jZ)))
   exact Zd
open Go.RowKit Go.G9
theorem Iw {ag af sp:Int} {ws:List Int} {ad:List aO} (h:gd ag af sp ws ad= true) {m:Int} (hm:ey m= true):0≤(ej ad m).dS∧(ej ad m).dS≤af∧af≤3600:=by
 have H:=GK.1 h;have h1:=H.t;have h2:=H.s;have h3:=tQ.1 (Xi H.ok (by omega) (by omega) hm)
 omega
theorem ZX {p:Prop} (h:p:=by
 rintro e w0 ⟨rfl,h0⟩
 rw [h0]
 clear h0 w0
 go_wp2
 go_ret2
 exact⟨rfl,(aj I az)⟩):p:=h
theorem YK {p:Prop} (h:p:=by
 refine wpQuiet_nil ?_
 intro K
 clear aC;have aP:Below aJ aJ K.world:=aj az K.ae;replace I:=aj I aP
 go_wp2
 go_ret2
 exact⟨rfl,(aj I az)⟩):p:=h
theorem ahN (ag af sp:Int) (an:Option Addr) (c2:Nat) (ws:List Int) (ao:Option Addr) (c3:Nat) (ad:List aO) (h2:ws.length≤1048576) (h3:ad.length≤1048576) (cp:ws.length≤c2) (ax:gd ag af sp ws ad= true) (m:Int) (w:World) (bw:aS 1 bV w an ws) (bt:aS 3 aO.cells w ao ad):
 Calls Tryz.prog 175 #[.agg #[ag,af,sp,.slice an ws c2,.slice ao ad c3],m] w fun e ah=>e= .returned (.tuple #[.int .i64 (if ey m then af - (ej ad m).dS else 0),.bool (ey m)])∧Below w w ah:=by
 have bo:=J ax
 cases hm:ey m
 ·have dP:=J hm
  rw [if_neg (by simp)]
  clear hm ax
  go_in
  go_wp2_with fail
  refine (lh ag af sp an ws c2 ao c3 ad h2 h3 cp _ bo.out _ (bw.ae az) (bt.ae az)).mono ?_
  rintro e bh ⟨rfl,br⟩
  have au:=be w br;have I:Below w w bh:=au
  go_wp2_with fail
  refine (iG m _ dP.out _).mono ?_
  exact ZX
 ·have dP:=J hm
  rw [if_pos rfl]
  obtain⟨s1,s2,nD⟩:=Iw ax hm
  obtain⟨s,aV⟩ :∃s,ej ad m= s:=⟨_,rfl⟩
  have dU:=J aV
  rw [aV] at s1 s2 ⊢
  clear hm ax aV
  obtain⟨sm,st,cm⟩:=s
  simp only at s1 s2 ⊢
  have ri:∀W:World,(Instr.field 214 (.agg #[sm,st,cm]) 2).run Tryz.prog W= .ok (.int .i64 cm) W:=fun _=>by kernel_rfl
  go_in
  go_upto_region 1 with fail
  refine cF fun aG au ai=>?_
  replace bw:=bw.ae au;replace bt:=bt.ae au;have I:=au;have aC:=ai.aM
  go_wp2_with fail
  refine (lh ag af sp an ws c2 ao c3 ad h2 h3 cp _ bo.out _ (bw.ae az) (bt.ae az)).mono ?_
  rintro e aJ ⟨rfl,aL⟩
  have al:=be aG aL;replace I:=aj I al;replace bt:=bt.ae al;replace ai:=ai.to al;clear aC;have aC:=ai.aM
  go_wp2_with fail
  refine (iG m _ dP.out _).mono ?_
  rintro e w0 ⟨rfl,h0⟩
  rw [h0]
  clear h0 w0
  go_upto_region 3 with fail
  have cQ:=J bt;clear bw bt;have lr:=J (fun k:ay aJ.heap.size aJ=>wA ag af sp an ws.length c2 ao c3 ad h3 m ⟨sm,st,cm⟩ dU.out k.world (cQ.out.ae k.ae));clear aC;have aC:=aB.jH (fun K:ay aJ.heap.size aJ=>(ai.ae K.ae ai.lt))
  refine eK (by kernel_rfl) (by kernel_rfl) ?_
  repeat (go_big_quiet_step ((first | (go_at_call 201;exact ay.call _ (by first | exact Nat.le_refl _ | omega) (lr.out _)))))
  exact YK
theorem ams (ag af sp:Int) (an:Option Addr) (c2:Nat) (ws:List Int) (ao:Option Addr) (c3:Nat) (ad:List aO) (h2:ws.length≤1048576) (h3:ad.length≤1048576) (cp:ws.length≤c2) (ax:gd ag af sp ws ad= true) (m:Int) (w:World) (bw:aS 1 bV w an ws) (bt:aS 3 aO.cells w ao ad):
 Calls Tryz.prog 195 #[.agg #[ag,af,sp,.slice an ws c2,.slice ao ad c3],m] w fun e ah=>e= .returned (.tuple #[.int .i64 (if ey m then af - (ej ad m).dS else 0),.bool (ey m)])∧Below w w ah:=by
 have bo:=J ax
 cases hm:ey m
 ·have dP:=J hm
  rw [if_neg (by simp)]
  clear hm ax
  go_in
  go_wp2_with fail
  refine (lj ag af sp an ws c2 ao c3 ad h2 h3 cp _ bo.out _ (bw.ae az) (bt.ae az)).mono ?_
  rintro e bh ⟨rfl,br⟩
  have au:=be w br;have I:Below w w bh:=au
  go_wp2_with fail
  refine (iy m _ dP.out _).mono ?_
  exact ZX
 ·have dP:=J hm
  rw [if_pos rfl]
  obtain⟨s1,s2,nD⟩:=Iw ax hm
  obtain⟨s,aV⟩ :∃s,ej ad m= s:=⟨_,rfl⟩
  have dU:=J aV
  rw [aV] at s1 s2 ⊢
  clear hm ax aV
  obtain⟨sm,st,cm⟩:=s
  simp only at s1 s2 ⊢
  have ri:∀W:World,(Instr.field 214 (.agg #[sm,st,cm]) 2).run Tryz.prog W= .ok (.int .i64 cm) W:=fun _=>by kernel_rfl
  go_in
  go_upto_region 1 with fail
  refine cF fun aG au ai=>?_
  replace bw:=bw.ae au;replace bt:=bt.ae au;have I:=au;have aC:=ai.aM
  go_wp2_with fail
  refine (lj ag af sp an ws c2 ao c3 ad h2 h3 cp _ bo.out _ (bw.ae az) (bt.ae az)).mono ?_
  rintro e aJ ⟨rfl,aL⟩
  have al:=be aG aL;replace I:=aj I al;replace bt:=bt.ae al;replace ai:=ai.to al;clear aC;have aC:=ai.aM
  go_wp2_with fail
  refine (iy m _ dP.out _).mono ?_
  rintro e w0 ⟨rfl,h0⟩
  rw [h0]
  clear h0 w0
  go_upto_region 3 with fail
  have cQ:=J bt;clear bw bt;have lr:=J (fun k:ay aJ.heap.size aJ=>tH ag af sp an ws.length c2 ao c3 ad h3 m ⟨sm,st,cm⟩ dU.out k.world (cQ.out.ae k.ae));clear aC;have aC:=aB.jH (fun K:ay aJ.heap.size aJ=>(ai.ae K.ae ai.lt))
  refine eK (by kernel_rfl) (by kernel_rfl) ?_
  repeat (go_big_quiet_step ((first | (go_at_call 267;exact ay.call _ (by first | exact Nat.le_refl _ | omega) (lr.out _)))))
  exact YK
def wx:Option aK→Value
 | some r=> .agg #[.int .i64 r.id,.string r.name,.int .i64 r.gD,.bool r.second,.bool r.kZ,.bool r.lK,.int .i64 r.hx]
 | none=> .agg #[.int .i64 0,.string ⟨#[]⟩,.int .i64 0,.bool false,.bool false,.bool false,.int .i64 0]
theorem QF (nm:ByteArray) (g:Nat) (x:aK) (W:World) (cT:W.cell? ⟨g,0,none⟩ =some (.string nm)) (aT:g < W.heap.size):
 Calls Tryz.prog 248 (#[.agg #[x.id,x.name,x.gD,x.second,x.kZ,x.lK,x.hx]] ++ #[.pointer (some ⟨g,0,none⟩)]) W fun e ah=>e= .returned (.bool (x.name.toList == nm.toList))∧Below W W ah:=by
 cases aF:x.name.toList == nm.toList
 all_goals
  go_in
  go_wp2
  go_ret
  exact⟨rfl,bT _ _⟩
theorem TQ (A:Option Addr) (c:Nat) (rs:List aK) (aY:rs.length≤1048576) (aH:rs.length≤c) (ax:js rs= true) (nm:ByteArray) (o:Option aK) (cG:sX rs nm= o) (w:World) (bn:aS 7 aK.cells w A rs):
 Calls Tryz.prog 169 #[.slice A rs c,nm] w fun e ah=>e= .returned (.tuple #[wx o,o.isSome])∧Below w w ah:=by
 have bo:=J ax
 cases o with
 | none=>
  have hT:=J (Bo cG);clear cG ax
  simp only [wx,Option.isSome_none]
  go_in
  go_upto_region 1 with fail
  refine fe fun aG au eH U=>?_
  replace bn:=bn.ae au;have I:=au;obtain⟨z0,bW,z2,z3,z4,z5,eO⟩:=U.pC
  have dH:Hid (∀x,x ∈ rs→∀V,Below aG aG V→Calls Tryz.prog 248 (#[.agg #[.int .i64 x.id,.string x.name,.int .i64 x.gD,.bool x.second,.bool x.kZ,.bool x.lK,.int .i64 x.hx]] ++ #[.pointer (some ⟨w.heap.size,0,none⟩)]) V fun e ah=>e= .returned (.bool (x.name.toList == nm.toList))∧Below V V ah):=J fun x _ V hM=>QF nm w.heap.size x V ((eH.to hM).cell 0) (eH.to hM).lt
  go_wp2_with fail
  refine (HB A c rs aY 248 #[.pointer (some ⟨w.heap.size,0,none⟩)] (zT Tryz.func248 (by kernel_rfl) (by kernel_rfl)) (EN nm) _ hT.out _ (bn.ae az) dH.out).mono ?_
  rintro e aJ ⟨rfl,aL⟩
  have al:=be aG aL;replace I:=aj I al;replace bn:=bn.ae al;replace U:=U.to al;clear z0 bW z2 z3 z4 z5 eO;obtain⟨z0,bW,z2,z3,z4,z5,eO⟩:=U.pC
  go_wp2_with fail
  refine (zp A c rs aY aH _ bo.out _ (bn.ae az)).mono ?_
  rintro e bB ⟨rfl,bx⟩
  have aP:=be aJ bx;replace I:=aj I aP;replace U:=U.to aP;clear z0 bW z2 z3 z4 z5 eO;obtain⟨z0,bW,z2,z3,z4,z5,eO⟩:=U.pC;have dM:=U.Dn
  go_wp2
  clear z0 bW z2 z3 z4 z5 eO
  refine Fl 0 fun cD aE=>?_
  replace I:=aE.aH I;replace U:=aE.CS U;obtain⟨z0,bW,z2,z3,z4,z5,eO⟩:=U.pC
  refine bodyPost_ret (v:= .tuple #[.agg #[(0:Int),.string ⟨#[]⟩,(0:Int),false,false,false,(0:Int)],false]) (by simp [results,Tryz.results169,go_sem,z0,bW,z2,z3,z4,z5,eO]) rfl ?_
  exact⟨rfl,I⟩
 | some r=>
  obtain⟨k,hi,aD⟩:=qq cG
  have bu:k < rs.length:=(List.getElem?_eq_some_iff.1 aD).1;have hT:=J hi;have ft:=J aD;clear cG ax hi aD
  simp only [wx,Option.isSome_some]
  go_in
  go_upto_region 1 with fail
  refine fe fun aG au eH U=>?_
  replace bn:=bn.ae au;have I:=au;obtain⟨z0,bW,z2,z3,z4,z5,eO⟩:=U.pC
  have dH:Hid (∀x,x ∈ rs→∀V,Below aG aG V→Calls Tryz.prog 248 (#[.agg #[.int .i64 x.id,.string x.name,.int .i64 x.gD,.bool x.second,.bool x.kZ,.bool x.lK,.int .i64 x.hx]] ++ #[.pointer (some ⟨w.heap.size,0,none⟩)]) V fun e ah=>e= .returned (.bool (x.name.toList == nm.toList))∧Below V V ah):=J fun x _ V hM=>QF nm w.heap.size x V ((eH.to hM).cell 0) (eH.to hM).lt
  go_wp2_with fail
  refine (HB A c rs aY 248 #[.pointer (some ⟨w.heap.size,0,none⟩)] (zT Tryz.func248 (by kernel_rfl) (by kernel_rfl)) (EN nm) _ hT.out _ (bn.ae az) dH.out).mono ?_
  rintro e aJ ⟨rfl,aL⟩
  have al:=be aG aL;replace I:=aj I al;replace bn:=bn.ae al;replace U:=U.to al;clear z0 bW z2 z3 z4 z5 eO;obtain⟨z0,bW,z2,z3,z4,z5,eO⟩:=U.pC
  go_wp2_with fail
  refine (zp A c rs aY aH _ bo.out _ (bn.ae az)).mono ?_
  rintro e bB ⟨rfl,bx⟩
  have aP:=be aJ bx;replace I:=aj I aP;replace bn:=bn.ae aP;replace U:=U.to aP;clear z0 bW z2 z3 z4 z5 eO;obtain⟨z0,bW,z2,z3,z4,z5,eO⟩:=U.pC
  obtain⟨b,off,fX,rfl,ew,aw,bz⟩:=bn.at_ (Below.refl _ _) bu
  obtain rfl:r= fX:=Option.some.inj (ft.out.symm.trans aw)
  have f0:=bz 0 _ rfl;have f1:=bz 1 _ rfl;have f2:=bz 2 _ rfl;have f3:=bz 3 _ rfl;have f4:=bz 4 _ rfl;have f5:=bz 5 _ rfl;have f6:=bz 6 _ rfl
  simp only [Nat.add_zero] at f0
  have g0:=f0 (ay.self _);have g1:=f1 (ay.self _);have g2:=f2 (ay.self _);have g3:=f3 (ay.self _);have g4:=f4 (ay.self _);have g5:=f5 (ay.self _);have g6:=f6 (ay.self _)
  simp only [ay.self] at g0
  simp only [ay.self] at g1
  simp only [ay.self] at g2
  simp only [ay.self] at g3
  simp only [ay.self] at g4
  simp only [ay.self] at g5
  simp only [ay.self] at g6
  clear aw bz
  have Hh:¬(k:Int) < 0:=by omega
  have dM:=U.Dn
  go_wp2
  clear z0 bW z2 z3 z4 z5 eO
  refine Fl 0 fun cD aE=>?_
  replace I:=aE.aH I;replace U:=aE.CS U
  have z0:=U.pC
  refine bodyPost_ret (v:= .tuple #[.agg #[r.id,r.name,r.gD,r.second,r.kZ,r.lK,r.hx],true]) (by simp [results,Tryz.results169,go_sem,z0]) rfl ?_
  exact⟨rfl,I⟩
theorem alY (A:Option Addr) (c:Nat) (rs:List aK) (aY:rs.length≤1048576) (ax:js rs= true) (nm:ByteArray) (o:Option aK) (cG:sX rs nm= o) (w:World) (bn:aS 7 aK.cells w A rs):
 Calls Tryz.prog 193 #[.slice A rs c,nm] w fun e ah=>e= .returned (.tuple #[wx o,o.isSome])∧Below w w ah:=by
 have bo:=J ax;have dm:=J cG;clear ax cG
 go_in
 go_upto_region 1 with fail
 refine cF fun aG au U=>?_
 replace bn:=bn.ae au;have I:=au;obtain⟨z0,bW,z2,z3,z4,z5,eO⟩:=U.pC
 go_wp2_with fail
 refine (zv A c rs aY _ bo.out _ (bn.ae az)).mono ?_
 rintro e aJ ⟨rfl,aL⟩
 have al:=be aG aL;replace I:=aj I al;replace bn:=bn.ae al;replace U:=U.to al;clear z0 bW z2 z3 z4 z5 eO;obtain⟨z0,bW,z2,z3,z4,z5,eO⟩:=U.pC
 go_wp2
 go_loop [6] (fun i=>∃k:Nat,k≤rs.length∧i= .int .i64 k∧gy (fun i=>!jb (EN nm) rs i) k= true) (fun i=>rs.length - (intOf i).toNat)
 case atStart=>exact⟨0,Nat.zero_le _,rfl,rfl⟩
 case round=>
  obtain⟨k,aD,rfl,aT⟩:=hrel
  have cB:=J aT;clear aT
  by_cases bu:k < rs.length
  ·obtain⟨b,off,r,rfl,ew,aw,bz⟩:=bn.at_ (Below.refl _ _) bu
   have f0:=bz 0 _ rfl;have f1:=bz 1 _ rfl;have f2:=bz 2 _ rfl;have f3:=bz 3 _ rfl;have f4:=bz 4 _ rfl;have f5:=bz 5 _ rfl;have f6:=bz 6 _ rfl
   simp only [Nat.add_zero] at f0
   have g0:=f0 (ay.self _);have g1:=f1 (ay.self _);have g2:=f2 (ay.self _);have g3:=f3 (ay.self _);have g4:=f4 (ay.self _);have g5:=f5 (ay.self _);have g6:=f6 (ay.self _)
   simp only [ay.self] at g0
   simp only [ay.self] at g1
   simp only [ay.self] at g2
   simp only [ay.self] at g3
   simp only [ay.self] at g4
   simp only [ay.self] at g5
   simp only [ay.self] at g6
   have cc:=J aw;clear aw bz f0 f1 f2 f3 f4 f5 f6
   cases he:(r.name.toList == nm.toList)
   ·have cW:=J he
    go_wp2
    go_round
    case rel=>exact⟨k + 1,by omega,by go_num,mv cB.out (by simp only [jb,cc.out,EN,cW.out];rfl)⟩
    case measure=>simp [intOf];omega
   ·obtain rfl:o= some r:=dm.out.symm.trans (KF cB.out cc.out he)
    have dM:=U.Dn
    go_wp2
    clear z0 bW z2 z3 z4 z5 eO
    refine Fl 0 fun cD aE=>?_
    replace I:=aE.aH I;replace U:=aE.CS U
    have z0:=U.pC
    refine bodyPost_ret (v:= .tuple #[.agg #[r.id,r.name,r.gD,r.second,r.kZ,r.lK,r.hx],true]) (by simp [results,Tryz.results193,go_sem,z0]) rfl ?_
    exact⟨rfl,I⟩
  ·obtain rfl:k= rs.length:=by omega
   obtain rfl:o= none:=dm.out.symm.trans (Ru cB.out)
   have dM:=U.Dn
   go_wp2
   clear z0 bW z2 z3 z4 z5 eO
   refine Fl 0 fun cD aE=>?_
   replace I:=aE.aH I;replace U:=aE.CS U;obtain⟨z0,bW,z2,z3,z4,z5,eO⟩:=U.pC
   refine bodyPost_ret (v:= .tuple #[.agg #[(0:Int),.string ⟨#[]⟩,(0:Int),false,false,false,(0:Int)],false]) (by simp [results,Tryz.results193,go_sem,z0,bW,z2,z3,z4,z5,eO]) rfl ?_
   exact⟨rfl,I⟩
open Go.RowKit Go.G9
theorem aky (s:ByteArray) (w:World):Calls Tryz.prog 99 #[s] w fun e ah=>e= .returned (.tuple #[.string ((lD (ev s)).getD ⟨#[]⟩),.bool (lD (ev s)).isSome])∧ah= w:=by
 have cC:=AH s
 rcases HT (Da s) with h | h | h | h | h | h | h | h | h | h | h | h | h | h | h | h
 all_goals
  rw [h] at cC ⊢
  obtain⟨f0,f1,f2,f3,f4,f5,f6,f7,f8,f9,f10,f11,f12,f13,f14⟩:=cC
  simp only [Nat.reduceBEq] at f0 f1 f2 f3 f4 f5 f6 f7 f8 f9 f10 f11 f12 f13 f14
  clear h
  go_in
  go_wp2
  go_ret2
  exact⟨rfl,rfl⟩
def Ki:Option nk→Value
 | some a=> .agg #[.int .i64 a.kind,.int .i64 a.mem,.int .i64 a.val,.int .i64 a.yes,.int .i64 a.no,.int .i64 a.bq]
 | none=> .agg #[.int .i64 0,.int .i64 0,.int .i64 0,.int .i64 0,.int .i64 0,.int .i64 0]
theorem Ja {p:Prop} (h:p:=by
 have aY:l.length= 0:=aT _ rfl;clear aT
 show Calls _ _ _ _ (fun e ah=>e= .returned (.tuple #[.agg #[(0:Int),(0:Int),(0:Int),(0:Int),(0:Int),(0:Int)],false])∧Below w w ah)
 go_in
 go_upto_region 1 with fail
 refine cF fun aG au U=>?_
 have I:=au;have ak:=U.da;have dM:=U.rV
 go_wp2
 clear ak
 refine sv 0 fun cD aE=>?_
 replace I:=aE.aH I;replace U:=aE.rO U;have ak:=U.da
 refine bodyPost_ret (v:= .tuple #[.agg #[(0:Int),(0:Int),(0:Int),(0:Int),(0:Int),(0:Int)],false]) (by simp [results,Tryz.results101,go_sem,ak]) rfl ?_
 exact⟨rfl,I⟩):p:=h
theorem aaf {p:Prop} (h:p:=by
 have aY:l.length= 1:=aT _ rfl;clear aT
 obtain⟨a,rfl⟩ :∃a,l= [a]:=by
   match l,aY with
   | [ni],_=>exact⟨ni,rfl⟩
 clear aY
 show Calls _ _ _ _ (fun e ah=>e= .returned (.tuple #[.agg #[(0:Int),(0:Int),(0:Int),(0:Int),(0:Int),(0:Int)],false])∧Below w w ah)
 obtain⟨ki,off,rfl,ew,aH⟩:=bn (by simp)
 have g0:=aH 0 _ rfl 0 _ rfl
 simp only [Nat.mul_one,Nat.zero_mul,Nat.add_zero] at g0
 clear aH
 go_in
 go_upto_region 1 with fail
 refine cF fun aG au U=>?_
 have I:=au;have ak:=U.da;have dM:=U.rV
 go_wp2
 clear ak
 refine sv 0 fun cD aE=>?_
 replace I:=aE.aH I;replace U:=aE.rO U;have ak:=U.da
 refine bodyPost_ret (v:= .tuple #[.agg #[(0:Int),(0:Int),(0:Int),(0:Int),(0:Int),(0:Int)],false]) (by simp [results,Tryz.results101,go_sem,ak]) rfl ?_
 exact⟨rfl,I⟩):p:=h
theorem acS (s:ByteArray) (A:Option Addr) (c:Nat) (l:List Int) (aT:∀p,lD (ev s)= some p→l.length= p.size) (w:World) (bn:aS 1 bV w A l):
 Calls Tryz.prog 101 #[s,.slice A l c] w fun e ah=>e= .returned (.tuple #[Ki (qP (ev s) l),.bool (qP (ev s) l).isSome])∧Below w w ah:=by
 have cC:=AH s
 rcases HT (Da s) with h | h | h | h | h | h | h | h | h | h | h | h | h | h | h | h
 all_goals rw [h] at cC aT ⊢
 all_goals obtain⟨f0,f1,f2,f3,f4,f5,f6,f7,f8,f9,f10,f11,f12,f13,f14⟩:=cC
 all_goals simp only [Nat.reduceBEq] at f0 f1 f2 f3 f4 f5 f6 f7 f8 f9 f10 f11 f12 f13 f14
 all_goals clear h
 ·have aY:l.length= 0:=aT _ rfl
  clear aT
  show Calls _ _ _ _ (fun e ah=>e= .returned (.tuple #[.agg #[(4:Int),(0:Int),(0:Int),(0:Int),(0:Int),(0:Int)],true])∧Below w w ah)
  go_in
  go_upto_region 1 with fail
  refine cF fun aG au U=>?_
  have I:=au;have ak:=U.da;have dM:=U.rV
  go_wp2
  clear ak
  refine sv 0 fun cD aE=>?_
  replace I:=aE.aH I;replace U:=aE.rO U;have ak:=U.da
  refine bodyPost_ret (v:= .tuple #[.agg #[(4:Int),(0:Int),(0:Int),(0:Int),(0:Int),(0:Int)],true]) (by simp [results,Tryz.results101,go_sem,ak]) rfl ?_
  exact⟨rfl,I⟩
 ·have aY:l.length= 0:=aT _ rfl
  clear aT
  show Calls _ _ _ _ (fun e ah=>e= .returned (.tuple #[.agg #[(6:Int),(0:Int),(0:Int),(0:Int),(0:Int),(0:Int)],true])∧Below w w ah)
  go_in
  go_upto_region 1 with fail
  refine cF fun aG au U=>?_
  have I:=au;have ak:=U.da;have dM:=U.rV
  go_wp2
  clear ak
  refine sv 0 fun cD aE=>?_
  replace I:=aE.aH I;replace U:=aE.rO U;have ak:=U.da
  refine bodyPost_ret (v:= .tuple #[.agg #[(6:Int),(0:Int),(0:Int),(0:Int),(0:Int),(0:Int)],true]) (by simp [results,Tryz.results101,go_sem,ak]) rfl ?_
  exact⟨rfl,I⟩
 ·have aY:l.length= 0:=aT _ rfl
  clear aT
  show Calls _ _ _ _ (fun e ah=>e= .returned (.tuple #[.agg #[(9:Int),(0:Int),(0:Int),(0:Int),(0:Int),(0:Int)],true])∧Below w w ah)
  go_in
  go_upto_region 1 with fail
  refine cF fun aG au U=>?_
  have I:=au;have ak:=U.da;have dM:=U.rV
  go_wp2
  clear ak
  refine sv 0 fun cD aE=>?_
  replace I:=aE.aH I;replace U:=aE.rO U;have ak:=U.da
  refine bodyPost_ret (v:= .tuple #[.agg #[(9:Int),(0:Int),(0:Int),(0:Int),(0:Int),(0:Int)],true]) (by simp [results,Tryz.results101,go_sem,ak]) rfl ?_
  exact⟨rfl,I⟩
 ·exact Ja
 ·exact Ja
 ·exact Ja
 ·exact Ja
 ·have aY:l.length= 1:=aT _ rfl
  clear aT
  obtain⟨a,rfl⟩ :∃a,l= [a]:=by
    match l,aY with
    | [ni],_=>exact⟨ni,rfl⟩
  clear aY
  show Calls _ _ _ _ (fun e ah=>e= .returned (.tuple #[.agg #[(2:Int),.int .i64 a,(0:Int),(0:Int),(0:Int),(0:Int)],true])∧Below w w ah)
  obtain⟨ki,off,rfl,ew,aH⟩:=bn (by simp)
  have g0:=aH 0 _ rfl 0 _ rfl
  simp only [Nat.mul_one,Nat.zero_mul,Nat.add_zero] at g0
  clear aH
  go_in
  go_upto_region 1 with fail
  refine cF fun aG au U=>?_
  have I:=au;have ak:=U.da;replace g0:=(I.cell (p:=⟨ki,_,none⟩) ew).trans g0;have dM:=U.rV
  go_wp2
  clear ak
  refine sv 0 fun cD aE=>?_
  replace I:=aE.aH I;replace U:=aE.rO U;have ak:=U.da
  refine bodyPost_ret (v:= .tuple #[.agg #[(2:Int),.int .i64 a,(0:Int),(0:Int),(0:Int),(0:Int)],true]) (by simp [results,Tryz.results101,go_sem,ak]) rfl ?_
  exact⟨rfl,I⟩
 ·have aY:l.length= 1:=aT _ rfl
  clear aT
  obtain⟨a,rfl⟩ :∃a,l= [a]:=by
    match l,aY with
    | [ni],_=>exact⟨ni,rfl⟩
  clear aY
  show Calls _ _ _ _ (fun e ah=>e= .returned (.tuple #[.agg #[(3:Int),.int .i64 a,(0:Int),(0:Int),(0:Int),(0:Int)],true])∧Below w w ah)
  obtain⟨ki,off,rfl,ew,aH⟩:=bn (by simp)
  have g0:=aH 0 _ rfl 0 _ rfl
  simp only [Nat.mul_one,Nat.zero_mul,Nat.add_zero] at g0
  clear aH
  go_in
  go_upto_region 1 with fail
  refine cF fun aG au U=>?_
  have I:=au;have ak:=U.da;replace g0:=(I.cell (p:=⟨ki,_,none⟩) ew).trans g0;have dM:=U.rV
  go_wp2
  clear ak
  refine sv 0 fun cD aE=>?_
  replace I:=aE.aH I;replace U:=aE.rO U;have ak:=U.da
  refine bodyPost_ret (v:= .tuple #[.agg #[(3:Int),.int .i64 a,(0:Int),(0:Int),(0:Int),(0:Int)],true]) (by simp [results,Tryz.results101,go_sem,ak]) rfl ?_
  exact⟨rfl,I⟩
 ·have aY:l.length= 1:=aT _ rfl
  clear aT
  obtain⟨a,rfl⟩ :∃a,l= [a]:=by
    match l,aY with
    | [ni],_=>exact⟨ni,rfl⟩
  clear aY
  show Calls _ _ _ _ (fun e ah=>e= .returned (.tuple #[.agg #[(5:Int),(0:Int),.int .i64 a,(0:Int),(0:Int),(0:Int)],true])∧Below w w ah)
  obtain⟨ki,off,rfl,ew,aH⟩:=bn (by simp)
  have g0:=aH 0 _ rfl 0 _ rfl
  simp only [Nat.mul_one,Nat.zero_mul,Nat.add_zero] at g0
  clear aH
  go_in
  go_upto_region 1 with fail
  refine cF fun aG au U=>?_
  have I:=au;have ak:=U.da;replace g0:=(I.cell (p:=⟨ki,_,none⟩) ew).trans g0;have dM:=U.rV
  go_wp2
  clear ak
  refine sv 0 fun cD aE=>?_
  replace I:=aE.aH I;replace U:=aE.rO U;have ak:=U.da
  refine bodyPost_ret (v:= .tuple #[.agg #[(5:Int),(0:Int),.int .i64 a,(0:Int),(0:Int),(0:Int)],true]) (by simp [results,Tryz.results101,go_sem,ak]) rfl ?_
  exact⟨rfl,I⟩
 ·have aY:l.length= 1:=aT _ rfl
  clear aT
  obtain⟨a,rfl⟩ :∃a,l= [a]:=by
    match l,aY with
    | [ni],_=>exact⟨ni,rfl⟩
  clear aY
  show Calls _ _ _ _ (fun e ah=>e= .returned (.tuple #[.agg #[(8:Int),.int .i64 a,(0:Int),(0:Int),(0:Int),(0:Int)],true])∧Below w w ah)
  obtain⟨ki,off,rfl,ew,aH⟩:=bn (by simp)
  have g0:=aH 0 _ rfl 0 _ rfl
  simp only [Nat.mul_one,Nat.zero_mul,Nat.add_zero] at g0
  clear aH
  go_in
  go_upto_region 1 with fail
  refine cF fun aG au U=>?_
  have I:=au;have ak:=U.da;replace g0:=(I.cell (p:=⟨ki,_,none⟩) ew).trans g0;have dM:=U.rV
  go_wp2
  clear ak
  refine sv 0 fun cD aE=>?_
  replace I:=aE.aH I;replace U:=aE.rO U;have ak:=U.da
  refine bodyPost_ret (v:= .tuple #[.agg #[(8:Int),.int .i64 a,(0:Int),(0:Int),(0:Int),(0:Int)],true]) (by simp [results,Tryz.results101,go_sem,ak]) rfl ?_
  exact⟨rfl,I⟩
 ·exact aaf
 ·exact aaf
 ·have aY:l.length= 2:=aT _ rfl
  clear aT
  obtain⟨a,b,rfl⟩ :∃a b,l= [a,b]:=by
    match l,aY with
    | [ni,ve],_=>exact⟨ni,ve,rfl⟩
  clear aY
  show Calls _ _ _ _ (fun e ah=>e= .returned (.tuple #[.agg #[(1:Int),.int .i64 b,.int .i64 a,(0:Int),(0:Int),(0:Int)],true])∧Below w w ah)
  obtain⟨ki,off,rfl,ew,aH⟩:=bn (by simp)
  have g0:=aH 0 _ rfl 0 _ rfl;have g1:=aH 1 _ rfl 0 _ rfl
  simp only [Nat.mul_one,Nat.zero_mul,Nat.add_zero] at g0 g1
  clear aH
  go_in
  go_upto_region 1 with fail
  refine cF fun aG au U=>?_
  have I:=au;have ak:=U.da;replace g0:=(I.cell (p:=⟨ki,_,none⟩) ew).trans g0;replace g1:=(I.cell (p:=⟨ki,_,none⟩) ew).trans g1;have th:ki < aG.heap.size:=Nat.lt_of_lt_of_le ew I.size
  go_upto_region 3 with fail
  have u0:=fun K:ay aG.heap.size aG=>(K.cell (p:=⟨ki,_,none⟩) th).trans g0
  have u1:=fun K:ay aG.heap.size aG=>(K.cell (p:=⟨ki,_,none⟩) th).trans g1
  clear g0 g1;clear ak;have ak:=aB.Kt (fun K:ay aG.heap.size aG=>(U.ae K.ae U.lt))
  refine Fv 7 (by kernel_rfl) (by kernel_rfl) ?_
  change wpQuiet _ _ _ _ (_ ::_ ::_ ::_ ::_ ::_ ::_ ::[]) _
  repeat (go_big_quiet_step ((fail)))
  refine wpQuiet_nil ?_
  intro K
  change wpList _ _ _ (_ ::_ ::[]) _ _
  clear ak;have al:Below aG aG K.world:=aj az K.ae;replace I:=aj I al;replace U:=U.to al;have ak:=U.da;have dM:=U.rV
  go_wp2
  clear ak
  refine sv 0 fun cD aE=>?_
  replace I:=aE.aH I;replace U:=aE.rO U;have ak:=U.da
  refine bodyPost_ret (v:= .tuple #[.agg #[(1:Int),.int .i64 b,.int .i64 a,(0:Int),(0:Int),(0:Int)],true]) (by simp [results,Tryz.results101,go_sem,ak]) rfl ?_
  exact⟨rfl,I⟩
 ·have aY:l.length= 3:=aT _ rfl
  clear aT
  obtain⟨a,b,d,rfl⟩ :∃a b d,l= [a,b,d]:=by
    match l,aY with
    | [ni,ve,xT],_=>exact⟨ni,ve,xT,rfl⟩
  clear aY
  show Calls _ _ _ _ (fun e ah=>e= .returned (.tuple #[.agg #[(7:Int),(0:Int),(0:Int),.int .i64 a,.int .i64 b,.int .i64 d],true])∧Below w w ah)
  obtain⟨ki,off,rfl,ew,aH⟩:=bn (by simp)
  have g0:=aH 0 _ rfl 0 _ rfl;have g1:=aH 1 _ rfl 0 _ rfl;have g2:=aH 2 _ rfl 0 _ rfl
  simp only [Nat.mul_one,Nat.zero_mul,Nat.add_zero] at g0 g1 g2
  clear aH
  go_in
  go_upto_region 1 with fail
  refine cF fun aG au U=>?_
  have I:=au;have ak:=U.da;replace g0:=(I.cell (p:=⟨ki,_,none⟩) ew).trans g0;replace g1:=(I.cell (p:=⟨ki,_,none⟩) ew).trans g1;replace g2:=(I.cell (p:=⟨ki,_,none⟩) ew).trans g2;have th:ki < aG.heap.size:=Nat.lt_of_lt_of_le ew I.size
  go_upto_region 15 with fail
  have u0:=fun K:ay aG.heap.size aG=>(K.cell (p:=⟨ki,_,none⟩) th).trans g0
  have u1:=fun K:ay aG.heap.size aG=>(K.cell (p:=⟨ki,_,none⟩) th).trans g1
  have u2:=fun K:ay aG.heap.size aG=>(K.cell (p:=⟨ki,_,none⟩) th).trans g2
  clear g0 g1 g2;clear ak;have ak:=aB.Kt (fun K:ay aG.heap.size aG=>(U.ae K.ae U.lt))
  refine Fv 11 (by kernel_rfl) (by kernel_rfl) ?_
  change wpQuiet _ _ _ _ (_ ::_ ::_ ::_ ::_ ::_ ::_ ::_ ::_ ::_ ::_ ::[]) _
  repeat (go_big_quiet_step ((fail)))
  refine wpQuiet_nil ?_
  intro K
  change wpList _ _ _ (_ ::_ ::[]) _ _
  clear ak;have al:Below aG aG K.world:=aj az K.ae;replace I:=aj I al;replace U:=U.to al;have ak:=U.da;have dM:=U.rV
  go_wp2
  clear ak
  refine sv 0 fun cD aE=>?_
  replace I:=aE.aH I;replace U:=aE.rO U;have ak:=U.da
  refine bodyPost_ret (v:= .tuple #[.agg #[(7:Int),(0:Int),(0:Int),.int .i64 a,.int .i64 b,.int .i64 d],true]) (by simp [results,Tryz.results101,go_sem,ak]) rfl ?_
  exact⟨rfl,I⟩
 ·clear aT
  show Calls _ _ _ _ (fun e ah=>e= .returned (.tuple #[.agg #[(0:Int),(0:Int),(0:Int),(0:Int),(0:Int),(0:Int)],false])∧Below w w ah)
  clear bn
  go_in
  go_upto_region 1 with fail
  refine cF fun aG au U=>?_
  have I:=au;have ak:=U.da;have dM:=U.rV
  go_wp2
  clear ak
  refine sv 0 fun cD aE=>?_
  replace I:=aE.aH I;replace U:=aE.rO U;have ak:=U.da
  refine bodyPost_ret (v:= .tuple #[.agg #[(0:Int),(0:Int),(0:Int),(0:Int),(0:Int),(0:Int)],false]) (by simp [results,Tryz.results101,go_sem,ak]) rfl ?_
  exact⟨rfl,I⟩
theorem akx (b:Bool) (s t:ByteArray) (w:World):Calls Tryz.prog 181 #[b,s,t] w fun e ah=>e= .returned (.string (if b then s else t))∧ah= w:=by
 cases b
 all_goals
  go_in
  go_wp2
  go_ret
  exact⟨rfl,rfl⟩
theorem acV (rs:List aK) (qs:List aQ) (ag af sp:Int) (ws:List Int) (ad:List aO) (os:List Out) (bQ:Option Addr) (d0:Nat) (cn:Option Addr) (d1:Nat) (aZ:Option Addr) (d2:Nat) (bk:Option Addr) (d3:Nat) (bR:Option Addr) (d4:Nat) (a:nk) (aV:-999999≤sp∧sp≤999999) (cG:a.kind= 7→0 < os.length) (aY:os.length≤1048576) (w:World) (cr:aS 3 Out.cells w bR os) (bO:jF w):
 Calls Tryz.prog 104 #[.agg #[.slice bQ rs d0,.slice cn qs d1,ag,af,sp,.slice aZ ws d2,.slice bk ad d3,.slice bR os d4],.agg #[a.kind,a.mem,a.val,a.yes,a.no,a.bq]] w fun e ah=>e= .returned (.string (oI ⟨rs,qs,ag,af,sp,ws,ad,os⟩ a.kind))∧Below w w ah:=by
 obtain⟨vw,am,aoG,aoH,aoE,aa⟩:=a
 simp only at cG ⊢
 by_cases h4:vw= 4
 ·have e:oI ⟨rs,qs,ag,af,sp,ws,ad,os⟩ vw= eN sp:=by rw [oI,if_pos h4]
  rw [e]
  have vF:(vw == 4)= true:=beq_iff_eq.2 h4;clear e h4 cG cr
  go_in
  go_upto_region 1 with fail
  refine fe fun aG au aU aX=>?_
  replace bO:=bO.ae au;have I:=au;have hO:=aU.aI;have bF:=aX.da
  go_wp2_with fail
  refine (zq sp (by omega) (by omega) _ (bO.ae az)).mono ?_
  rintro e aJ ⟨rfl,aL⟩
  have al:=be aG aL;replace I:=aj I al;clear hO;clear bF
  go_wp2
  go_ret
  exact⟨rfl,(aj I az)⟩
 ·have vF:(vw == 4)= false:=beq_eq_false_iff_ne.2 h4
  by_cases h7:vw= 7
  ·have uD:=cG h7
   obtain⟨j,bE⟩ :∃j,j + 1= os.length:=⟨os.length - 1,by omega⟩
   obtain⟨o,aw⟩ :∃o,os[j]? =some o:=⟨_,List.getElem?_eq_getElem (by omega)⟩
   have e:oI ⟨rs,qs,ag,af,sp,ws,ad,os⟩ vw= if o.hB then (⟨#[97,100,111,112,116,101,100]⟩ :ByteArray) else (⟨#[108,111,115,116]⟩ :ByteArray):=by rw [oI,if_neg h4,if_pos h7];simp only [EG,← bE,Nat.add_sub_cancel,aw]
   rw [e]
   have aeT:(vw == 7)= true:=beq_iff_eq.2 h7
   obtain⟨ki,off,lQ,rfl,ew,pa,bz⟩:=cr.at_ (Below.refl _ _) (k:=j) (by omega)
   obtain rfl:o= lQ:=Option.some.inj (aw.symm.trans pa)
   have g2:=bz 2 _ rfl (ay.self _)
   simp only [ay.self] at g2
   obtain⟨so,km⟩ :∃b,o.hB= b:=⟨_,rfl⟩
   rw [km] at g2 ⊢
   have kF:=J g2;have ye:=J ew;clear e h4 h7 cG cr bO bz aw pa g2 ew km
   cases so
   all_goals
    go_in
    go_upto_region 1 with fail
    refine fe fun aG au aU aX=>?_
    have I:=au;have hO:=aU.aI;have bF:=aX.da;have g2:=(I.cell (p:=⟨ki,_,none⟩) ye.out).trans kF.out
    have Bg:((os.length:Int) - 1)= (j:Int):=by omega
    have ic:j < os.length:=by omega
    clear bE;have vf:=aU.lt;have aqG:=aX.lt
    go_wp2_with fail
    refine (akx _ (⟨#[97,100,111,112,116,101,100]⟩ :ByteArray) (⟨#[108,111,115,116]⟩ :ByteArray) _).mono ?_
    rintro e bh ⟨rfl,rfl⟩
    go_wp2
    go_ret
    exact⟨rfl,(aj I az)⟩
  ·have e:oI ⟨rs,qs,ag,af,sp,ws,ad,os⟩ vw= (⟨#[111,107]⟩ :ByteArray):=by rw [oI,if_neg h4,if_neg h7]
   rw [e]
   have aeT:(vw == 7)= false:=beq_eq_false_iff_ne.2 h7;clear e h4 h7 cG cr bO
   go_in
   go_upto_region 1 with fail
   refine fe fun aG au aU aX=>?_
   have I:=au;have bF:=aX.da
   go_wp2
   go_ret
   exact⟨rfl,(aj I az)⟩
theorem Wf {s:ByteArray} (h:eV s= true):Go.G9.jA s= .tuple #[.int .i64 (hh s.data.toList),true]:=by rw [Go.G9.jA,if_pos h]
theorem We {s:ByteArray} (h:eV s= false):Go.G9.jA s= .tuple #[(0:Int),false]:=by rw [Go.G9.jA,if_neg (by simp [h])]
theorem abh {p:Prop} (h:p:=by
 have gM:kB rs pt ws= none:=by
  rw [kB,if_pos np.out]
  have e:=Fa pQ (ws.length - (k + 1))
  rwa [show k + 1 + (ws.length - (k + 1))= ws.length by omega] at e
 have eZ:=J gM;clear pQ gM
 go_wp2
 go_ret2
 exact⟨[],false,none,0,rfl,J (by rw [eZ.out];rfl),bd.nil,Pt⟩):p:=h
theorem Wi (aq:Option Addr) (c0:Nat) (rs:List aK) (h0:rs.length≤1048576) (dZ:rs.length≤c0) (ax:js rs= true) (pt:ByteArray) (A:Option Addr) (c:Nat) (ws:List ByteArray) (aY:ws.length≤1000) (ck:∀x ∈ ws,x.size≤1000) (w:World) (bf:aS 7 aK.cells w aq rs) (CR:aS 1 hC w A ws) (bO:nF w):
 Calls Tryz.prog 100 #[.slice aq rs c0,pt,.slice A ws c] w fun e ah=>∃(l:List Int) (b:Bool) (D:Option Addr) (d:Nat),e= .returned (.tuple #[.slice D l d,b])∧Hid (kB rs pt ws= if b= true then some l else none)∧bd w 3 1 bV ah (.slice D l d) l∧Below w w ah:=by
 obtain⟨i0,hi,dn,dC,dz⟩:=info_parts rr
 by_cases hlen:ws.length= pt.size
 ·have eM:((ws.length:Int) != (pt.size:Int))= false:=by rw [hlen];simp
  have np:=J hlen;have bo:=J ax;have bg:=J ck;have gp:=J bO;have eL:=J bf;clear hlen ax ck bO bf;have hL:=bd.made (f:=bV) (sz:=1) w (B:=w.heap.size) (Nat.le_refl _) 3
  go_in
  go_wp2
  go_loopw [8,23] (fun y i wr=>∃(k:Nat) (l:List Int),k≤ws.length∧i= .int .i64 k∧mE rs pt.data.toList ws k= some l∧bd w 3 1 bV wr y l∧Below w w wr) (fun _ i _=>ws.length - (intOf i).toNat)
  case atStart=>exact⟨0,[],Nat.zero_le _,rfl,rfl,hL,bT _ _⟩
  case round=>
   obtain⟨k,l,aD,rfl,bp,bM,aF⟩:=hrel
   have mr:Hid (l.length= k):=J (NI bp);have bC:=J bp;have dm:=J bM;clear bp bM
   by_cases bu:k < ws.length
   ·obtain⟨dY,gP,x,rfl,ew,aw,bz⟩:=CR.at_ aF bu
    have TH:=bg.out x (List.mem_of_getElem? aw);have ch:=bz 0 _ rfl
    simp only [Nat.add_zero] at ch
    have g0:=ch (ay.self _)
    simp only [ay.self] at g0
    simp only [Nat.mul_one] at g0
    have agk:k < pt.size:=by have:=np.out;omega
    have ea:=J (QA pt agk);have cc:=J aw;clear aw bz ch
    by_cases aN:pt[k]= 110
    ·have agE:((pt[k].toNat:Int) == 110)= true:=by rw [aN];rfl
     have Cw:=J aN;clear aN
     cases xu:eV x
     ·have hT:=J (TV x (by unfold maxLen;omega) wr (gp.out.t.ae aF) (gp.out.e.ae aF))
      rw [We xu] at hT
      have JE:=J xu;clear xu
      go_wp2_with fail
      refine hT.out.mono ?_
      rintro e bh ⟨rfl,br⟩
      have Pt:=aj aF br
      have pQ:mE rs pt.data.toList ws (k + 1)= none:=by rw [uO bC.out ea.out cc.out,qB];rw [if_pos Cw.out,JE.out];rfl
      exact abh
     ·have hT:=J (TV x (by unfold maxLen;omega) wr (gp.out.t.ae aF) (gp.out.e.ae aF))
      rw [Wf xu] at hT
      have JE:=J xu;clear xu
      go_wp2_with fail
      refine hT.out.mono ?_
      rintro e bh ⟨rfl,br⟩
      have aL:=aj aF br;have Lx:=br;clear g0;have gY:=dm.out.bm Lx
      have pQ:mE rs pt.data.toList ws (k + 1)= some (l ++ [hh x.data.toList]):=by rw [uO bC.out ea.out cc.out,qB];rw [if_pos Cw.out,JE.out];rfl
      have eZ:=J pQ;clear pQ
      go_wp2_with (at_builtin;refine kC rfl _ _ 38 rfl w.heap.size 3 i0 _ 1 8 Tryz.underlying38 hi dn dC dz rfl (by decide) bV fW nS _ (l) rfl (gY.alloc _) ⟨bh.heap.size,0,none⟩ 1 (hh x.data.toList) rfl (aS.one _ _) (by have:=mr.out;unfold maxLen;omega) (by have:=mr.out;omega) (by have:=aL.size;simp;omega) ?_;intro v4 bU fb gq ld)
      have gS:Below w w bU:=(aL.alloc aL.size _).grown gq (by have:=aL.size;simp;omega) (fun q bj=>(gY.lt q bj).1)
      go_roundw
      case rel=>exact⟨k + 1,l ++ [hh x.data.toList],by omega,by go_num,eZ.out,fb,gS⟩
      case measure=>simp [intOf];omega
    ·have agE:((pt[k].toNat:Int) == 110)= false:=by
      rw [beq_eq_false_iff_ne]
      intro e
      exact aN (UInt8.toNat_inj.1 (by have:(110:UInt8).toNat= 110:=rfl;omega))
     have Cw:=J aN;clear aN
     cases hf:sX rs x with
     | none=>
      have hT:=J (TQ aq c0 rs h0 dZ bo.out x none hf wr (eL.out.ae aF));have cC:=J hf;clear hf
      simp only [wx,Option.isSome_none] at hT
      go_wp2_with fail
      refine hT.out.mono ?_
      rintro e bh ⟨rfl,br⟩
      have Pt:Below w w (bh.alloc (.cells #[(0:Int),.string ⟨#[]⟩,(0:Int),false,false,false,(0:Int)] 89)):=(aj aF br).alloc (aj aF br).size _
      have pQ:mE rs pt.data.toList ws (k + 1)= none:=by rw [uO bC.out ea.out cc.out,qB];rw [if_neg Cw.out,cC.out];rfl
      exact abh
     | some r=>
      obtain⟨id,nm,rk,af,fs,am,dX,aV⟩:=r
      have hT:=J (TQ aq c0 rs h0 dZ bo.out x _ hf wr (eL.out.ae aF));have cC:=J hf;clear hf
      simp only [wx,Option.isSome_some] at hT
      go_wp2_with fail
      refine hT.out.mono ?_
      rintro e bh ⟨rfl,br⟩
      go_upto_region 11 with fail
      have Ss:=br.alloc br.size (.cells #[id,nm,rk,af,fs,am,dX] 89);have bG:=aB.new bh 89 #[id,nm,rk,af,fs,am,dX]
      generalize bh.alloc (.cells #[id,nm,rk,af,fs,am,dX] 89)= hJ at *
      have dd:=(bG.cell 0).trans (show _= some (.int .i64 id) from rfl);have aL:=aj aF Ss;have Lx:=Ss;clear g0;have gY:=dm.out.bm Lx
      have pQ:mE rs pt.data.toList ws (k + 1)= some (l ++ [id]):=by rw [uO bC.out ea.out cc.out,qB];rw [if_neg Cw.out,cC.out];rfl
      have eZ:=J pQ;clear pQ
      go_wp2_with (at_builtin;refine kC rfl _ _ 38 rfl w.heap.size 3 i0 _ 1 8 Tryz.underlying38 hi dn dC dz rfl (by decide) bV fW nS _ (l) rfl (gY.alloc _) ⟨hJ.heap.size,0,none⟩ 1 (id) rfl (aS.one _ _) (by have:=mr.out;unfold maxLen;omega) (by have:=mr.out;omega) (by have:=aL.size;simp;omega) ?_;intro v4 bU fb gq ld)
      have gS:Below w w bU:=(aL.alloc aL.size _).grown gq (by have:=aL.size;simp;omega) (fun q bj=>(gY.lt q bj).1)
      go_roundw
      case rel=>exact⟨k + 1,l ++ [id],by omega,by go_num,eZ.out,fb,gS⟩
      case measure=>simp [intOf];omega
   ·obtain rfl:k= ws.length:=by omega
    have kc:=dm.out
    obtain⟨Y,gV,rfl,_,_,_⟩:=kc.form fW
    have rL:=J kc;clear kc
    go_wp2
    go_ret2
    exact⟨l,true,Y,gV,rfl,J (by rw [kB,if_pos np.out,bC.out];rfl),rL.out,aF⟩
 ·have eM:((ws.length:Int) != (pt.size:Int))= true:=by rw [bne_iff_ne];omega
  have np:=J hlen;clear hlen ax ck bO bf CR
  go_in
  go_wp2
  go_ret2
  exact⟨[],false,none,0,rfl,J (by rw [kB,if_neg np.out];rfl),bd.nil,Below.refl _ _⟩
open Go.RowKit Go.G9
theorem VS {rs:List aK} {qs:List aQ} {k:Nat} {q:aQ} {r:aK} (bj:qs[k]? =some q) (bp:hE rs q.fR= some r):(qs.take (k + 1)).map (kA rs)= (qs.take k).map (kA rs) ++ [r.name]:=by rw [List.take_add_one,bj];simp [kA,Vv bp]
theorem take_len {T rN:Type} {xs:List T} {f:T→rN} {k:Nat} (h:k≤xs.length):((xs.take k).map f).length= k:=by rw [List.length_map,List.length_take];omega
theorem abn {p:Prop} (h:p:=by
 have gS:Below w w bU:=(aL.alloc aL.size _).grown gq (by have:=aL.size;simp;omega) (fun q bj=>(gY.lt q bj).1)
 go_roundw
 case rel=>exact⟨k + 1,by omega,by go_num,by rw [eZ.out];exact fb,gS⟩
 case measure=>simp [intOf];omega):p:=h
theorem Yo {p:Prop} (h:p:=by
 obtain rfl:k= qs.length:=by omega
 have kc:=dm.out
 rw [List.take_length] at kc
 obtain⟨Y,gV,rfl,_,_,_⟩:=kc.form jZ
 have rL:=J kc;clear kc
 go_wp2
 go_ret2
 exact⟨Y,gV,rfl,rL.out,aF⟩):p:=h
theorem ain (aq:Option Addr) (c0:Nat) (rs:List aK) (h0:rs.length≤1048576) (dZ:rs.length≤c0) (ar:Option Addr) (av:Nat) (qs:List aQ) (h1:qs.length≤1048576) (aN:dt rs qs= true) (w:World) (bf:aS 7 aK.cells w aq rs) (aW:aS 3 aQ.cells w ar qs):
 Calls Tryz.prog 170 #[.slice aq rs c0,.slice ar qs av] w fun e ah=>∃D d,e= .returned (.tuple #[.slice D (qs.map (kA rs)).length d,true])∧bd w 9 1 hC ah (.slice D (qs.map (kA rs)).length d) (qs.map (kA rs))∧Below w w ah:=by
 obtain⟨i0,hi,dn,dC,dz⟩:=info_parts zm
 have yp:=J aN;have eL:=J bf;have gh:=J aW;clear aN bf aW
 go_in
 go_wp2_with fail
 refine (mx aq c0 rs h0 dZ ar av qs h1 _ yp.out _ eL.out gh.out).mono ?_
 rintro e wp ⟨rfl,yN⟩
 have hL:=bd.made (f:=hC) (sz:=1) wp (B:=w.heap.size) yN.size 9;have apM:=yN.size
 go_wp2
 go_loopw [6,16] (fun y i wr=>∃k:Nat,k≤qs.length∧i= .int .i64 k∧bd w 9 1 hC wr y ((qs.take k).map (kA rs))∧Below w w wr) (fun _ i _=>qs.length - (intOf i).toNat)
 case atStart=>exact⟨0,Nat.zero_le _,rfl,hL,yN.alloc yN.size _⟩
 case round=>
  obtain⟨k,aD,rfl,bM,aF⟩:=hrel
  have mr:Hid (((qs.take k).map (kA rs)).length= k):=J (take_len aD);have dm:=J bM;clear bM hL;have agj:=(mj yp.out).2.1
  by_cases bu:k < qs.length
  ·obtain⟨dY,gP,⟨qr,cb,dp⟩,rfl,ew,bj,mW⟩:=gh.out.at_ aF bu
   obtain⟨r,bp⟩:=nd yp.out bj
   have eZ:=J (VS bj bp)
   obtain⟨id,nm,rk,af,fs,am,dX,aV⟩:=r
   have pr:=J bp;have ch:=mW 0 _ rfl;have dq:=mW 1 _ rfl;have cZ:=mW 2 _ rfl
   simp only [Nat.add_zero] at ch
   have g0:=ch (ay.self _);have g1:=dq (ay.self _);have g2:=cZ (ay.self _)
   simp only [ay.self] at g0
   simp only [ay.self] at g1
   simp only [ay.self] at g2
   clear mW ch dq cZ bj bp
   go_upto_region 7 with fail
   have ec:=aB.new wr 115 #[qr,cb,dp];have iO:=aF.alloc aF.size (.cells #[qr,cb,dp] 115);have qi:=dm.out.alloc (.cells #[qr,cb,dp] 115)
   generalize wr.alloc (.cells #[qr,cb,dp] 115)= hJ at *
   clear g0 g1 g2;have ff:=ec.cq;have afj:=ec.lt
   have ri:∀W:World,(Instr.field 89 (.agg #[id,nm,rk,af,fs,am,dX]) 1).run Tryz.prog W= .ok (.string nm) W:=fun _=>by kernel_rfl
   have wO:=J qi;clear qi
   go_wp2_with fail
   refine (pZ aq c0 rs h0 ⟨qr,cb,dp⟩ ⟨id,nm,rk,af,fs,am,dX,aV⟩ pr.out _ (eL.out.ae iO)).mono ?_
   rintro e bh ⟨rfl,br⟩
   have aL:=aj iO br;have gY:=wO.out.bm br;clear ff ec afj
   go_wp2_with (at_builtin;refine kC rfl _ _ 57 rfl w.heap.size 9 i0 _ 1 16 Tryz.underlying57 hi dn dC dz rfl (by decide) hC jZ AB _ ((qs.take k).map (kA rs)) rfl (gY.alloc _) ⟨bh.heap.size,0,none⟩ 1 (nm) rfl (aS.one _ _) (by have:=mr.out;unfold maxLen;omega) (by have:=mr.out;omega) (by have:=aL.size;simp;omega) ?_;intro v4 bU fb gq ld)
   exact abn
  ·exact Yo
theorem amP (aq:Option Addr) (c0:Nat) (rs:List aK) (h0:rs.length≤1048576) (ar:Option Addr) (av:Nat) (qs:List aQ) (h1:qs.length≤1048576) (aN:dt rs qs= true) (w:World) (bf:aS 7 aK.cells w aq rs) (aW:aS 3 aQ.cells w ar qs):
 Calls Tryz.prog 188 #[.slice aq rs c0,.slice ar qs av] w fun e ah=>∃D d,e= .returned (.tuple #[.slice D (qs.map (kA rs)).length d,true])∧bd w 9 1 hC ah (.slice D (qs.map (kA rs)).length d) (qs.map (kA rs))∧Below w w ah:=by
 obtain⟨i0,hi,dn,dC,dz⟩:=info_parts zm
 have yp:=J aN;have eL:=J bf;have gh:=J aW;clear aN bf aW;have hL:=bd.made (f:=hC) (sz:=1) w (B:=w.heap.size) (Nat.le_refl _) 9;have nu:Below w w (w.alloc (.cells #[] 9)):=bT _ _
 go_in
 go_upto_region 2 with fail
 generalize w.alloc (.cells #[] 9)= Ox at *
 have kV:=J hL;clear hL
 go_wp2_with fail
 refine (nb aq c0 rs h0 ar av qs h1 _ yp.out _ (eL.out.ae nu) (gh.out.ae nu)).mono ?_
 rintro e wp ⟨rfl,yN⟩
 have uy:=aj nu yN;have gY:=kV.out.bm yN
 go_wp2
 go_loopw [6,7] (fun y i wr=>∃k:Nat,k≤qs.length∧i= .int .i64 k∧bd w 9 1 hC wr y ((qs.take k).map (kA rs))∧Below w w wr) (fun _ i _=>qs.length - (intOf i).toNat)
 case atStart=>exact⟨0,Nat.zero_le _,rfl,gY,uy⟩
 case round=>
  obtain⟨k,aD,rfl,bM,aF⟩:=hrel
  have mr:Hid (((qs.take k).map (kA rs)).length= k):=J (take_len aD);have dm:=J bM;clear bM gY;have agj:=(mj yp.out).2.1
  by_cases bu:k < qs.length
  ·obtain⟨dY,gP,⟨qr,cb,dp⟩,rfl,ew,bj,mW⟩:=gh.out.at_ aF bu
   obtain⟨r,bp⟩:=nd yp.out bj
   have eZ:=J (VS bj bp)
   obtain⟨j,bE,tu⟩:=qq bp
   have ic:j < rs.length:=(List.getElem?_eq_some_iff.1 tu).1
   obtain⟨gu,qy,fX,rfl,Su,oA,rZ⟩:=eL.out.at_ aF ic
   obtain rfl:r= fX:=Option.some.inj (tu.symm.trans oA)
   obtain⟨id,nm,rk,af,fs,am,dX,aV⟩:=r
   have eA:=J bE;have ch:=mW 0 _ rfl (ay.self _);have f1:=rZ 1 _ rfl (ay.self _)
   simp only [Nat.add_zero,ay.self] at ch f1
   clear mW bj bp rZ oA tu bE
   go_wp2_with fail
   refine (tG _ c0 rs h0 qr _ eA.out _ (eL.out.ae aF)).mono ?_
   rintro e w0 ⟨rfl,RF⟩
   rw [RF]
   clear RF w0;have aL:=aF;have gY:=dm.out
   go_wp2_with (at_builtin;refine kC rfl _ _ 57 rfl w.heap.size 9 i0 _ 1 16 Tryz.underlying57 hi dn dC dz rfl (by decide) hC jZ AB _ ((qs.take k).map (kA rs)) rfl (gY.alloc _) ⟨wr.heap.size,0,none⟩ 1 (nm) rfl (aS.one _ _) (by have:=mr.out;unfold maxLen;omega) (by have:=mr.out;omega) (by have:=aL.size;simp;omega) ?_;intro v4 bU fb gq ld)
   exact abn
  ·exact Yo
open Go.RowKit Go.G9
theorem VB {T:Type} {B:Nat} {e:TypeId} {sz:Nat} {f:T→List Value} {w:World} {v:Value} {xs:List T} (h:bd B e sz f w v xs) (aY:0 < xs.length):∃g c,v= .slice (some ⟨g,0,none⟩) xs c:=by
 obtain⟨_,h⟩:=h
 rcases h with ⟨_,h0⟩ | ⟨g,cap,_,h,_⟩
 ·omega
 ·exact⟨g,cap,h⟩
open Go.RowKit Go.G9
def Xm:Value→Nat
 | .slice _ n _=>n
 | _=>0
theorem amT (ag af sp:Int) (an:Option Addr) (c2:Nat) (ws:List Int) (ao:Option Addr) (c3:Nat) (ad:List aO) (h2:ws.length≤1048576) (h3:ad.length≤1048576) (n2:an= none→ws= []∧c2= 0) (n3:ao= none→ad= []∧c3= 0) (cp:ws.length≤c2) (ax:gd ag af sp ws ad= true) (w:World) (bw:aS 1 bV w an ws) (bt:aS 3 aO.cells w ao ad):
 Calls Tryz.prog 190 #[.agg #[ag,af,sp,.slice an ws c2,.slice ao ad c3]] w fun e ah=>∃D d,e= .returned (.tuple #[.slice D (kf ⟨ag,af,sp,ws,ad⟩).length d,true])∧bd w 3 1 bV ah (.slice D (kf ⟨ag,af,sp,ws,ad⟩).length d) (kf ⟨ag,af,sp,ws,ad⟩)∧Below w w ah:=by
 obtain⟨i0,hi,dn,dC,dz⟩:=info_parts rr
 have bo:=J ax;have iU:=J n2;have iK:=J n3;have apY:=(GK.1 ax).l;clear ax n2 n3
 go_in
 go_upto_region 1 with fail
 refine cF fun aG au ai=>?_
 replace bw:=bw.ae au;replace bt:=bt.ae au;have I:=au;have aC:=ai.aM
 go_upto_region 2 with fail
 have hL:=bd.made (f:=bV) (sz:=1) aG (B:=w.heap.size) I.size 3;have eG:Below aG aG (aG.alloc (.cells #[] 3)):=bT _ _
 obtain⟨ve,zj⟩ :∃b,b= aG.heap.size:=⟨_,rfl⟩
 have TI:ve < (aG.alloc (.cells #[] 3)).heap.size:=by rw [zj];simp
 rw [← zj] at hL
 generalize DD:aG.alloc (.cells #[] 3)= jW at *
 rw [← zj]
 clear zj DD;have kV:=J hL;clear hL;have al:=be aG eG;replace I:=aj I al;replace bw:=bw.ae al;replace bt:=bt.ae al;replace ai:=ai.to al;clear aC;have aC:=ai.aM
 go_wp2_with fail
 refine (lj ag af sp an ws c2 ao c3 ad h2 h3 cp _ bo.out _ (bw.ae az) (bt.ae az)).mono ?_
 rintro e bB ⟨rfl,bx⟩
 have aP:=be jW bx;replace I:=aj I aP;replace bw:=bw.ae aP;replace bt:=bt.ae aP;replace ai:=ai.to aP;clear aC;have aC:=ai.aM;have kG:=J (kV.out.bm aP);have sh:ve < bB.heap.size:=Nat.lt_of_lt_of_le TI aP.size;have aqh:=I.size
 go_wp2_with fail
 refine (EE ag af sp an c2 ws ao c3 ad h2 h3 iU.out iK.out _ (bw.ae az) (bt.ae az)).mono ?_
 rintro e bU ⟨aZ,d2,bk,d3,rfl,oQ,cY⟩
 have bN:=be bB cY;replace I:=aj I bN;replace ai:=ai.to bN;clear aC;have hs:=J (kG.out.bm bN);have bI:=oQ.fi;have bD:=oQ.fO
 have eM:px (.slice ve ([]:List Int).length 0) (.slice aZ ws d2):=fun k h1 h2=>by
  have e:ve= k:=Option.some.inj h1;have:=(bI.lt k h2).1
  omega
 have nH:=J eM;clear oQ eM sh TI kV kG bw bt
 go_upto_region 5 with fail
 obtain⟨kK,mB⟩ :∃b,b= bU.heap.size:=⟨_,rfl⟩
 refine cF fun XP cK bG=>?_
 replace bI:=bI.bm cK;replace bD:=bD.bm cK;replace I:=aj I cK;have dc:=bG.aM
 rw [← mB] at bG
 rw [← mB]
 have ji:=J (hs.out.bm cK)
 have uy:w.heap.size≤kK:=by have:=ai.lt;omega
 have sO:=J (bI.base (B':=w.heap.size) (by omega));have sP:=J (bD.base (B':=w.heap.size) (by omega));have wM:=J bG;have wK:=J I;clear mB hs bI bD ai bG dc
 go_wp2
 go_loopw [4] (fun y wr=>∃(fp jO:List Int) (W:Option Addr) (sW:Nat) (Y:Option Addr) (qU:Nat),y= .slice Y jO qU∧fp.length + jO.length= ws.length∧Hid (kf ⟨ag,af,sp,ws,ad⟩ =jO ++ kf ⟨ag,af,sp,fp,ad⟩)∧bd w 3 1 bV wr (.slice Y jO qU) jO∧bd w 3 1 bV wr (.slice W fp sW) fp∧bd w 214 3 aO.cells wr (.slice bk ad d3) ad∧aB wr kK 41 #[ag,af,sp,.slice W fp sW,.slice bk ad d3]∧Hid (px (.slice Y jO qU) (.slice W fp sW))∧Below w w wr) (fun y _=>ws.length - Xm y)
 case atStart=>exact⟨ws,[],aZ,d2,some ⟨ve,0,none⟩,0,rfl,rfl,J rfl,ji.out,sO.out,sP.out,wM.out,nH,wK.out⟩
 case round=>
  clear ji sO sP wM wK nH I
  obtain⟨fp,jO,W,sW,Y,qU,rfl,hlen,dU,bM,bL,xf,bG,eZ,I⟩:=hrel
  have np:=J hlen;clear hlen;have dm:=J bM;have mK:=J bL;have fz:=J xf;clear bM bL xf
  by_cases ck:0 < fp.length
  ·obtain⟨Dq,aoY,adO⟩:=VB mK.out ck
   injection adO with adP _ adQ
   subst adP
   subst adQ
   have rf:=ph mK.out fW
   obtain⟨m,hm,iF⟩:=anp ⟨ag,af,sp,fp,ad⟩ ck
   simp only [wG] at hm iF
   obtain⟨j,bE⟩ :∃j,jU ⟨ag,af,sp,fp,ad⟩ fp.length= j:=⟨_,rfl⟩
   have ym:=J (fun W (h:Below wr wr W)=>Uw ag af sp (some ⟨Dq,0,none⟩) sW fp bk d3 ad (by have:=np.out;omega) h3 (fun h=>by cases h) fz.out.uI rf (ph fz.out ig) ck W (mK.out.bm h).hj (fz.out.bm h).hj)
   rw [bE] at hm iF ym
   have ic:j < fp.length:=(List.getElem?_eq_some_iff.1 hm).1;have dP:=J hm;have Ap:=J iF;clear bE hm iF;have dc:=bG.aM
   go_wp2_with fail
   refine (ym.out _ (Below.refl _ _)).mono ?_
   rintro e ju ⟨rfl,ou⟩
   have eQ:=be wr ou;replace I:=aj I eQ;replace bG:=bG.to eQ;clear dc;have dc:=bG.aM;have AU:=mK.out.bm eQ;have gY:=dm.out.bm eQ;have RO:=fz.out.bm eQ;have PY:=J AU;have kG:=J gY;have Pw:=J RO;have g0:=qz AU fW dP.out (i:=0) (u:= .int .i64 m) rfl
   simp only [Nat.mul_one,Nat.add_zero] at g0
   have nw:jO.length≤1048576:=by have:=np.out;omega
   have mr:Hid (jO.length= jO.length):=J rfl;have RX:=I;clear AU gY RO
   go_upto_region 8 with (at_builtin;refine kC rfl _ _ 38 rfl w.heap.size 3 i0 _ 1 8 Tryz.underlying38 hi dn dC dz rfl (by decide) bV fW nS _ (jO) rfl (kG.out.alloc _) ⟨ju.heap.size,0,none⟩ 1 (m) rfl (aS.one _ _) (by have:=mr.out;unfold maxLen;omega) (by have:=mr.out;omega) (by have:=RX.size;simp;omega) ?_;intro v4 xQ fb gq ld)
   have qn:=pH (ly (bT ju (.cells #[m] 3)) _) gq;have gS:aB xQ kK 41 #[ag,af,sp,.slice Dq fp sW,.slice bk ad d3]:=bG.kb qn (fun e=>kG.out.qv bG (by decide) kK e.symm rfl);have AT:px v4 (.slice Dq fp sW):=px.step (H:=(World.alloc ju (.cells #[m] 3)).heap.size) eZ.out (fun k aD=>by have:=(PY.out.lt k aD).2;simp;omega) ld
   have ux:bd w 3 1 bV xQ (.slice Dq fp sW) fp:=PY.out.ne qn eZ.out;have RP:bd w 214 3 aO.cells xQ (.slice bk ad d3) ad:=Pw.out.kept qn (Pw.out.apart kG.out (by decide));have Jk:Below w w xQ:=I.grown qn I.size (fun q bj=>(kG.out.lt q bj).1);clear bG g0 I RX
   obtain⟨Qq,QV,e4,_,_,_⟩:=fb.form fW
   subst e4
   rw [List.length_append,List.length_singleton] at fb AT
   rw [List.length_append,List.length_singleton]
   have kp:=J fb;have JN:=J ux;have abJ:=J RP;clear fb ux RP AT gq ld qn;have I:=Jk;have Pu:=Jk.size;clear Jk;have dc:=gS.aM
   go_wp2_with fail
   refine (Uy (some ⟨Dq,0,none⟩) sW fp (by have:=np.out;omega) rf j ic _ JN.out.hj).mono ?_
   rintro e wD ⟨g6,sU,rfl,sN,tg⟩
   have mY:=be xQ tg;replace I:=aj I mY;replace gS:=gS.to mY;clear dc;have dc:=gS.aM;have lY:=J (kp.out.bm mY);have Px:=J (abJ.out.bm mY);have FZ:=J sN
   have ace:Hid (px (.slice Qq (jO.length + 1) QV) (.slice g6 (fp.length - 1) sU)):=J fun k h1 h2=>by
    have:=(kp.out.lt k h1).2;have:=(sN.lt k h2).1
    omega
   have Tu:w.heap.size≤xQ.heap.size:=Pu;have Jm:=J gS;clear sN Pu;have apa:=gS.frozen 3
   go_wp2
   obtain⟨lx,DC⟩ :∃X,X= World.setCell wD ⟨kK,3,none⟩ (.slice g6 (fp.length - 1) sU):=⟨_,rfl⟩
   have eJ:dy wD kK 3 [.slice g6 (fp.length - 1) sU] lx:=by rw [DC];exact dy.cons dy.nil
   rw [← DC]
   clear DC dc;have yF:aB lx kK 41 #[ag,af,sp,.slice g6 (fp.length - 1) sU,.slice bk ad d3]:=eJ.own gS;have yb:=eJ.aH I;have mc:=lY.out.bY eJ (lY.out.qv Jm.out (by decide));have Pk:=Px.out.bY eJ (Px.out.qv Jm.out (by decide));have Ke:=(FZ.out.base (B':=w.heap.size) Tu).bY eJ (FZ.out.qv Jm.out (by decide))
   have Hk:(fp.take j ++ fp.drop (j + 1)).length= fp.length - 1:=by simp;omega
   go_roundw
   case rel=>exact⟨fp.take j ++ fp.drop (j + 1),jO ++ [m],g6,sU,Qq,QV,by rw [List.length_append,List.length_singleton],by have:=np.out;rw [Hk,List.length_append,List.length_singleton];omega,J (by rw [dU.out,Ap.out];simp),by rw [List.length_append,List.length_singleton];exact mc,by rw [Hk];exact Ke,Pk,by rw [Hk];exact yF,J (by rw [Hk,List.length_append,List.length_singleton];exact ace.out),yb⟩
   case measure=>simp [Xm];have:=np.out;omega
  ·have dn:fp.length= 0:=by omega
   have ov:kf ⟨ag,af,sp,ws,ad⟩ =jO:=by rw [dU.out,ano dn,List.append_nil]
   have cC:=J ov;clear dn ov;have dc:=bG.aM
   go_wp2
   go_ret2
   exact⟨Y,qU,by rw [cC.out];rfl,by rw [cC.out];exact dm.out,I⟩
open Go.RowKit Go.G9
theorem RD {rs:List aK} {r:aK} (h:r ∈ rs):∃x,hE rs r.id= some x:=by
 unfold hE
 cases hf:rs.find? (fun x=>x.id == r.id) with
 | some x=>exact⟨x,rfl⟩
 | none=>have:=List.find?_eq_none.1 hf r h;simp at this
theorem UW {rs:List aK} {qs:List aQ} {k:Nat} {id:Int} (h:(hv rs qs)[k]? =some id):∃r,hE rs id= some r:=by
 have h:=List.mem_of_getElem? h
 unfold hv at h
 split at h
 ·obtain⟨r,bp,rfl⟩:=List.mem_map.1 h;exact RD bp
 ·split at h
  ·split at h
   ·simp at h
   ·obtain⟨r,bp,rfl⟩:=List.mem_map.1 h;exact RD (List.mem_filter.1 bp).1
  ·simp at h
theorem Nf {rs:List aK} {qs:List aQ}:(hv rs qs).length≤rs.length:=by
 exact Zf
theorem Vr {rs:List aK} {xs:List Int} {k:Nat} {id:Int} {r:aK} (aw:xs[k]? =some id) (bp:hE rs id= some r):(xs.take (k + 1)).map (kQ rs)= (xs.take k).map (kQ rs) ++ [r.name]:=by rw [List.take_add_one,aw];simp [Vv bp]
theorem QG {w ah:World} {a b c:Addr} {x y z:Value} {row:Option Nat} (h:w.cell? a= some x∧w.cell? b= some y∧w.cell? c= some z) (cT:w.grownBy ah row) (n1:some a.block≠row) (n2:some b.block≠row) (n3:some c.block≠row):ah.cell? a= some x∧ah.cell? b= some y∧ah.cell? c= some z:=⟨cT.cell h.1 n1,cT.cell h.2.1 n2,cT.cell h.2.2 n3⟩
theorem AF {w ah:World} {a b c:Addr} {x y z:Value} (h:w.cell? a= some x∧w.cell? b= some y∧w.cell? c= some z) (aF:Below w w ah):ah.cell? a= some x∧ah.cell? b= some y∧ah.cell? c= some z:=QG h (ly aF none) (by simp) (by simp) (by simp)
theorem Vz {T:Type} {B:Nat} {e:TypeId} {sz:Nat} {f:T→List Value} {w:World} {b o n c:Nat} {xs:List T} (h:bd B e sz f w (.slice (some ⟨b,o,none⟩) n c) xs) (aY:0 < xs.length):(Value.slice (some ⟨b,o,none⟩) n c).ownBlock= some b:=by
 rcases h.2 with ⟨_,h0⟩ | ⟨g,cap,cur,ax,_⟩
 ·omega
 ·injection ax with h1 _ _
  injection h1 with h2
  injection h2 with h3 h4
  subst h3;subst h4;rfl
theorem ZO {p:Prop} (h:p:=by
 have h2:=Vz gQ.out (by omega)
 exact dm.out.apart gQ.out (by decide) q bj (by rw [h2,e])):p:=h
theorem ZY {p:Prop} (h:p:=by
 go_wp2_with (at_builtin;refine kC rfl _ _ 57 rfl aG.heap.size 9 i0 _ 1 16 Tryz.underlying57 hi dn dC dz rfl (by decide) hC jZ AB _ ((ys.take k).map (kQ rs)) rfl (nO.alloc _) ⟨IJ.heap.size,0,none⟩ 1 (nm) rfl (aS.one _ _) (by have:=mr.out;unfold maxLen;omega) (by have:=mr.out;omega) (by have:=aL.size;simp;omega) ?_;intro v4 bU fb gq ld)
 have qn:=pH (ly (qd.alloc qd.size (.cells #[nm] 9)) _) gq;have gS:Below aG aG bU:=(aL.alloc aL.size _).grown gq (by have:=aL.size;simp;omega) (fun q bj=>(dm.out.lt q bj).1);have afr:=gQ.out.kept qn (gQ.out.apart dm.out (by decide))
 refine gw ((cO.out _).2 (QG ub.out qn (fun e=>iK.out.1 _ e.symm rfl) (fun e=>iK.out.2.1 _ e.symm rfl) (fun e=>iK.out.2.2 _ e.symm rfl))) (dv _ _ ?_)
 refine kD ?_
 change wpQuiet _ _ _ _ (_ ::[]) _
 repeat (go_big_quiet_step (fail))
 refine wpQuiet_nil ?_
 go_wp2
 go_roundw
 case rel=>exact⟨k + 1,by omega,by go_num,by rw [eZ.out];exact fb,afr,gS⟩
 case measure=>simp [intOf];omega):p:=h
theorem amw (aq:Option Addr) (c0:Nat) (ar:Option Addr) (av:Nat) (an:Option Addr) (c2:Nat) (ao:Option Addr) (c3:Nat) (aA:Option Addr) (c4:Nat) (rs:List aK) (qs:List aQ) (ag af sp:Int) (ws:List Int) (ad:List aO) (os:List Out) (h0:rs.length≤1000) (h1:qs.length≤1048576) (aN:dt rs qs= true) (w:World) (bf:aS 7 aK.cells w aq rs) (aW:aS 3 aQ.cells w ar qs):
 Calls Tryz.prog 94 #[.agg #[.slice aq rs c0,.slice ar qs av,ag,af,sp,.slice an ws c2,.slice ao ad c3,.slice aA os c4]] w fun e ah=>∃D d,e= .returned (.slice D ((hv rs qs).map (kQ rs)).length d)∧bd w 9 1 hC ah (.slice D ((hv rs qs).map (kQ rs)).length d) ((hv rs qs).map (kQ rs))∧Below w w ah:=by
 obtain⟨i0,hi,dn,dC,dz⟩:=info_parts zm
 have yj:=J (fun k id (h:(hv rs qs)[k]? =some id)=>UW h);have jo:=Nf (rs:=rs) (qs:=qs);have Ju:=J (fun W (h:aS 7 aK.cells W aq rs) (dj:aS 3 aQ.cells W ar qs)=>MZ aq c0 rs (by omega) ar av qs h1 aN W h dj)
 generalize hv rs qs= ys at *
 clear aN
 go_in
 go_upto_region 1 with fail
 obtain⟨ru,lg⟩ :∃b,b= w.heap.size:=⟨_,rfl⟩
 refine cF fun aG au aU=>?_
 replace bf:=bf.ae au;replace aW:=aW.ae au;have I:=au
 obtain⟨m0,m1,m2,m3,m4,m5,m6,m7⟩:=aU.aI
 rw [← lg] at aU m0 m1 m2 m3 m4 m5 m6 m7
 rw [← lg]
 have yb:=J (fun b o (e:aq= some ⟨b,o,none⟩) (aY:0 < rs.length)=>(show b < aG.heap.size by obtain⟨dc,lQ,gz,fh,_⟩:=bf aY;rw [e] at gz;injection gz with gz;injection gz with e1 _;omega));have qL:=J aU;have eL:=J bf;have AW:=I.size
 go_upto_region 2 with fail
 have hL:=bd.made (f:=hC) (sz:=1) aG (B:=aG.heap.size) (Nat.le_refl _) 9;have eG:Below aG aG (aG.alloc (.cells #[] 9)):=bT _ _
 generalize DD:aG.alloc (.cells #[] 9)= jW at *
 have kV:=J hL;clear hL lg;clear aU m0 m1 m2 m3 m4 m5 m6 m7;have wM:=J I;have al:=be aG eG;replace bf:=bf.ae al;replace aW:=aW.ae al;have rW:=qL.out.ae eG qL.out.lt
 obtain⟨m0,m1,m2,m3,m4,m5,m6,m7⟩:=rW.aI
 go_wp2_with fail
 refine (Ju.out _ (bf.ae az) (aW.ae az)).mono ?_
 rintro e bB ⟨Y,qU,rfl,CP,bx⟩
 have aP:=be jW bx;replace rW:=rW.to aP;clear m0 m1 m2 m3 m4 m5 m6 m7
 obtain⟨m0,m1,m2,m3,m4,m5,m6,m7⟩:=rW.aI
 have gY:=kV.out.bm aP;have DI:=CP.base (B':=aG.heap.size) eG.size;have Dw:=aj eG aP;clear bf aW kV CP I
 go_wp2
 clear m0 m1 m2 m3 m4 m5 m6 m7 rW
 go_loopw [3,5] (fun y i wr=>∃k:Nat,k≤ys.length∧i= .int .i64 k∧bd aG 9 1 hC wr y ((ys.take k).map (kQ rs))∧bd aG 3 1 bV wr (.slice Y ys qU) ys∧Below aG aG wr) (fun _ i _=>ys.length - (intOf i).toNat)
 case atStart=>exact⟨0,Nat.zero_le _,rfl,gY,DI,Dw⟩
 case round=>
  clear gY DI Dw
  obtain⟨k,aD,rfl,bM,DH,aF⟩:=hrel
  have mr:Hid (((ys.take k).map (kQ rs)).length= k):=J (take_len aD);have dm:=J bM;have gQ:=J DH;clear bM DH
  by_cases bu:k < ys.length
  ·skip
   obtain⟨vy,EP,id,Lr,afC,hid,DZ⟩:=(gQ.out.hj (hf:=fW)).at_ (Below.refl _ _) bu
   obtain⟨r,bp⟩:=yj.out k id hid
   obtain⟨j,bE,tu⟩:=qq bp
   have ic:j < rs.length:=(List.getElem?_eq_some_iff.1 tu).1
   obtain⟨gu,qy,fX,sZ,Su,oA,rZ⟩:=eL.out.at_ aF ic
   obtain rfl:r= fX:=Option.some.inj (tu.symm.trans oA)
   have eZ:=J (Vr hid bp)
   obtain⟨FA,nm,rk,af,fs,am,dX,aV⟩:=r
   have a0:=DZ 0 _ rfl (ay.self _);have n1:=rZ 1 _ rfl (ay.self _)
   simp only [Nat.add_zero,Nat.mul_one,ay.self] at a0 n1
   have eA:=J bE
   subst Lr sZ
   go_upto_region 6 with fail
   have xh:=qL.out.ae aF qL.out.lt;have m0:=(xh.cell 0).trans (show _= some (.slice (some ⟨gu,qy,none⟩) rs c0) from rfl);have ub:=J (show wr.cell? ⟨ru,0,none⟩ =some (.slice (some ⟨gu,qy,none⟩) rs c0)∧wr.cell? ⟨vy,EP + k,none⟩ =some (.int .i64 id)∧wr.cell? ⟨gu,qy + j * 7 + 1,none⟩ =some (.string nm) from⟨m0,a0,n1⟩)
   have oX:∀q,u3.ownBlock= some q→ru≠q:=fun q bj e=>dm.out.qv xh (by decide) q bj e.symm
   have tt:∀q,u3.ownBlock= some q→vy≠q:=fun q bj e=>by
    exact ZO
   have sd:∀q,u3.ownBlock= some q→gu≠q:=fun q bj e=>by have:=(dm.out.lt q bj).1;have:=yb.out gu qy rfl (by omega);omega
   have iK:=J (⟨oX,tt,sd⟩ :(∀q,u3.ownBlock= some q→ru≠q)∧(∀q,u3.ownBlock= some q→vy≠q)∧(∀q,u3.ownBlock= some q→gu≠q));clear DZ hid bp rZ oA tu bE oX tt sd m0 a0 n1 xh
   obtain⟨en,gj⟩ :∃X:World→Prop,∀V,X V↔V.cell? ⟨ru,0,none⟩ =some (.slice (some ⟨gu,qy,none⟩) rs c0)∧V.cell? ⟨vy,EP + k,none⟩ =some (.int .i64 id)∧V.cell? ⟨gu,qy + j * 7 + 1,none⟩ =some (.string nm):=⟨_,fun _=>Iff.rfl⟩
   have cO:=J gj;clear gj
   haveI:Nonempty (cH en):=⟨⟨wr,(cO.out _).2 ub.out⟩⟩
   have m0:=fun K:cH en=>((cO.out _).1 K.holds).1
   have a0:=fun K:cH en=>((cO.out _).1 K.holds).2.1
   have n1:=fun K:cH en=>((cO.out _).1 K.holds).2.2
   refine nh en [([0,1,2,3,4,5,6,7,8],9),([10,11,12],13),([],14)] [15] (by kernel_rfl) (by kernel_rfl) ((cO.out _).2 (AF ub.out (Below.refl _ _).drew)) ?_
   have gH:Below wr wr wr.drew:=(Below.refl _ _).drew
   generalize wr.drew= wd at *
   refine gr fun fT dv=>?_
   change wpQuiet _ _ _ _ (_ ::_ ::_ ::_ ::_ ::_ ::_ ::_ ::_ ::[]) _
   repeat (go_big_quiet_step (fail))
   refine wpQuiet_nil ?_
   change wpList _ _ _ (_ ::[]) _ _
   go_wp2_with fail
   refine (tG _ c0 rs (by omega) id _ eA.out _ (eL.out.ae (aj aF gH))).mono ?_
   rintro e IJ ⟨rfl,vW⟩
   have qd:Below wr wr IJ:=by rw [vW];exact gH
   clear vW
   go_wp2
   refine gw ((cO.out _).2 (AF ub.out qd)) (dv _ _ ?_)
   refine gr fun fT dv=>?_
   change wpQuiet _ _ _ _ (_ ::_ ::_ ::[]) _
   repeat (go_big_quiet_step (fail))
   refine wpQuiet_nil ?_
   change wpList _ _ _ (_ ::[]) _ _
   go_wp2
   refine gw ((cO.out _).2 (AF ub.out (qd.alloc qd.size _))) (dv _ _ ?_)
   refine gr fun fT dv=>?_
   change wpQuiet _ _ _ _ ([]) _
   refine wpQuiet_nil ?_
   change wpList _ _ _ (_ ::[]) _ _
   have aL:=aj aF qd;have nO:=dm.out.bm qd
   exact ZY
  ·obtain rfl:k= ys.length:=by omega
   have kc:=dm.out
   rw [List.take_length] at kc
   obtain⟨Kh,jB,rfl,_,_,_⟩:=kc.form jZ
   have rL:=J kc;clear kc
   go_wp2
   go_ret
   exact⟨Kh,jB,rfl,rL.out.base AW,aj wM.out aF⟩
open Go.RowKit Go.G9
theorem Ia {rs:List aK} (h:js rs= true) (id:Int):(kQ rs id).size≤10:=by
 unfold kQ
 cases hf:hE rs id with
 | none=>exact Nat.zero_le _
 | some r=>exact ajX h hf
theorem Gq {os:List Out} {x:Int}:∀{k:Nat},x ∈ jN os k→∃o,o ∈ os∧o.fR= x
 | 0,h=>by simp [jN] at h
 | k + 1,h=>by
  unfold jN at h
  split at h
  ·rename_i o cG
   split at h
   ·rcases List.mem_append.1 h with h | h
    ·exact Gq h
    ·simp at h;exact⟨o,List.mem_of_getElem? cG,h.symm⟩
   ·exact Gq h
  ·exact Gq h
theorem Qw {m:cw} (h:gR m):∀x ∈ jN m.cl m.cl.length,-999999≤x∧x≤999999:=fun x aw=>by
 obtain⟨o,cG,rfl⟩:=Gq aw
 have h1:=h.ER o cG
 unfold pg at h1
 rw [Bool.and_eq_true] at h1
 cases hf:hE m.cx o.fR with
 | none=>rw [hf] at h1;simp at h1
 | some r=>
  obtain⟨k,aD⟩:=List.mem_iff_getElem?.1 (List.mem_of_find?_eq_some hf)
  have aF:=xJ (xK (mj h.ho).1 aD)
  have he:r.id= o.fR:=by have:=List.find?_some hf;simpa using this
  omega
theorem Xo {m:cw} (h:gR m):∀x ∈ kf m.fV,-999999≤x∧x≤999999:=fun x aw=>by
 have hm:=UX (t:=iS m.fV) aw;have h1:=((ks.1 h.fV).w x hm).1;have:=qt.1 h1
 omega
theorem Ni (os:List Out) (n:Int):∀k,0≤(hF os n k).1∧(hF os n k).1≤k∧0≤(hF os n k).2∧(hF os n k).2≤k
 | 0=>by simp [hF]
 | k + 1=>by
  have:=Ni os n k
  unfold hF
  split
  ·split
   ·split <;> simp <;> omega
   ·simp;omega
  ·simp;omega
theorem akZ (w:World) (a b:Int):aS 1 bV (w.alloc (.cells #[a,b] 3)) (some ⟨w.heap.size,0,none⟩) [a,b]:=fun _=>⟨w.heap.size,0,rfl,by simp,fun i x aw j u hu=>by
 match i,j,aw,hu with
 | 0,0,aw,hu=>cases aw;cases hu;exact ((aB.new w 3 #[a,b]).cell 0).trans rfl
 | 1,0,aw,hu=>cases aw;cases hu;exact ((aB.new w 3 #[a,b]).cell 1).trans rfl
 | 0,_ + 1,aw,hu=>cases aw;simp [bV] at hu
 | 1,_ + 1,aw,hu=>cases aw;simp [bV] at hu
 | _ + 2,_,aw,hu=>simp at aw⟩
theorem OP {p:Prop} (h:p:=by
 rintro e bB ⟨rfl,bx⟩
 have aP:=be aJ bx;replace I:=aj I aP;replace bO:=bO.ae aP
 go_wp2
 go_ret2
 exact⟨_,rfl,fun y hy=>Option.some.inj hy,(aj I az)⟩):p:=h
theorem adl (aq ar an ao aA:Option Addr) (c0 av c2 c3 c4:Nat) (rs:List aK) (qs:List aQ) (ag af sp:Int) (ws:List Int) (ad:List aO) (os:List Out) (Z:ei aq ar an ao aA c0 av c2 c3 c4 rs qs ws ad os) (h:gR ⟨rs,qs,ag,af,sp,ws,ad,os⟩) (s:ByteArray) (cC:xW s 3) (L:Option Addr) (lc:Nat) (w:World) (R:dI w aq ar an ao aA rs qs ws ad os) (mL:aS 1 bV w L []) (bO:nF w):
 Calls Tryz.prog 102 #[.agg #[.slice aq rs c0,.slice ar qs av,ag,af,sp,.slice an ws c2,.slice ao ad c3,.slice aA os c4],s,.slice L ([]:List Int).length lc] w fun e ah=>∃x:ByteArray,e= .returned (.tuple #[x,.bool (jG ⟨rs,qs,ag,af,sp,ws,ad,os⟩ 3 []).isSome])∧(∀y,jG ⟨rs,qs,ag,af,sp,ws,ad,os⟩ 3 []= some y→x= y)∧Below w w ah:=by
 obtain⟨f0,f1,f2,f3,f4,f5,f6,f7,f8,f9,f10,f11,f12,f13,f14⟩:=cC
 simp only [Nat.reduceBEq] at f0 f1 f2 f3 f4 f5 f6 f7 f8 f9 f10 f11 f12 f13 f14
 have JC:=J (fun W (h1:aS 7 aK.cells W aq rs) (h2:aS 3 aQ.cells W ar qs)=>ain aq c0 rs Z.h0 Z.dZ ar av qs Z.h1 h.ho W h1 h2)
 have nQ:(qs.map (kA rs)).length≤1000:=by have:=(sl h).2.1;rw [List.length_map];simp only at this;omega
 have Jx:=J (show∀x ∈ qs.map (kA rs),x.size≤1000 from fun x aw=>by obtain⟨q,_,rfl⟩:=List.mem_map.1 aw;have:=Ia (mj h.ho).1 q.fR;unfold kA;simp only at this;omega);have sI:Hid (jG ⟨rs,qs,ag,af,sp,ws,ad,os⟩ 3 []= some (kx (qs.map (kA rs)))):=J rfl
 generalize qs.map (kA rs)= wk at *
 clear h Z mL
 rw [sI.out]
 go_in
 go_upto_region 1 with fail
 have au:Below w w (World.alloc w (.cells #[.slice aq rs c0,.slice ar qs av,ag,af,sp,.slice an ws c2,.slice ao ad c3,.slice aA os c4] 44)):=bT w _
 have aU:=aB.new w 44 #[.slice aq rs c0,.slice ar qs av,ag,af,sp,.slice an ws c2,.slice ao ad c3,.slice aA os c4]
 replace R:=R.ae au;replace bO:=bO.ae au
 generalize World.alloc w (.cells #[.slice aq rs c0,.slice ar qs av,ag,af,sp,.slice an ws c2,.slice ao ad c3,.slice aA os c4] 44)= aG at *
 have I:=au;have hO:=aU.aI;have vf:=aU.lt
 go_wp2_with fail
 refine (JC.out _ ((R.ae az)).fx ((R.ae az)).dL).mono ?_
 rintro e aJ ⟨D,d,rfl,gb,aL⟩
 have al:=be aG aL;replace I:=aj I al;replace R:=R.ae al;replace bO:=bO.ae al;replace aU:=aU.to al;clear hO;have hO:=aU.aI;clear hO R
 go_wp2_with fail
 refine (Nt D d wk nQ Jx.out _ (gb.hj (hf:=jZ)) (ph gb jZ)).mono ?_
 exact OP
theorem adj (aq ar an ao aA:Option Addr) (c0 av c2 c3 c4:Nat) (rs:List aK) (qs:List aQ) (ag af sp:Int) (ws:List Int) (ad:List aO) (os:List Out) (Z:ei aq ar an ao aA c0 av c2 c3 c4 rs qs ws ad os) (h:gR ⟨rs,qs,ag,af,sp,ws,ad,os⟩) (s:ByteArray) (cC:xW s 4) (L:Option Addr) (lc:Nat) (w:World) (R:dI w aq ar an ao aA rs qs ws ad os) (mL:aS 1 bV w L []) (bO:nF w):
 Calls Tryz.prog 102 #[.agg #[.slice aq rs c0,.slice ar qs av,ag,af,sp,.slice an ws c2,.slice ao ad c3,.slice aA os c4],s,.slice L ([]:List Int).length lc] w fun e ah=>∃x:ByteArray,e= .returned (.tuple #[x,.bool (jG ⟨rs,qs,ag,af,sp,ws,ad,os⟩ 4 []).isSome])∧(∀y,jG ⟨rs,qs,ag,af,sp,ws,ad,os⟩ 4 []= some y→x= y)∧Below w w ah:=by
 obtain⟨f0,f1,f2,f3,f4,f5,f6,f7,f8,f9,f10,f11,f12,f13,f14⟩:=cC
 simp only [Nat.reduceBEq] at f0 f1 f2 f3 f4 f5 f6 f7 f8 f9 f10 f11 f12 f13 f14
 obtain⟨i0,hi,dn,dC,dz⟩:=info_parts zm
 have yj:=J (fun k id (h:(hv rs qs)[k]? =some id)=>UW h);have jo:=Nf (rs:=rs) (qs:=qs);have agH:=(sl h).1
 simp only at agH
 have Jx:=J (show∀x ∈ (hv rs qs).map (kQ rs),x.size≤1000 from fun x aw=>by obtain⟨q,_,rfl⟩:=List.mem_map.1 aw;have:=Ia (mj h.ho).1 q;simp only at this;omega);have Ju:=J (fun W (h1:aS 7 aK.cells W aq rs) (h2:aS 3 aQ.cells W ar qs)=>Nc aq c0 rs Z.h0 ar av qs Z.h1 h.ho W h1 h2);have sI:Hid (jG ⟨rs,qs,ag,af,sp,ws,ad,os⟩ 4 []= some (kx ((hv rs qs).map (kQ rs)))):=J rfl
 generalize hv rs qs= ys at *
 clear h mL;have bg:=J Z;clear Z
 rw [sI.out]
 have bf:=R.fx;have aW:=R.dL;clear R
 go_in
 go_upto_region 1 with fail
 obtain⟨ru,lg⟩ :∃b,b= w.heap.size:=⟨_,rfl⟩
 refine cF fun aG au aU=>?_
 replace bf:=bf.ae au;replace aW:=aW.ae au;replace bO:=bO.ae au;have I:=au
 obtain⟨m0,m1,m2,m3,m4,m5,m6,m7⟩:=aU.aI
 rw [← lg] at aU m0 m1 m2 m3 m4 m5 m6 m7
 rw [← lg]
 have yb:=J (fun b o (e:aq= some ⟨b,o,none⟩) (aY:0 < rs.length)=>(show b < aG.heap.size by obtain⟨dc,lQ,gz,fh,_⟩:=bf aY;rw [e] at gz;injection gz with gz;injection gz with e1 _;omega));have qL:=J aU;have eL:=J bf;have AW:=I.size
 go_upto_region 7 with fail
 have hL:=bd.made (f:=hC) (sz:=1) aG (B:=aG.heap.size) (Nat.le_refl _) 9;have eG:Below aG aG (aG.alloc (.cells #[] 9)):=bT _ _
 generalize DD:aG.alloc (.cells #[] 9)= jW at *
 have kV:=J hL;clear hL lg;clear aU m0 m1 m2 m3 m4 m5 m6 m7;have wM:=J I;have al:=be aG eG;replace I:=aj I al;replace bf:=bf.ae al;replace aW:=aW.ae al;replace bO:=bO.ae al;have rW:=qL.out.ae eG qL.out.lt
 obtain⟨m0,m1,m2,m3,m4,m5,m6,m7⟩:=rW.aI
 have aqH:=rW.lt
 go_wp2_with fail
 refine (Ju.out _ (bf.ae az) (aW.ae az)).mono ?_
 rintro e bB ⟨Y,qU,rfl,CP,bx⟩
 have aP:=be jW bx;replace I:=aj I aP;replace bf:=bf.ae aP;replace aW:=aW.ae aP;replace bO:=bO.ae aP;replace rW:=rW.to aP;clear m0 m1 m2 m3 m4 m5 m6 m7
 obtain⟨m0,m1,m2,m3,m4,m5,m6,m7⟩:=rW.aI
 have gY:=kV.out.bm aP;have DI:=CP.base (B':=aG.heap.size) eG.size;have Dw:=aj eG aP;clear bf aW kV CP I bO
 go_wp2
 clear m0 m1 m2 m3 m4 m5 m6 m7 rW
 go_loopw [10,43] (fun y i wr=>∃k:Nat,k≤ys.length∧i= .int .i64 k∧bd aG 9 1 hC wr y ((ys.take k).map (kQ rs))∧bd aG 3 1 bV wr (.slice Y ys qU) ys∧Below aG aG wr) (fun _ i _=>ys.length - (intOf i).toNat)
 case atStart=>exact⟨0,Nat.zero_le _,rfl,gY,DI,Dw⟩
 case round=>
  clear gY DI Dw
  obtain⟨k,aD,rfl,bM,DH,aF⟩:=hrel
  have mr:Hid (((ys.take k).map (kQ rs)).length= k):=J (take_len aD);have dm:=J bM;have gQ:=J DH;clear bM DH
  by_cases bu:k < ys.length
  ·skip
   obtain⟨vy,EP,id,Lr,afC,hid,DZ⟩:=(gQ.out.hj (hf:=fW)).at_ (Below.refl _ _) bu
   obtain⟨r,bp⟩:=yj.out k id hid
   obtain⟨j,bE,tu⟩:=qq bp
   have ic:j < rs.length:=(List.getElem?_eq_some_iff.1 tu).1
   obtain⟨gu,qy,fX,sZ,Su,oA,rZ⟩:=eL.out.at_ aF ic
   obtain rfl:r= fX:=Option.some.inj (tu.symm.trans oA)
   have eZ:=J (Vr hid bp)
   obtain⟨FA,nm,rk,af,fs,am,dX,aV⟩:=r
   have a0:=DZ 0 _ rfl (ay.self _);have n1:=rZ 1 _ rfl (ay.self _)
   simp only [Nat.add_zero,Nat.mul_one,ay.self] at a0 n1
   have eA:=J bE
   subst Lr sZ
   go_upto_region 10 with fail
   have xh:=qL.out.ae aF qL.out.lt;have m0:=(xh.cell 0).trans (show _= some (.slice (some ⟨gu,qy,none⟩) rs c0) from rfl);have apG:=xh.lt;have ub:=J (show wr.cell? ⟨ru,0,none⟩ =some (.slice (some ⟨gu,qy,none⟩) rs c0)∧wr.cell? ⟨vy,EP + k,none⟩ =some (.int .i64 id)∧wr.cell? ⟨gu,qy + j * 7 + 1,none⟩ =some (.string nm) from⟨m0,a0,n1⟩)
   have oX:∀q,u10.ownBlock= some q→ru≠q:=fun q bj e=>dm.out.qv xh (by decide) q bj e.symm
   have tt:∀q,u10.ownBlock= some q→vy≠q:=fun q bj e=>by
    exact ZO
   have sd:∀q,u10.ownBlock= some q→gu≠q:=fun q bj e=>by have:=(dm.out.lt q bj).1;have:=yb.out gu qy rfl (by omega);omega
   have iK:=J (⟨oX,tt,sd⟩ :(∀q,u10.ownBlock= some q→ru≠q)∧(∀q,u10.ownBlock= some q→vy≠q)∧(∀q,u10.ownBlock= some q→gu≠q));clear DZ hid bp rZ oA tu bE oX tt sd m0 a0 n1 xh
   obtain⟨en,gj⟩ :∃X:World→Prop,∀V,X V↔V.cell? ⟨ru,0,none⟩ =some (.slice (some ⟨gu,qy,none⟩) rs c0)∧V.cell? ⟨vy,EP + k,none⟩ =some (.int .i64 id)∧V.cell? ⟨gu,qy + j * 7 + 1,none⟩ =some (.string nm):=⟨_,fun _=>Iff.rfl⟩
   have cO:=J gj;clear gj
   haveI:Nonempty (cH en):=⟨⟨wr,(cO.out _).2 ub.out⟩⟩
   have m0:=fun K:cH en=>((cO.out _).1 K.holds).1
   have a0:=fun K:cH en=>((cO.out _).1 K.holds).2.1
   have n1:=fun K:cH en=>((cO.out _).1 K.holds).2.2
   refine nh en [([0,1,2,3,4,5],6),([7,8,9],10),([],11)] [12] (by kernel_rfl) (by kernel_rfl) ((cO.out _).2 (AF ub.out (Below.refl _ _).drew)) ?_
   have gH:Below wr wr wr.drew:=(Below.refl _ _).drew
   generalize wr.drew= wd at *
   refine gr fun fT dv=>?_
   change wpQuiet _ _ _ _ (_ ::_ ::_ ::_ ::_ ::_ ::[]) _
   repeat (go_big_quiet_step (fail))
   refine wpQuiet_nil ?_
   change wpList _ _ _ (_ ::[]) _ _
   go_wp2_with fail
   refine (BL _ c0 rs (by omega) id _ eA.out _ (eL.out.ae (aj aF gH))).mono ?_
   rintro e IJ ⟨rfl,vW⟩
   have qd:Below wr wr IJ:=aj gH vW;clear vW
   go_wp2
   refine gw ((cO.out _).2 (AF ub.out qd)) (dv _ _ ?_)
   refine gr fun fT dv=>?_
   change wpQuiet _ _ _ _ (_ ::_ ::_ ::[]) _
   repeat (go_big_quiet_step (fail))
   refine wpQuiet_nil ?_
   change wpList _ _ _ (_ ::[]) _ _
   go_wp2
   refine gw ((cO.out _).2 (AF ub.out (qd.alloc qd.size _))) (dv _ _ ?_)
   refine gr fun fT dv=>?_
   change wpQuiet _ _ _ _ ([]) _
   refine wpQuiet_nil ?_
   change wpList _ _ _ (_ ::[]) _ _
   have aL:=aj aF qd;have nO:=dm.out.bm qd;have apI:=gQ.out.bm qd
   exact ZY
  ·obtain rfl:k= ys.length:=by omega
   have kc:=dm.out
   rw [List.take_length] at kc
   obtain⟨wk,Ek⟩ :∃wk,wk= ys.map (kQ rs):=⟨_,rfl⟩
   have nQ:wk.length≤1000:=by rw [Ek,List.length_map];omega
   rw [← Ek] at kc
   have PG:=Jx
   rw [← Ek] at PG
   have nH:=J Ek;clear Ek
   obtain⟨Kh,jB,rfl,_,_,_⟩:=kc.form jZ
   have rL:=J kc;clear kc
   go_wp2_with fail
   refine (Nt Kh jB wk nQ PG.out _ (rL.out.hj (hf:=jZ)) (ph rL.out jZ)).mono ?_
   rintro e mG ⟨rfl,fL⟩
   go_wp2
   go_ret2
   exact⟨_,rfl,fun y hy=>by rw [nH.out];exact Option.some.inj hy,aj wM.out (aj aF fL)⟩
theorem adk (aq ar an ao aA:Option Addr) (c0 av c2 c3 c4:Nat) (rs:List aK) (qs:List aQ) (ag af sp:Int) (ws:List Int) (ad:List aO) (os:List Out) (Z:ei aq ar an ao aA c0 av c2 c3 c4 rs qs ws ad os) (h:gR ⟨rs,qs,ag,af,sp,ws,ad,os⟩) (s:ByteArray) (cC:xW s 5) (L:Option Addr) (lc:Nat) (w:World) (R:dI w aq ar an ao aA rs qs ws ad os) (mL:aS 1 bV w L []) (bO:nF w):
 Calls Tryz.prog 102 #[.agg #[.slice aq rs c0,.slice ar qs av,ag,af,sp,.slice an ws c2,.slice ao ad c3,.slice aA os c4],s,.slice L ([]:List Int).length lc] w fun e ah=>∃x:ByteArray,e= .returned (.tuple #[x,.bool (jG ⟨rs,qs,ag,af,sp,ws,ad,os⟩ 5 []).isSome])∧(∀y,jG ⟨rs,qs,ag,af,sp,ws,ad,os⟩ 5 []= some y→x= y)∧Below w w ah:=by
 obtain⟨f0,f1,f2,f3,f4,f5,f6,f7,f8,f9,f10,f11,f12,f13,f14⟩:=cC
 simp only [Nat.reduceBEq] at f0 f1 f2 f3 f4 f5 f6 f7 f8 f9 f10 f11 f12 f13 f14
 have aT:=sl h
 simp only at aT
 obtain⟨_,_,Eh,yU,_⟩:=aT
 have yd:=J (Xo h);have xx:=BR (cw.fV ⟨rs,qs,ag,af,sp,ws,ad,os⟩);have acB:=J (fun W (h1:aS 1 bV W an ws) (h2:aS 3 aO.cells W ao ad)=>Xp ag af sp an c2 ws ao c3 ad Z.h2 Z.h3 Z.n2 Z.n3 Z.cp (by omega) W h1 h2);have sI:Hid (jG ⟨rs,qs,ag,af,sp,ws,ad,os⟩ 5 []= some (nT (kf ⟨ag,af,sp,ws,ad⟩))):=J rfl
 simp only [cw.fV] at yd xx
 generalize kf ⟨ag,af,sp,ws,ad⟩ =fp at *
 have rq:fp.length≤100:=by omega
 clear h Z mL xx
 rw [sI.out]
 go_in
 go_upto_region 1 with fail
 refine cF fun aG au aU=>?_
 replace R:=R.ae au;replace bO:=bO.ae au;have I:=au;have hO:=aU.aI;have vf:=aU.lt
 go_wp2_with fail
 refine (acB.out _ ((R.ae az)).r2 ((R.ae az)).hG).mono ?_
 rintro e aJ ⟨D,d,rfl,gb,aL⟩
 have al:=be aG aL;replace I:=aj I al;replace R:=R.ae al;replace bO:=bO.ae al;replace aU:=aU.to al;clear hO;have hO:=aU.aI;clear hO R
 go_wp2_with fail
 refine (Na (some ⟨D,0,none⟩) d fp rq yd.out _ (gb.hj (hf:=fW)) ((bO.ae az)).t).mono ?_
 exact OP
theorem adh (aq ar an ao aA:Option Addr) (c0 av c2 c3 c4:Nat) (rs:List aK) (qs:List aQ) (ag af sp:Int) (ws:List Int) (ad:List aO) (os:List Out) (Z:ei aq ar an ao aA c0 av c2 c3 c4 rs qs ws ad os) (h:gR ⟨rs,qs,ag,af,sp,ws,ad,os⟩) (s:ByteArray) (cC:xW s 6) (L:Option Addr) (lc:Nat) (w:World) (R:dI w aq ar an ao aA rs qs ws ad os) (mL:aS 1 bV w L []) (bO:nF w):
 Calls Tryz.prog 102 #[.agg #[.slice aq rs c0,.slice ar qs av,ag,af,sp,.slice an ws c2,.slice ao ad c3,.slice aA os c4],s,.slice L ([]:List Int).length lc] w fun e ah=>∃x:ByteArray,e= .returned (.tuple #[x,.bool (jG ⟨rs,qs,ag,af,sp,ws,ad,os⟩ 6 []).isSome])∧(∀y,jG ⟨rs,qs,ag,af,sp,ws,ad,os⟩ 6 []= some y→x= y)∧Below w w ah:=by
 obtain⟨f0,f1,f2,f3,f4,f5,f6,f7,f8,f9,f10,f11,f12,f13,f14⟩:=cC
 simp only [Nat.reduceBEq] at f0 f1 f2 f3 f4 f5 f6 f7 f8 f9 f10 f11 f12 f13 f14
 have aT:=sl h
 simp only at aT
 obtain⟨_,_,_,_,Ei⟩:=aT
 have yd:=J (Qw h);have Lv:=yw os os.length;have xX:=J (fun W (dj:dI W aq ar an ao aA rs qs ws ad os)=>ahg ⟨rs,qs,ag,af,sp,ws,ad,os⟩ aq ar an ao aA c0 av c2 c3 c4 Z.h0 Z.h1 Z.h2 Z.h3 Z.h4 W dj.fx dj.dL dj.r2 dj.hG dj.nV Z.dZ Z.eI Z.cp Z.ef Z.hY);have lg:=BA.2 h
 rw [lg,show nM ⟨rs,qs,ag,af,sp,ws,ad,os⟩ =jN os os.length by rw [nM,if_pos lg]] at xX
 have sI:Hid (jG ⟨rs,qs,ag,af,sp,ws,ad,os⟩ 6 []= some (nT (jN os os.length))):=J rfl
 simp only at yd xX
 generalize jN os os.length= fp at *
 have rq:fp.length≤100:=by omega
 clear h Z mL lg Lv
 rw [sI.out]
 go_in
 go_upto_region 1 with fail
 refine cF fun aG au aU=>?_
 replace R:=R.ae au;replace bO:=bO.ae au;have I:=au;have hO:=aU.aI;have vf:=aU.lt
 go_wp2_with fail
 refine (xX.out _ (R.ae az)).mono ?_
 rintro e aJ ⟨D,d,rfl,gb,aL⟩
 have al:=be aG aL;replace I:=aj I al;replace R:=R.ae al;replace bO:=bO.ae al;replace aU:=aU.to al;clear hO;have hO:=aU.aI;clear hO R
 go_wp2_with fail
 refine (Na D d fp rq yd.out _ (gb.hj (hf:=fW)) ((bO.ae az)).t).mono ?_
 exact OP
theorem adi (aq ar an ao aA:Option Addr) (c0 av c2 c3 c4:Nat) (rs:List aK) (qs:List aQ) (ag af sp:Int) (ws:List Int) (ad:List aO) (os:List Out) (Z:ei aq ar an ao aA c0 av c2 c3 c4 rs qs ws ad os) (h:gR ⟨rs,qs,ag,af,sp,ws,ad,os⟩) (s:ByteArray) (cC:xW s 11) (L:Option Addr) (lc:Nat) (n:Int) (w:World) (R:dI w aq ar an ao aA rs qs ws ad os) (mL:aS 1 bV w L [n]) (bO:nF w):
 Calls Tryz.prog 102 #[.agg #[.slice aq rs c0,.slice ar qs av,ag,af,sp,.slice an ws c2,.slice ao ad c3,.slice aA os c4],s,.slice L ([n]:List Int).length lc] w fun e ah=>∃x:ByteArray,e= .returned (.tuple #[x,.bool (jG ⟨rs,qs,ag,af,sp,ws,ad,os⟩ 11 [n]).isSome])∧(∀y,jG ⟨rs,qs,ag,af,sp,ws,ad,os⟩ 11 [n]= some y→x= y)∧Below w w ah:=by
 obtain⟨f0,f1,f2,f3,f4,f5,f6,f7,f8,f9,f10,f11,f12,f13,f14⟩:=cC
 simp only [Nat.reduceBEq] at f0 f1 f2 f3 f4 f5 f6 f7 f8 f9 f10 f11 f12 f13 f14
 have nw:gd ag af sp ws ad= true:=h.fV;have FO:=J (fun W (h1:aS 1 bV W an ws) (h2:aS 3 aO.cells W ao ad)=>ahN ag af sp an c2 ws ao c3 ad Z.h2 Z.h3 Z.cp nw n W h1 h2)
 have qk:-999999≤(if ey n then af - (ej ad n).dS else 0)∧(if ey n then af - (ej ad n).dS else 0)≤999999:=by
  split
  ·rename_i hm
   have:=Iw nw hm
   omega
  ·omega
 have sI:Hid (jG ⟨rs,qs,ag,af,sp,ws,ad,os⟩ 11 [n]= if ey n then some (eN (if ey n then af - (ej ad n).dS else 0)) else none):=J (by
  show (if ey n then some (eN (af - (ej ad n).dS)) else none)= _
  cases ey n <;> rfl)
 rw [sI.out]
 generalize (if ey n then af - (ej ad n).dS else 0)= v at *
 generalize ey n= b at *
 obtain⟨CU,iR,rfl,ew,jw⟩:=mL (by simp)
 have g0:=jw 0 _ rfl 0 _ rfl
 simp only [Nat.zero_mul,Nat.add_zero] at g0
 have kF:=J g0;have ye:=J ew;clear h Z nw jw ew g0 mL
 cases b
 all_goals
  simp only [Bool.false_eq_true,if_false,if_true,Option.isSome_some,Option.isSome_none]
  go_in
  go_upto_region 1 with fail
  refine cF fun aG au aU=>?_
  replace R:=R.ae au;replace bO:=bO.ae au;have I:=au;have hO:=aU.aI;have vf:=aU.lt
  go_upto_region 16 with fail
  have dQ:=J R.r2;have cQ:=J R.hG;have nu:=I
  have u0:=fun K:ay aG.heap.size aG=>(K.cell (p:=⟨CU,_,none⟩) (Nat.lt_of_lt_of_le ye.out nu.size)).trans ((nu.cell (p:=⟨CU,_,none⟩) ye.out).trans kF.out)
  clear R;have lr:=J (fun k:ay aG.heap.size aG=>FO.out k.world (dQ.out.ae k.ae) (cQ.out.ae k.ae));clear hO;have hO:=aB.oS (fun K:ay aG.heap.size aG=>(aU.ae K.ae aU.lt))
  refine eK (by kernel_rfl) (by kernel_rfl) ?_
  repeat (go_big_quiet_step ((first | (go_at_call 175;exact ay.call _ (by first | exact Nat.le_refl _ | omega) (lr.out _)))))
  refine wpQuiet_nil ?_
  intro K
  clear hO;have al:Below aG aG K.world:=aj az K.ae;replace I:=aj I al;replace bO:=bO.ae al;replace aU:=aU.to al;have hO:=aU.aI;clear u0;have vf:=aU.lt
  go_wp2_with fail
  refine (zq v (by omega) (by omega) _ ((bO.ae az)).t).mono ?_
  rintro e bB ⟨rfl,bx⟩
  have aP:Below K.world.heap.size K.world bB:=aj az bx;replace I:=aj I aP;replace bO:=bO.ae aP;replace aU:=aU.to aP;clear hO;have hO:=aU.aI
  go_wp2
  go_ret2
  exact⟨_,rfl,fun y hy=>(by first | exact Option.some.inj hy | cases hy),(aj I az)⟩
theorem adm (aq ar an ao aA:Option Addr) (c0 av c2 c3 c4:Nat) (rs:List aK) (qs:List aQ) (ag af sp:Int) (ws:List Int) (ad:List aO) (os:List Out) (Z:ei aq ar an ao aA c0 av c2 c3 c4 rs qs ws ad os) (h:gR ⟨rs,qs,ag,af,sp,ws,ad,os⟩) (s:ByteArray) (cC:xW s 12) (L:Option Addr) (lc:Nat) (n:Int) (w:World) (R:dI w aq ar an ao aA rs qs ws ad os) (mL:aS 1 bV w L [n]) (bO:nF w):
 Calls Tryz.prog 102 #[.agg #[.slice aq rs c0,.slice ar qs av,ag,af,sp,.slice an ws c2,.slice ao ad c3,.slice aA os c4],s,.slice L ([n]:List Int).length lc] w fun e ah=>∃x:ByteArray,e= .returned (.tuple #[x,.bool (jG ⟨rs,qs,ag,af,sp,ws,ad,os⟩ 12 [n]).isSome])∧(∀y,jG ⟨rs,qs,ag,af,sp,ws,ad,os⟩ 12 [n]= some y→x= y)∧Below w w ah:=by
 obtain⟨f0,f1,f2,f3,f4,f5,f6,f7,f8,f9,f10,f11,f12,f13,f14⟩:=cC
 simp only [Nat.reduceBEq] at f0 f1 f2 f3 f4 f5 f6 f7 f8 f9 f10 f11 f12 f13 f14
 have lg:=BA.2 h;have qk:=Ni os n os.length;have se:=(sl h).2.2.2.2
 simp only at se
 obtain⟨b,aF⟩ :∃b,ey n= b:=⟨_,rfl⟩
 obtain⟨v1,sf⟩ :∃v,v= if b then (hF os n os.length).1 else 0:=⟨_,rfl⟩
 obtain⟨v2,oB⟩ :∃v,v= if b then (hF os n os.length).2 else 0:=⟨_,rfl⟩
 have Jv:=J (fun W (dj:dI W aq ar an ao aA rs qs ws ad os)=>aih ⟨rs,qs,ag,af,sp,ws,ad,os⟩ aq ar an ao aA c0 av c2 c3 c4 Z.h0 Z.h1 Z.h2 Z.h3 Z.h4 n (.tuple #[v1,v2,.bool b]) (by rw [uH,lg,aF,sf,oB];cases b <;> rfl) W dj.fx dj.dL dj.r2 dj.hG dj.nV Z.dZ Z.eI Z.cp Z.ef Z.hY)
 have sI:Hid (jG ⟨rs,qs,ag,af,sp,ws,ad,os⟩ 12 [n]= if b then some (nT [v1,v2]) else none):=J (by
  show (if ey n then some (nT [(hF os n os.length).1,(hF os n os.length).2]) else none)= _
  rw [aF,sf,oB]
  cases b <;> rfl)
 rw [sI.out]
 have yd:=J (show∀x ∈ [v1,v2],-999999≤x∧x≤999999 from fun x aw=>by
  simp only [List.mem_cons,List.not_mem_nil,or_false] at aw
  rw [sf,oB] at aw
  cases b
  ·rcases aw with rfl | rfl <;> simp
  ·rcases aw with rfl | rfl <;> simp <;> omega)
 obtain⟨CU,iR,rfl,ew,jw⟩:=mL (by simp)
 have g0:=jw 0 _ rfl 0 _ rfl
 simp only [Nat.zero_mul,Nat.add_zero] at g0
 have kF:=J g0;have ye:=J ew;clear h Z lg qk se aF sf oB jw ew g0 mL
 cases b
 all_goals
  simp only [Bool.false_eq_true,if_false,if_true,Option.isSome_some,Option.isSome_none]
  go_in
  go_upto_region 1 with fail
  refine cF fun aG au aU=>?_
  replace R:=R.ae au;replace bO:=bO.ae au;have I:=au;have hO:=aU.aI;have vf:=aU.lt
  go_upto_region 21 with fail
  have bC:=J R;have nu:=I
  have u0:=fun K:ay aG.heap.size aG=>(K.cell (p:=⟨CU,_,none⟩) (Nat.lt_of_lt_of_le ye.out nu.size)).trans ((nu.cell (p:=⟨CU,_,none⟩) ye.out).trans kF.out)
  clear R;have lr:=J (fun k:ay aG.heap.size aG=>Jv.out k.world (bC.out.ae k.ae));clear hO;have hO:=aB.oS (fun K:ay aG.heap.size aG=>(aU.ae K.ae aU.lt))
  refine eK (by kernel_rfl) (by kernel_rfl) ?_
  repeat (go_big_quiet_step ((first | (go_at_call 177;exact ay.call _ (by first | exact Nat.le_refl _ | omega) (lr.out _)))))
  refine wpQuiet_nil ?_
  intro K
  clear hO;have al:Below aG aG K.world:=aj az K.ae;replace I:=aj I al;replace bO:=bO.ae al;replace aU:=aU.to al;have hO:=aU.aI;clear u0;have vf:=aU.lt;have jR:aS 1 bV (K.world.alloc (.cells #[v1,v2] 3)) (some ⟨K.world.heap.size,0,none⟩) [v1,v2]:=akZ _ _ _;have qN:=J jR;clear jR
  go_wp2_with fail
  refine (Na _ 2 [v1,v2] (by simp) yd.out _ qN.out ((bO.ae az)).t).mono ?_
  rintro e mG ⟨rfl,fL⟩
  go_wp2
  go_ret2
  exact⟨_,rfl,fun y hy=>(by first | exact Option.some.inj hy | cases hy),aj (aj I az) (aj (bT _ _) fL)⟩
theorem ado (aq ar an ao aA:Option Addr) (c0 av c2 c3 c4:Nat) (rs:List aK) (qs:List aQ) (ag af sp:Int) (ws:List Int) (ad:List aO) (os:List Out) (Z:ei aq ar an ao aA c0 av c2 c3 c4 rs qs ws ad os) (h:gR ⟨rs,qs,ag,af,sp,ws,ad,os⟩) (s pt:ByteArray) (aN:lD (ev s)= some pt) (L:Option Addr) (lc:Nat) (l:List Int) (aT:l.length= pt.size) (cS:qP (ev s) l= none) (w:World) (R:dI w aq ar an ao aA rs qs ws ad os) (mL:aS 1 bV w L l) (bO:nF w):
 Calls Tryz.prog 102 #[.agg #[.slice aq rs c0,.slice ar qs av,ag,af,sp,.slice an ws c2,.slice ao ad c3,.slice aA os c4],s,.slice L l lc] w fun e ah=>∃x:ByteArray,e= .returned (.tuple #[x,.bool (jG ⟨rs,qs,ag,af,sp,ws,ad,os⟩ (ev s) l).isSome])∧(∀y,jG ⟨rs,qs,ag,af,sp,ws,ad,os⟩ (ev s) l= some y→x= y)∧Below w w ah:=by
 have cC:=AH s;have hle:=Da s
 generalize ev s= i at *
 have h0:∀q,some ⟨#[]⟩ =some q→(q:ByteArray).size= 0:=fun q e=>by cases e;rfl
 have h1:∀q,some ((⟨#[110]⟩ :ByteArray):ByteArray)= some q→q.size= 1:=fun q e=>by cases e;rfl
 have e0:l.length= 0→l= []:=List.length_eq_zero_iff.1
 have e1:l.length= 1→∃n,l= [n]:=fun e=>by
  match l,e with
  | [n],_=>exact⟨n,rfl⟩
 match i,hle with
 | 0,_=>cases cS
 | 1,_=>cases cS
 | 2,_=>cases cS
 | 3,_=>obtain rfl:=e0 (aT.trans (h0 pt aN));exact adl _ _ _ _ _ _ _ _ _ _ _ _ _ _ _ _ _ _ Z h s cC L lc w R mL bO
 | 4,_=>obtain rfl:=e0 (aT.trans (h0 pt aN));exact adj _ _ _ _ _ _ _ _ _ _ _ _ _ _ _ _ _ _ Z h s cC L lc w R mL bO
 | 5,_=>obtain rfl:=e0 (aT.trans (h0 pt aN));exact adk _ _ _ _ _ _ _ _ _ _ _ _ _ _ _ _ _ _ Z h s cC L lc w R mL bO
 | 6,_=>obtain rfl:=e0 (aT.trans (h0 pt aN));exact adh _ _ _ _ _ _ _ _ _ _ _ _ _ _ _ _ _ _ Z h s cC L lc w R mL bO
 | 7,_=>obtain⟨n,rfl⟩:=e1 (aT.trans (h1 pt aN));cases cS
 | 8,_=>obtain⟨n,rfl⟩:=e1 (aT.trans (h1 pt aN));cases cS
 | 9,_=>obtain⟨n,rfl⟩:=e1 (aT.trans (h1 pt aN));cases cS
 | 10,_=>obtain⟨n,rfl⟩:=e1 (aT.trans (h1 pt aN));cases cS
 | 11,_=>obtain⟨n,rfl⟩:=e1 (aT.trans (h1 pt aN));exact adi _ _ _ _ _ _ _ _ _ _ _ _ _ _ _ _ _ _ Z h s cC L lc n w R mL bO
 | 12,_=>obtain⟨n,rfl⟩:=e1 (aT.trans (h1 pt aN));exact adm _ _ _ _ _ _ _ _ _ _ _ _ _ _ _ _ _ _ Z h s cC L lc n w R mL bO
 | 13,_=>
  have e2:l.length= 2:=aT.trans (by cases aN;rfl)
  match l,e2 with
  | [a,b],_=>cases cS
 | 14,_=>
  have e2:l.length= 3:=aT.trans (by cases aN;rfl)
  match l,e2 with
  | [a,b,c],_=>cases cS
 | 15,_=>cases aN
end Go.Proofs.YtlaaemmmbodaaaaGreatDoor
