/- Parts. -/
import Derived.Test.YtlaaemmmbodaaaaGreatDoorRp4
set_option maxHeartbeats 16000000
set_option maxRecDepth 100000
set_option linter.unnecessarySimpa false
set_option linter.unusedSimpArgs false
set_option linter.unusedVariables false
namespace Go.Proofs.YtlaaemmmbodaaaaGreatDoor
open Go.RowKit Go.G9 Go.Sort
theorem Uf (a:Int) (w:World):Calls Tryz.prog 302 #[a] w fun e ah=>e= .returned false∧ah= w:=by
 go_in
 go_wp2
 go_ret
 exact⟨by first | rfl | (refine ed ?_;simp),rfl⟩
theorem OM {p:Prop} (h:p:=by
 go_in
 go_wp2_with fail
 refine (Uf a _).mono ?_
 rintro e w0 ⟨rfl,h0⟩
 rw [h0]
 clear h0 w0
 go_wp2_with fail
 refine (Uf b _).mono ?_
 rintro e w0 ⟨rfl,h0⟩
 rw [h0]
 go_wp2
 go_ret
 exact⟨rfl,rfl⟩):p:=h
theorem adv (a b v:Int) (ax:AI a b= v) (w:World):Calls Tryz.prog 252 #[a,b] w fun e ah=>e= .returned v∧ah= w:=by
 subst ax
 unfold AI
 by_cases h1:a < b
 ·rw [if_pos h1]
  exact OM
 ·rw [if_neg h1]
  by_cases h2:b < a
  ·rw [if_pos h2]
   exact OM
  ·rw [if_neg h2]
   exact OM
theorem QT (A:Option Addr) (c:Nat) (xs:List Int) (aY:xs.length≤1048576) (aX:A= none→xs= []∧c= 0) (w:World) (bn:aS 1 bV w A xs):
 Calls Tryz.prog 245 #[.slice A xs c] w fun e ah=>∃bA cM,e= .returned (.slice (some ⟨bA,0,none⟩) xs cM)∧bd w 3 1 bV ah (.slice (some ⟨bA,0,none⟩) xs cM) xs∧Below w w ah:=by
 obtain⟨i0,hi,dn,dC,dz⟩:=info_parts rr
 have bC:=J (fun e=>(bn.ae (bT w (.cells #[] e))):∀e:TypeId,aS 1 bV (w.alloc (.cells #[] e)) A xs);clear bn
 go_in
 go_wp2_with ((at_builtin;refine wE rfl _ _ 38 rfl w.heap.size 3 i0 _ 1 8 Tryz.underlying38 hi dn dC dz rfl (by decide) bV fW nS w.heap.size rfl (aB.new _ _ _) (Nat.le_refl _) A c xs rfl (bC.out _) aX (by unfold maxLen;omega) (by omega) ?_;intro bA cM bh bM aF))
 go_ret
 exact⟨bA,cM,rfl,bM,aj (bT _ _) aF⟩
theorem aeP {T:Type} [Inhabited T] {enc:T→Value} {w:World} {g o q:Nat} {d:Array T} {os:Array Obj}:w.grownBy (grow (putRow enc (Sort.ahead w q) g o d) os) (some g):=by
 refine⟨rfl,rfl,rfl,by simp,fun k aD eM=>?_⟩
 rw [heap_grow_old _ _ (by simpa using aD)]
 have:g≠k:=fun e=>eM (by rw [e])
 simp [putRow,mapBlock,Sort.ahead,Array.getElem?_modify,this]
theorem XX (kK:Nat) (n x:Int) (w:World) (bG:w.cell? ⟨kK,0,none⟩ =some (.int .i64 n)):Calls Tryz.prog 330 #[x,.pointer (some ⟨kK,0,none⟩)] w fun e ah=>e= .returned (.bool (x == n))∧ah= w:=by
 go_in
 go_wp2
 go_ret
 exact⟨rfl,rfl⟩
theorem adF (B g cap kK:Nat) (n:Int) (ls:List Int) (aT:ls.length≤1048576) (w:World) (bM:bd B 3 1 bV w (.slice g ls cap) ls) (bG:w.cell? ⟨kK,0,none⟩ =some (.int .i64 n)) (ew:kK < w.heap.size) (mB:kK≠g):
 Calls Tryz.prog 329 #[.slice g ls cap,.func (.func 330) #[] #[.pointer (some ⟨kK,0,none⟩)]] w fun e ah=>
  e= .returned (.slice g (ls.filter fun x=>!(x == n)).length cap)∧bd B 3 1 bV ah (.slice g (ls.filter fun x=>!(x == n)).length cap) (ls.filter fun x=>!(x == n))∧w.grownBy ah (some g):=by
 have fJ:bd B 3 1 (fun x=>[Value.int .i64 x]) w (.slice g ls cap) ls:=bM
 obtain⟨h1,h2,h3,h4⟩:=aks fJ
 have jw:∀W,w.grownBy W (some g)→W.cell? ⟨kK,0,none⟩ =some (.int .i64 n):=fun W bL=>(World.cell?_of_block (a:=⟨kK,0,none⟩) (bL.block kK ew (fun e=>mB (Option.some.inj e)))).trans bG
 have aN:PredAt Tryz.prog 330 #[.pointer (some ⟨kK,0,none⟩)] (Value.int .i64) (fun x=>x == n) w:=fun W x bL=>
  (XX kK n x W (jw W (ly bL _))).mono fun e ah ⟨he,hw⟩=>⟨he,0,hw⟩
 have Mp:PredOver Tryz.prog 330 #[.pointer (some ⟨kK,0,none⟩)] (Value.int .i64) (fun x=>x == n) g 0 ls.toArray.size w:=fun q os aoZ x aD=>
  (XX kK n x _ (jw _ aeP)).mono fun e ah ⟨he,hw⟩=>⟨he,0,hw⟩
 have h:=Tryz.slices_DeleteFunc (Value.int .i64) (fun _=>rfl) (fun x=>x == n) 330 #[.pointer (some ⟨kK,0,none⟩)] (enters_of Tryz.func330 (by kernel_rfl) rfl) 0 Tryz.zeroValue3 g 0 cap ls.toArray w aN Mp h1 (by simp;omega) (by simpa using h3)
 rw [List.size_toArray] at h
 refine h.mono ?_
 rintro e ah ⟨rfl,q,rfl⟩
 have hle:(ls.filter fun x=>!(x == n)).length≤ls.length:=List.length_filter_le _ _;have h5:=akt (q:=q) (os:=#[]) (ys:=(ls.filter fun x=>!(x == n)) ++ List.replicate (ls.length - (ls.filter fun x=>!(x == n)).length) 0) fJ (by rw [List.length_append,List.length_replicate];omega) hle
 rw [List.take_left' rfl,grow_empty] at h5
 exact⟨rfl,h5⟩
theorem aod (A:Option Addr) (c:Nat) (xs:List Int) (aY:xs.length≤1048576) (aX:A= none→xs= []∧c= 0) (n:Int) (w:World) (bn:aS 1 bV w A xs):
 Calls Tryz.prog 306 #[.slice A xs c,n] w fun e ah=>∃bA cM,e= .returned (.slice (some ⟨bA,0,none⟩) (xs.filter fun x=>!(x == n)).length cM)∧bd w 3 1 bV ah (.slice (some ⟨bA,0,none⟩) (xs.filter fun x=>!(x == n)).length cM) (xs.filter fun x=>!(x == n))∧Below w w ah:=by
 have bC:=J bn;have eZ:=J aX;clear bn aX
 go_in
 go_upto_region 1 with fail
 refine cF fun aG au bG=>?_
 have I:=au;have eu:=(bG.cell 0).trans (show _= some (.int .i64 n) from rfl);have apK:=bG.lt
 go_wp2_with fail
 refine (QT A c xs aY eZ.out _ (bC.out.ae (aj I az))).mono ?_
 rintro e aJ ⟨g1,av,rfl,cI,aL⟩
 have al:=be aG aL;replace I:=aj I al;replace bG:=bG.to al;replace eu:=(bG.cell 0).trans (show _= some (.int .i64 n) from rfl);have ha:=(cI.lt g1 rfl).1;have aT:=bG.lt;have kG:=J cI;have qe:=J I;clear cI bG
 go_wp2_with fail
 refine (adF aG.heap.size g1 av w.heap.size n xs aY _ kG.out eu aT (by omega)).mono ?_
 rintro e bB ⟨rfl,bD,yP⟩
 have xZ:Below w w bB:=qe.out.grown yP (qe.out.size) (fun k aD=>by have:=Option.some.inj aD;omega);clear eu
 go_wp2
 go_ret
 exact⟨g1,av,rfl,bD.base (by omega),xZ⟩
theorem anu (kK:Nat) (ag af sp:Int) (an:Option Addr) (wh c2:Nat) (ao:Option Addr) (c3:Nat) (ad:List aO) (h3:ad.length≤1048576) (a b:Int) (v:Int) (ax:AI (ej ad a).ek (ej ad b).ek= v) (w:World)
  (bG:aB w kK 41 #[ag,af,sp,.slice an wh c2,.slice ao ad c3]) (bt:aS 3 aO.cells w ao ad):
 Calls Tryz.prog 251 #[a,b,.pointer (some ⟨kK,0,none⟩)] w fun e ah=>e= .returned v∧Below w w ah:=by
 obtain⟨⟨dO,iA,xs⟩,aw⟩ :∃x,ej ad a= x:=⟨_,rfl⟩
 obtain⟨⟨nj,ob,ys⟩,hy⟩ :∃y,ej ad b= y:=⟨_,rfl⟩
 rw [aw,hy] at ax
 simp only at ax
 have cc:=J aw;have gQ:=J hy;have bo:=J ax;have bC:=J bt;clear aw hy ax bt
 have f1:=fun W=>(show (Instr.field 214 (.agg #[dO,iA,xs]) 1).run Tryz.prog W= .ok (.int .i64 iA) W by kernel_rfl)
 have f2:=fun W=>(show (Instr.field 214 (.agg #[nj,ob,ys]) 1).run Tryz.prog W= .ok (.int .i64 ob) W by kernel_rfl)
 have c0:=fun K:ay w.heap.size w=>((bG.ae K.ae bG.lt).cell 0).trans (show _= some (.int .i64 ag) from rfl)
 have av:=fun K:ay w.heap.size w=>((bG.ae K.ae bG.lt).cell 1).trans (show _= some (.int .i64 af) from rfl)
 have aoK:=fun K:ay w.heap.size w=>((bG.ae K.ae bG.lt).cell 2).trans (show _= some (.int .i64 sp) from rfl)
 have aoL:=fun K:ay w.heap.size w=>((bG.ae K.ae bG.lt).cell 3).trans (show _= some (.slice an wh c2) from rfl)
 have c4:=fun K:ay w.heap.size w=>((bG.ae K.ae bG.lt).cell 4).trans (show _= some (.slice ao ad c3) from rfl)
 clear bG
 go_in
 go_wp2
 refine eK (by kernel_rfl) (by kernel_rfl) ?_
 repeat (go_big_quiet_step (fail))
 go_big_quiet_step ((go_at_call 201;exact ay.call _ (by first | exact Nat.le_refl _ | omega) (wA ag af sp an wh c2 ao c3 ad h3 a ⟨dO,iA,xs⟩ cc.out _ (bC.out.ae (ay.ae _)))))
 repeat (go_big_quiet_step (fail))
 go_big_quiet_step ((go_at_call 201;exact ay.call _ (by first | exact Nat.le_refl _ | omega) (wA ag af sp an wh c2 ao c3 ad h3 b ⟨nj,ob,ys⟩ gQ.out _ (bC.out.ae (ay.ae _)))))
 repeat (go_big_quiet_step (fail))
 go_big_quiet_step ((go_at_call 252;exact ay.same _ (adv iA ob v bo.out _)))
 repeat (go_big_quiet_step (fail))
 refine wpQuiet_nil ?_
 intro K
 go_wp2
 go_ret
 exact⟨rfl,K.ae⟩
theorem Xp (ag af sp:Int) (an:Option Addr) (c2:Nat) (ws:List Int) (ao:Option Addr) (c3:Nat) (ad:List aO) (h2:ws.length≤1048576) (h3:ad.length≤1048576) (n2:an= none→ws= []∧c2= 0) (n3:ao= none→ad= []∧c3= 0) (cp:ws.length≤c2) (hw:ws.length < 20) (w:World) (bw:aS 1 bV w an ws) (bt:aS 3 aO.cells w ao ad):
 Calls Tryz.prog 174 #[.agg #[ag,af,sp,.slice an ws c2,.slice ao ad c3]] w fun e ah=>∃bA cM,e= .returned (.slice (some ⟨bA,0,none⟩) (kf ⟨ag,af,sp,ws,ad⟩).length cM)∧bd w 3 1 bV ah (.slice (some ⟨bA,0,none⟩) (kf ⟨ag,af,sp,ws,ad⟩).length cM) (kf ⟨ag,af,sp,ws,ad⟩)∧Below w w ah:=by
 have dQ:=J bw;have cQ:=J bt;have iU:=J n2;clear bw bt n2 n3;have hlen:(kf ⟨ag,af,sp,ws,ad⟩).length= ws.length:=BR _
 rw [hlen]
 clear hlen
 go_in
 go_upto_region 1 with fail
 refine cF fun aG au ai=>?_
 have I:=au;have aC:=ai.aM;have apQ:=ai.lt
 go_wp2_with fail
 refine (QT an c2 ws h2 iU.out _ (dQ.out.ae (aj I az))).mono ?_
 rintro e aJ ⟨g1,av,rfl,cI,aL⟩
 have al:=be aG aL;replace I:=aj I al;replace ai:=ai.to al;clear aC;have ha:=(cI.lt g1 rfl).1;have uX:=al.size;have kG:=J cI;have cC:=J ai;have qe:=J I;have nI:=J (cQ.out.ae I)
 have lX:Hid (∀iV,ao= some iV→0 < ad.length→iV.block < w.heap.size):=J (fun iV e aY=>by
  obtain⟨b,off,e2,aF,_⟩:=cQ.out aY
  rw [e] at e2;cases e2;exact aF)
 clear cI ai
 go_upto_region 2 with fail
 go_wp2_with fail
 refine (ank (qR (iS ⟨ag,af,sp,ws,ad⟩)) ws hw aG.heap.size g1 av w.heap.size _ ha uX kG.out ?_).mono ?_
 ·intro x z aw ck W bL
  have aeY:=cC.out.kb bL (by intro e;have:=Option.some.inj e;omega)
  have afm:aS 3 aO.cells W ao ad:=if aY:0 < ad.length then nI.out.grown bL (fun iV e e2=>by have h1:=lX.out iV e aY;have h2:=Option.some.inj e2;have h3:=qe.out.size;omega) else fun h0=>absurd h0 aY
  exact anu w.heap.size ag af sp an ws.length c2 ao c3 ad h3 x z _ rfl W aeY afm
 rintro e bB ⟨rfl,bD,yP⟩
 have xZ:Below w w bB:=qe.out.grown yP (qe.out.size) (fun k aD=>by have:=Option.some.inj aD;omega)
 go_wp2
 go_ret
 exact⟨g1,av,rfl,bD.base (by omega),xZ⟩
open Go.RowKit Go.G9
theorem Pd {p:Prop} (h:p:=by
 clear ak;have ak:=U.aM;have dM:=U.iE
 go_wp2
 clear ak
 refine gF 0 fun cD aE=>?_
 replace I:=aE.aH I;replace U:=aE.hV U;have ak:=U.aM
 exact hD ⟨rfl,I⟩ (by simp [results,Tryz.results258,go_sem,ak])):p:=h
theorem Yr {p:Prop} (h:p:=by
 have dM:=U.iE
 go_wp2
 clear aC ak
 refine gF 0 fun cD aE=>?_
 replace I:=aE.aH I;replace U:=aE.hV U;have ak:=U.aM
 exact hD ⟨rfl,I⟩ (by simp [results,Tryz.results258,go_sem,ak])):p:=h
theorem ahj (ag af sp:Int) (an:Option Addr) (c2:Nat) (ws:List Int) (ao:Option Addr) (c3:Nat) (ad:List aO) (h2:ws.length≤1048576) (h3:ad.length≤1048576) (n2:an= none→ws= []∧c2= 0) (n3:ao= none→ad= []∧c3= 0) (cp:ws.length≤c2) (m:Int) (ax:mM ⟨ag,af,sp,ws,ad⟩ m= false) (w:World) (bw:aS 1 bV w an ws) (bt:aS 3 aO.cells w ao ad):
 Calls Tryz.prog 258 #[.agg #[ag,af,sp,.slice an ws c2,.slice ao ad c3],m] w fun e ah=>e= .returned (.tuple #[.agg #[(0:Int),(0:Int),(0:Int),.slice none 0 0,.slice none 0 0],false])∧Below w w ah:=by
 have dQ:=J bw;have cQ:=J bt;clear bw bt n2 n3
 cases gA:gd ag af sp ws ad
 case false=>
  have bo:=J gA;clear gA;clear ax
  go_in
  go_upto_region 1 with fail
  refine fe fun aG au ai U=>?_
  have I:=au;have aC:=ai.aM;have ak:=U.aM
  go_wp2_with fail
  refine (lh ag af sp an ws c2 ao c3 ad h2 h3 cp _ bo.out _ (dQ.out.ae (aj I az)) (cQ.out.ae (aj I az))).mono ?_
  rintro e aJ ⟨rfl,aL⟩
  have al:=be aG aL;replace I:=aj I al;clear aC;replace U:=U.to al
  exact Pd
 case true=>
  cases gL:ey m
  case false=>
   have bo:=J gA;clear gA;have dP:=J gL;clear gL;clear ax
   go_in
   go_upto_region 1 with fail
   refine fe fun aG au ai U=>?_
   have I:=au;have aC:=ai.aM;have ak:=U.aM
   go_wp2_with fail
   refine (lh ag af sp an ws c2 ao c3 ad h2 h3 cp _ bo.out _ (dQ.out.ae (aj I az)) (cQ.out.ae (aj I az))).mono ?_
   rintro e aJ ⟨rfl,aL⟩
   have al:=be aG aL;replace I:=aj I al;clear aC;replace U:=U.to al;clear ak;have ak:=U.aM
   go_wp2_with fail
   refine (iG m _ dP.out _).mono ?_
   rintro e w0 ⟨rfl,h0⟩
   rw [h0]
   clear h0 w0;have dM:=U.iE
   go_wp2
   clear ak
   refine gF 0 fun cD aE=>?_
   replace I:=aE.aH I;replace U:=aE.hV U;have ak:=U.aM
   exact hD ⟨rfl,I⟩ (by simp [results,Tryz.results258,go_sem,ak])
  case true=>
   cases jn:(m == sp)
   case true=>
    have bo:=J gA;clear gA;have dP:=J gL;clear gL;clear ax
    go_in
    go_upto_region 1 with fail
    refine fe fun aG au ai U=>?_
    have I:=au;have aC:=ai.aM;have ak:=U.aM
    go_wp2_with fail
    refine (lh ag af sp an ws c2 ao c3 ad h2 h3 cp _ bo.out _ (dQ.out.ae (aj I az)) (cQ.out.ae (aj I az))).mono ?_
    rintro e aJ ⟨rfl,aL⟩
    have al:=be aG aL;replace I:=aj I al;replace ai:=ai.to al;clear aC;have aC:=ai.aM;replace U:=U.to al;clear ak;have ak:=U.aM
    go_wp2_with fail
    refine (iG m _ dP.out _).mono ?_
    rintro e w0 ⟨rfl,h0⟩
    rw [h0]
    clear h0 w0
    exact Yr
   case false=>
    cases pM:hasB ws m
    case true=>
     have bo:=J gA;clear gA;have dP:=J gL;clear gL;have gp:=J pM;clear pM;clear ax
     go_in
     go_upto_region 1 with fail
     refine fe fun aG au ai U=>?_
     have I:=au;have aC:=ai.aM;have ak:=U.aM
     go_wp2_with fail
     refine (lh ag af sp an ws c2 ao c3 ad h2 h3 cp _ bo.out _ (dQ.out.ae (aj I az)) (cQ.out.ae (aj I az))).mono ?_
     rintro e aJ ⟨rfl,aL⟩
     have al:=be aG aL;replace I:=aj I al;replace ai:=ai.to al;clear aC;have aC:=ai.aM;replace U:=U.to al;clear ak;have ak:=U.aM
     go_wp2_with fail
     refine (iG m _ dP.out _).mono ?_
     rintro e w0 ⟨rfl,h0⟩
     rw [h0]
     clear h0 w0
     go_wp2_with fail
     refine (yA an c2 ws m h2 _ gp.out _ (dQ.out.ae (aj I az))).mono ?_
     rintro e bB ⟨rfl,bx⟩
     have aP:=be aJ bx;replace I:=aj I aP;clear aC;replace U:=U.to aP
     exact Pd
    case false=>
     cases mg:nt ag af (ej ad m)
     case false=>
      have bo:=J gA;clear gA;have dP:=J gL;clear gL;have gp:=J pM;clear pM;have cW:=J mg;clear mg;clear ax
      go_in
      go_upto_region 1 with fail
      refine fe fun aG au ai U=>?_
      have I:=au;have aC:=ai.aM;have ak:=U.aM
      go_wp2_with fail
      refine (lh ag af sp an ws c2 ao c3 ad h2 h3 cp _ bo.out _ (dQ.out.ae (aj I az)) (cQ.out.ae (aj I az))).mono ?_
      rintro e aJ ⟨rfl,aL⟩
      have al:=be aG aL;replace I:=aj I al;replace ai:=ai.to al;clear aC;have aC:=ai.aM;replace U:=U.to al;clear ak;have ak:=U.aM
      go_wp2_with fail
      refine (iG m _ dP.out _).mono ?_
      rintro e w0 ⟨rfl,h0⟩
      rw [h0]
      clear h0 w0
      go_wp2_with fail
      refine (yA an c2 ws m h2 _ gp.out _ (dQ.out.ae (aj I az))).mono ?_
      rintro e bB ⟨rfl,bx⟩
      have aP:=be aJ bx;replace I:=aj I aP;replace ai:=ai.to aP;clear aC;have aC:=ai.aM;replace U:=U.to aP;clear ak;have ak:=U.aM
      go_wp2_with fail
      refine (zn ag af sp an ws.length c2 ao c3 ad h3 m _ cW.out _ (cQ.out.ae (aj I az))).mono ?_
      rintro e bU ⟨rfl,cY⟩
      have bN:=be bB cY;replace I:=aj I bN;clear aC;replace U:=U.to bN
      exact Pd
     case true=>
      have rb:decide (ws.length= 10)= true:=by simpa [mM,eo.ok,gA,gL,jn,pM,mg] using ax
      have bo:=J gA;clear gA;have dP:=J gL;clear gL;have gp:=J pM;clear pM;have cW:=J mg;clear mg
      have ct:((ws.length:Int) == 10)= true:=by have:=of_decide_eq_true rb;rw [this];rfl
      clear rb;clear ax
      go_in
      go_upto_region 1 with fail
      refine fe fun aG au ai U=>?_
      have I:=au;have aC:=ai.aM;have ak:=U.aM
      go_wp2_with fail
      refine (lh ag af sp an ws c2 ao c3 ad h2 h3 cp _ bo.out _ (dQ.out.ae (aj I az)) (cQ.out.ae (aj I az))).mono ?_
      rintro e aJ ⟨rfl,aL⟩
      have al:=be aG aL;replace I:=aj I al;replace ai:=ai.to al;clear aC;have aC:=ai.aM;replace U:=U.to al;clear ak;have ak:=U.aM
      go_wp2_with fail
      refine (iG m _ dP.out _).mono ?_
      rintro e w0 ⟨rfl,h0⟩
      rw [h0]
      clear h0 w0
      go_wp2_with fail
      refine (yA an c2 ws m h2 _ gp.out _ (dQ.out.ae (aj I az))).mono ?_
      rintro e bB ⟨rfl,bx⟩
      have aP:=be aJ bx;replace I:=aj I aP;replace ai:=ai.to aP;clear aC;have aC:=ai.aM;replace U:=U.to aP;clear ak;have ak:=U.aM
      go_wp2_with fail
      refine (zn ag af sp an ws.length c2 ao c3 ad h3 m _ cW.out _ (cQ.out.ae (aj I az))).mono ?_
      rintro e bU ⟨rfl,cY⟩
      have bN:=be bB cY;replace I:=aj I bN;replace ai:=ai.to bN;clear aC;have aC:=ai.aM;replace U:=U.to bN;clear ak;have ak:=U.aM
      exact Yr
theorem ahk (ag af sp:Int) (an:Option Addr) (c2:Nat) (ws:List Int) (ao:Option Addr) (c3:Nat) (ad:List aO) (h2:ws.length≤1048576) (h3:ad.length≤1048576) (n2:an= none→ws= []∧c2= 0) (n3:ao= none→ad= []∧c3= 0) (cp:ws.length≤c2) (m:Int) (ax:mM ⟨ag,af,sp,ws,ad⟩ m= true) (w:World) (bw:aS 1 bV w an ws) (bt:aS 3 aO.cells w ao ad):
 Calls Tryz.prog 258 #[.agg #[ag,af,sp,.slice an ws c2,.slice ao ad c3],m] w fun e ah=>∃aZ d2 bk d3,e= .returned (.tuple #[.agg #[ag,af,sp,.slice aZ (ws ++ [m]).length d2,.slice bk ad d3],true])∧jC w.heap.size ah aZ d2 bk d3 (ws ++ [m]) ad∧Below w w ah:=by
 obtain⟨i0,hi,dn,dC,dz⟩:=info_parts rr
 have dQ:=J bw;have cQ:=J bt;have iU:=J n2;have iK:=J n3;clear bw bt n2 n3
 obtain⟨gA,gL,aV,pM,mg,rb⟩ :gd ag af sp ws ad= true∧ey m= true∧(m == sp)= false∧hasB ws m= false∧nt ag af (ej ad m)= true∧ws.length≠10:=by
  simpa [mM,eo.ok] using ax
 have ct:((ws.length:Int) == 10)= false:=beq_eq_false_iff_ne.2 (by omega);have nR:ws.length≤10:=(ks.1 (show (⟨ag,af,sp,ws,ad⟩ :eo).ok= true from gA)).l;have bo:=J gA;have dP:=J gL;have gp:=J pM;have cW:=J mg;clear gA gL pM mg rb ax
 go_in
 go_upto_region 1 with fail
 refine fe fun aG au ai U=>?_
 have I:=au;have aC:=ai.aM;have ak:=U.aM;have fQ:=U.lt
 go_wp2_with fail
 refine (lh ag af sp an ws c2 ao c3 ad h2 h3 cp _ bo.out _ (dQ.out.ae (aj I az)) (cQ.out.ae (aj I az))).mono ?_
 rintro e aJ ⟨rfl,aL⟩
 have al:=be aG aL;replace I:=aj I al;replace ai:=ai.to al;clear aC;have aC:=ai.aM;replace U:=U.to al;clear ak;have ak:=U.aM
 go_wp2_with fail
 refine (iG m _ dP.out _).mono ?_
 rintro e w0 ⟨rfl,h0⟩
 rw [h0]
 clear h0 w0
 go_wp2_with fail
 refine (yA an c2 ws m h2 _ gp.out _ (dQ.out.ae (aj I az))).mono ?_
 rintro e bB ⟨rfl,bx⟩
 have aP:=be aJ bx;replace I:=aj I aP;replace ai:=ai.to aP;clear aC;have aC:=ai.aM;replace U:=U.to aP;clear ak;have ak:=U.aM
 go_wp2_with fail
 refine (zn ag af sp an ws.length c2 ao c3 ad h3 m _ cW.out _ (cQ.out.ae (aj I az))).mono ?_
 rintro e bU ⟨rfl,cY⟩
 have bN:=be bB cY;replace I:=aj I bN;replace ai:=ai.to bN;clear aC;have aC:=ai.aM;replace U:=U.to bN;clear ak;have ak:=U.aM
 go_wp2_with fail
 refine (EM ag af sp an c2 ws ao c3 ad h2 h3 iU.out iK.out _ (dQ.out.ae (aj I az)) (cQ.out.ae (aj I az))).mono ?_
 rintro e dB ⟨aZ,d2,g3,d3,rfl,di,eD⟩
 have cK:=be bU eD;replace I:=aj I cK;clear aC;replace U:=U.to cK;clear ak;have ak:=U.aM;have tR:=I.size;have ID:=al.size;have Om:=aP.size;have On:=bN.size;have XD:=cK.size
 go_upto_region 4 with fail
 have fb:=di.bm (bT dB (.cells #[ag,af,sp,.slice aZ ws d2,.slice g3 ad d3] 41));have eQ:Below dB dB (World.alloc dB (.cells #[ag,af,sp,.slice aZ ws d2,.slice g3 ad d3] 41)):=bT dB _
 have aR:=aB.new dB 41 #[ag,af,sp,.slice aZ ws d2,.slice g3 ad d3]
 generalize World.alloc dB (.cells #[ag,af,sp,.slice aZ ws d2,.slice g3 ad d3] 41)= nE at *
 replace I:=aj I eQ
 obtain⟨dd,dT,dN,eg,eh⟩:=aR.aM
 clear ak;replace U:=U.to eQ;have ak:=U.aM;have pb:=aR.lt;have bI:=fb.fi;have bD:=fb.fO;have jm:=bI.apart bD (by decide);have nv:=bI.lt;have pN:=bI.cu aR
 have rh:∀k,(Value.slice aZ ws d2).ownBlock= some k→k≠w.heap.size + 1:=fun k aD e=>by have:=(nv k aD).1;have:=ID;omega
 have hs:=J bI;have ji:=J bD;have cc:=J aR;have bg:=J U;have oe:=J jm;have yh:=J pN;have yi:=J rh;have yg:=J nv;have qe:=J I
 have DT:bU.heap.size≤nE.heap.size:=by omega
 clear di fb bI bD jm pN rh nv;have OC:=eg;clear dd dT dN eg eh ak
 go_upto_region 5 with ((at_builtin;refine kC rfl _ _ 38 rfl bU.heap.size 3 i0 _ 1 8 Tryz.underlying38 hi dn dC dz rfl (by decide) bV fW nS _ ws rfl (hs.out.alloc _) ⟨nE.heap.size,0,none⟩ 1 m rfl (aS.one (f:=bV) m _) (by unfold maxLen;omega) (by omega) (by simp;omega) ?_;intro v9 mG je ku yL;have dR:=((cc.out.alloc (.cells #[m] 3)).kb ku (fun e=>yh.out _ e.symm rfl));clear yL;obtain⟨Y,gV,rfl,q1,gv,mm⟩:=je.form fW;clear q1 gv mm;replace je:bd bU 3 1 bV mG (.slice Y (ws.length + 1) gV) (ws ++ [m]):=(by rw [List.length_append] at je;exact je);have GL:=dR.frozen 3;have KB:=(dR.cell 3).trans (show _= some (Value.slice aZ ws d2) from rfl)))
 have et:Below w w mG:=(qe.out.alloc (by omega) (.cells #[m] 3)).grown ku (by simp;omega) (fun q bj=>by have:=(yg.out q bj).1;omega);have bK:=(bg.out.alloc (.cells #[m] 3)).kb ku (fun e=>yi.out _ e.symm rfl);have bD:=(ji.out.alloc (.cells #[m] 3)).kept ku (fun k aD e=>oe.out k e.symm aD.symm);have bI:=je;have pN:=bI.cu dR
 have KM:=bD.wj dR (by decide);clear aR U ai ku je GL KB OC;replace I:=et;clear et;have ak:=bK.aM
 obtain⟨dd,dT,dN,eg,eh⟩:=dR.aM
 have ez:∀k,(Value.slice Y (ws.length + 1) gV).ownBlock= some k→¬k= dB.heap.size:=pN
 have dG:∀k,(Value.slice g3 ad d3).ownBlock= some k→¬k= dB.heap.size:=fun k aD e=>KM (by have h:g3= k:=Option.some.inj aD;omega)
 clear ak dd dT dN eg eh
 refine mF 3 fun Gj jK=>?_
 replace I:=jK.aH I;replace bK:=jK.dV bK;replace dR:=jK.EX dR;replace bI:=bI.bY jK ez;replace bD:=bD.bY jK dG;have ak:=bK.aM
 obtain⟨dd,dT,dN,eg,eh⟩:=dR.aM
 clear ez dG
 have ez:∀k,(Value.slice Y (ws.length + 1) gV).ownBlock= some k→¬k= w.heap.size + 1:=fun k aD e=>by have:=(bI.lt k aD).1;omega
 have dG:∀k,(Value.slice g3 ad d3).ownBlock= some k→¬k= w.heap.size + 1:=fun k aD e=>by have h:=(bD.lt k aD).1;omega
 have AK:=bK.frozen 0;have AL:=bK.frozen 1;have AM:=bK.frozen 2;have AN:=bK.frozen 3;have AO:=bK.frozen 4
 go_wp2
 clear ak dd dT dN eg eh
 refine gF 0 fun Gk kg=>?_
 replace I:=kg.aH I;replace bK:=kg.hV bK;replace dR:=kg.dV dR;replace bI:=bI.bY kg ez;replace bD:=bD.bY kg dG;have ak:=bK.aM
 refine bodyPost_ret (v:= .tuple #[.agg #[ag,af,sp,.slice Y (ws.length + 1) gV,.slice g3 ad d3],true]) (by simp [results,Tryz.results258,go_sem,ak]) rfl ?_
 have yV:(ws ++ [m]).length= ws.length + 1:=by simp
 rw [yV]
 exact⟨Y,gV,some ⟨g3,0,none⟩,d3,rfl,⟨by rw [yV];exact bI.base (by omega),bD.base (by omega),by rw [yV];exact bI.apart bD (by decide)⟩,I⟩
theorem aaN {p:Prop} (h:p:=by
 rintro e aJ ⟨rfl,aL⟩
 have al:=be aG aL;replace I:=aj I al;replace ai:=ai.to al;clear aC;have aC:=ai.aM;replace U:=U.to al;clear ak;have ak:=U.aM;have dM:=U.iE
 go_wp2
 clear aC ak
 refine gF 0 fun cD aE=>?_
 replace I:=aE.aH I;replace U:=aE.hV U;have ak:=U.aM
 exact hD ⟨rfl,I⟩ (by simp [results,Tryz.results259,go_sem,ak])):p:=h
theorem ZL {p:Prop} (h:p:=by
 have:=ax
 simp only [lP,eo.ok,hf,aV,Bool.true_and,decide_eq_false_iff_not] at this
 omega):p:=h
theorem ail (ag af sp:Int) (an:Option Addr) (c2:Nat) (ws:List Int) (ao:Option Addr) (c3:Nat) (ad:List aO) (h2:ws.length≤1048576) (h3:ad.length≤1048576) (n2:an= none→ws= []∧c2= 0) (n3:ao= none→ad= []∧c3= 0) (cp:ws.length≤c2) (ax:lP ⟨ag,af,sp,ws,ad⟩ =false) (w:World) (bw:aS 1 bV w an ws) (bt:aS 3 aO.cells w ao ad):
 Calls Tryz.prog 259 #[.agg #[ag,af,sp,.slice an ws c2,.slice ao ad c3]] w fun e ah=>e= .returned (.tuple #[.agg #[(0:Int),(0:Int),(0:Int),.slice none 0 0,.slice none 0 0],(0:Int),false])∧Below w w ah:=by
 have dQ:=J bw;have cQ:=J bt;have iU:=J n2;clear bw bt n2 n3
 cases hf:gd ag af sp ws ad
 ·have bo:=J hf
  clear hf ax
  go_in
  go_upto_region 1 with fail
  refine fe fun aG au ai U=>?_
  have I:=au;have aC:=ai.aM;have ak:=U.aM
  go_wp2_with fail
  refine (lh ag af sp an ws c2 ao c3 ad h2 h3 cp _ bo.out _ (dQ.out.ae (aj I az)) (cQ.out.ae (aj I az))).mono ?_
  rintro e aJ ⟨rfl,aL⟩
  have al:=be aG aL;replace I:=aj I al;clear aC;replace U:=U.to al;clear ak;have ak:=U.aM;have dM:=U.iE
  go_wp2
  clear ak
  refine gF 0 fun cD aE=>?_
  replace I:=aE.aH I;replace U:=aE.hV U;have ak:=U.aM
  exact hD ⟨rfl,I⟩ (by simp [results,Tryz.results259,go_sem,ak])
 ·cases aV:(sp == 0)
  case false=>
   have Es:(sp != 0)= true:=by rw [bne,aV];rfl
   have bo:=J hf;clear hf ax aV
   go_in
   go_upto_region 1 with fail
   refine fe fun aG au ai U=>?_
   have I:=au;have aC:=ai.aM;have ak:=U.aM
   go_wp2_with fail
   refine (lh ag af sp an ws c2 ao c3 ad h2 h3 cp _ bo.out _ (dQ.out.ae (aj I az)) (cQ.out.ae (aj I az))).mono ?_
   exact aaN
  case true=>
   have qp:ws.length= 0:=by
    exact ZL
   have Es:(sp != 0)= false:=by rw [bne,aV];rfl
   obtain rfl:=List.length_eq_zero_iff.1 qp
   have bo:=J hf;clear hf ax aV qp
   go_in
   go_upto_region 1 with fail
   refine fe fun aG au ai U=>?_
   have I:=au;have aC:=ai.aM;have ak:=U.aM
   go_wp2_with fail
   refine (lh ag af sp an [] c2 ao c3 ad h2 h3 cp _ bo.out _ (dQ.out.ae (aj I az)) (cQ.out.ae (aj I az))).mono ?_
   exact aaN
theorem aim (ag af sp:Int) (an:Option Addr) (c2:Nat) (ws:List Int) (ao:Option Addr) (c3:Nat) (ad:List aO) (h2:ws.length≤1048576) (h3:ad.length≤1048576) (n2:an= none→ws= []∧c2= 0) (n3:ao= none→ad= []∧c3= 0) (cp:ws.length≤c2) (ax:lP ⟨ag,af,sp,ws,ad⟩ =true) (m:Int) (hm:rA ⟨ag,af,sp,ws,ad⟩ =some m) (w:World) (bw:aS 1 bV w an ws) (bt:aS 3 aO.cells w ao ad):
 Calls Tryz.prog 259 #[.agg #[ag,af,sp,.slice an ws c2,.slice ao ad c3]] w fun e ah=>∃aZ d2 bk d3,e= .returned (.tuple #[.agg #[ag,af,m,.slice aZ (ws.filter fun x=>!(x == m)).length d2,.slice bk ad d3],m,true])∧jC w.heap.size ah aZ d2 bk d3 (ws.filter fun x=>!(x == m)) ad∧Below w w ah:=by
 have dQ:=J bw;have cQ:=J bt;have iU:=J n2;have iK:=J n3;clear bw bt n2 n3
 obtain⟨gA,aV,qp⟩ :gd ag af sp ws ad= true∧(sp == 0)= true∧0 < ws.length:=by
  simpa [lP,eo.ok] using ax
 have Es:(sp != 0)= false:=by rw [bne,aV];rfl
 have ct:((ws.length:Int) == 0)= false:=beq_eq_false_iff_ne.2 (by omega);have nR:ws.length≤10:=(ks.1 (show (⟨ag,af,sp,ws,ad⟩ :eo).ok= true from gA)).l;have SR:(kf ⟨ag,af,sp,ws,ad⟩)[0]? =some m:=(ann qp).trans hm;have xx:(kf ⟨ag,af,sp,ws,ad⟩).length= ws.length:=BR _;have bo:=J gA;have abW:=J SR;have wQ:=J xx;clear gA SR xx ax hm aV
 go_in
 go_upto_region 1 with fail
 refine fe fun aG au ai U=>?_
 have I:=au;have aC:=ai.aM;have ak:=U.aM;have fQ:=U.lt
 go_wp2_with fail
 refine (lh ag af sp an ws c2 ao c3 ad h2 h3 cp _ bo.out _ (dQ.out.ae (aj I az)) (cQ.out.ae (aj I az))).mono ?_
 rintro e aJ ⟨rfl,aL⟩
 have al:=be aG aL;replace I:=aj I al;replace ai:=ai.to al;clear aC;have aC:=ai.aM;replace U:=U.to al;clear ak;have ak:=U.aM
 go_wp2_with fail
 refine (EM ag af sp an c2 ws ao c3 ad h2 h3 iU.out iK.out _ (dQ.out.ae (aj I az)) (cQ.out.ae (aj I az))).mono ?_
 rintro e bB ⟨aZ,d2,g3,d3,rfl,di,bx⟩
 have aP:=be aJ bx;replace I:=aj I aP;replace ai:=ai.to aP;clear aC;have aC:=ai.aM;replace U:=U.to aP;clear ak;have ak:=U.aM;have ID:=al.size;have IE:=aP.size;have apS:=(di.fO.lt g3 rfl)
 go_upto_region 4 with fail
 have bD:=di.fO.bm (bT bB (.cells #[ag,af,sp,.slice aZ ws d2,.slice g3 ad d3] 41));clear di;have bN:Below bB bB (World.alloc bB (.cells #[ag,af,sp,.slice aZ ws d2,.slice g3 ad d3] 41)):=bT bB _
 have aR:=aB.new bB 41 #[ag,af,sp,.slice aZ ws d2,.slice g3 ad d3]
 generalize World.alloc bB (.cells #[ag,af,sp,.slice aZ ws d2,.slice g3 ad d3] 41)= nE at *
 replace I:=aj I bN;have bF:=aR.aM;clear aC;replace ai:=ai.to bN;have aC:=ai.aM;clear ak;replace U:=U.to bN;have ak:=U.aM
 go_wp2_with fail
 refine (Xp ag af sp an c2 ws ao c3 ad h2 h3 iU.out iK.out cp (by omega) _ (dQ.out.ae (aj I az)) (cQ.out.ae (aj I az))).mono ?_
 rintro e dB ⟨g5,c5,rfl,iu,eD⟩
 have cK:=be nE eD;replace I:=aj I cK;replace bD:=bD.bm cK;replace ai:=ai.to cK;clear aC;have aC:=ai.aM;replace U:=U.to cK;clear ak;have ak:=U.aM;replace aR:=aR.to cK;clear bF;have bF:=aR.aM;have aoM:=(ET (show bd _ _ _ _ _ (.slice g5 _ c5) (kf ⟨ag,af,sp,ws,ad⟩) from iu) abW.out).1
 rw [wQ.out]
 clear iu;have pG:=aR.frozen 2
 go_upto_region 5 with fail
 have dG:∀k,(Value.slice g3 ad d3).ownBlock= some k→¬k= bB.heap.size:=fun k aD e=>by have h:=(bD.lt k aD);have h9:g3= k:=Option.some.inj aD;omega
 clear aC ak bF
 refine mF 2 fun nK fy=>?_
 replace I:=fy.aH I;replace ai:=fy.dV ai;replace U:=fy.dV U;replace aR:=fy.NB aR;replace bD:=bD.bY fy dG;have aC:=ai.aM;have ak:=U.aM;have bF:=aR.aM;clear dG pG;have anM:=aR.lt
 go_wp2_with fail
 refine (aod an c2 ws h2 iU.out m _ (dQ.out.ae (aj I az))).mono ?_
 rintro e ju ⟨g7,um,rfl,mc,ou⟩
 have eQ:=be nK ou;replace I:=aj I eQ;replace bD:=bD.bm eQ;clear aC;replace U:=U.to eQ;clear ak;have ak:=U.aM;replace aR:=aR.to eQ;clear bF;have bF:=aR.aM;have qW:=aR.frozen 3;have apD:=(mc.lt g7 rfl).1
 go_upto_region 6 with fail
 have dG:∀k,(Value.slice g3 ad d3).ownBlock= some k→¬k= bB.heap.size:=fun k aD e=>by have h:=(bD.lt k aD);have h9:g3= k:=Option.some.inj aD;omega
 have wi:∀k,(Value.slice g7 (ws.filter fun x=>!(x == m)).length um).ownBlock= some k→¬k= bB.heap.size:=fun k aD e=>by have h9:g7= k:=Option.some.inj aD;omega
 clear ak bF
 refine mF 3 fun lx eJ=>?_
 replace I:=eJ.aH I;replace U:=eJ.dV U;replace aR:=eJ.EX aR;replace bD:=bD.bY eJ dG;replace mc:=mc.bY eJ wi;have ak:=U.aM;have bF:=aR.aM;clear dG wi qW
 haveI:Nonempty (cH (fun V=>aB V bB.heap.size 41 #[ag,af,m,.slice g7 (ws.filter fun x=>!(x == m)).length um,.slice g3 ad d3])):=⟨⟨lx,aR⟩⟩
 haveI:Nonempty (cH (fun _=>True)):=⟨⟨lx,trivial⟩⟩
 clear bF;have bF:=aB.jH (fun K:cH (fun V=>aB V bB.heap.size 41 #[ag,af,m,.slice g7 (ws.filter fun x=>!(x == m)).length um,.slice g3 ad d3])=>K.holds)
 refine Fx (fun V=>aB V bB.heap.size 41 #[ag,af,m,.slice g7 (ws.filter fun x=>!(x == m)).length um,.slice g3 ad d3]) [([0,1,2],[],3,false)] [] [4,5] (by kernel_rfl) (by kernel_rfl) aR ?_
 refine oa fun K gf=>?_
 change wpQuiet _ _ _ _ (_ ::_ ::_ ::[]) _
 repeat (go_big_quiet_step (fail))
 refine wpQuiet_nil ?_
 refine wpQuiet_nil ?_
 change wpList _ _ _ (_ ::[]) _ _
 have fL:=(Below.refl lx.heap.size lx).drew;replace I:Below w w lx.drew:=I.drew;have bK:=U.to fL;have dR:=aR.to fL;replace bD:=bD.bm fL;replace mc:=mc.bm fL;clear U aR ai bF ak fL
 generalize lx.drew= Ke at *
 have ak:=bK.aM;have AK:=bK.frozen 0;have AL:=bK.frozen 1;have AM:=bK.frozen 2;have AN:=bK.frozen 3;have AO:=bK.frozen 4
 have dG:∀k,(Value.slice g3 ad d3).ownBlock= some k→¬k= w.heap.size + 1:=fun k aD e=>by have h9:g3= k:=Option.some.inj aD;omega
 have wi:∀k,(Value.slice g7 (ws.filter fun x=>!(x == m)).length um).ownBlock= some k→¬k= w.heap.size + 1:=fun k aD e=>by have h9:g7= k:=Option.some.inj aD;omega
 go_wp2
 clear ak
 refine gF 0 fun Qp nY=>?_
 replace I:=nY.aH I;replace bK:=nY.hV bK;replace dR:=nY.dV dR;replace bD:=bD.bY nY dG;replace mc:=mc.bY nY wi;have ak:=bK.aM
 refine wV dR (gf _ _ ?_)
 refine xR ?_
 refine wpQuiet_nil ?_
 change wpQuiet _ _ _ _ (_ ::_ ::[]) _
 repeat (go_big_quiet_step (fail))
 refine wpQuiet_nil ?_
 go_wp2
 refine bodyPost_ret (v:= .tuple #[.agg #[ag,af,m,.slice g7 (ws.filter fun x=>!(x == m)).length um,.slice g3 ad d3],m,true]) (by simp [results,Tryz.results259,go_sem,ak]) rfl ?_
 exact⟨some ⟨g7,0,none⟩,um,some ⟨g3,0,none⟩,d3,rfl,⟨mc.base (by omega),bD.base (by omega),mc.apart bD (by decide)⟩,I⟩
open Go.RowKit Go.G9
theorem UF {rs:List aK} {qs:List aQ} (h:lk rs qs= true):dt rs qs= true∧jx rs qs= true:=by simpa [lk] using h
theorem EH {rs:List aK} {qs:List aQ} (h:jx rs qs= true):∃j q,qs.length= j + 1∧qs[j]? =some q:=by
 unfold jx at h
 cases bj:qs[qs.length - 1]? with
 | none=>rw [bj] at h;cases h
 | some q=>
  have:=(List.getElem?_eq_some_iff.1 bj).1
  exact⟨qs.length - 1,q,by omega,bj⟩
theorem Xa {qs:List aQ} {j:Nat} {q:aQ} (bE:qs.length= j + 1) (bj:qs[j]? =some q):BN qs= qs.set j ⟨q.fR,q.mover,true⟩:=by
 have e:qs.length - 1= j:=by omega
 unfold BN
 rw [e,bj]
 dsimp only
 conv=>rhs;rw [ajs bE bj]
 rw [List.set_append_right _ _ (by simp;omega)]
 congr 1
 simp
 rw [show j - min j qs.length= 0 by omega];rfl
theorem HM {qs:List aQ} {j:Nat} {q:aQ} {mem:Int} (bE:qs.length= j + 1) (bj:qs[j]? =some q):EI qs mem= (q.mover == mem):=by
 unfold EI;rw [show qs.length - 1= j by omega,bj]
theorem It {rs:List aK} {qs:List aQ} {mem:Int} (h:lk rs qs= false):jJ rs qs mem= none:=by
 unfold jJ;rw [← Bool.and_assoc,show (dt rs qs && jx rs qs)= false from h];rfl
theorem WX {rs:List aK} {qs:List aQ} {mem:Int} (h:ey mem= false):jJ rs qs mem= none:=by simp [jJ,h]
theorem WY {rs:List aK} {qs:List aQ} {mem:Int} (h:EI qs mem= true):jJ rs qs mem= none:=by simp [jJ,h]
theorem WZ {rs:List aK} {qs:List aQ} {mem:Int} (h:lk rs qs= true) (h2:ey mem= true) (h3:EI qs mem= false):jJ rs qs mem= some (BN qs):=by
 obtain⟨h4,h5⟩:=UF h
 simp [jJ,h4,h5,h2,h3]
theorem TW (aq:Option Addr) (c0:Nat) (rs:List aK) (h0:rs.length≤1048576) (fo:rs.length≤c0) (ar:Option Addr) (av:Nat) (qs:List aQ) (h1:qs.length≤1048576) (aX:ar= none→qs= []∧av= 0) (mem:Int) (w:World) (bf:aS 7 aK.cells w aq rs) (aW:aS 3 aQ.cells w ar qs):Calls Tryz.prog 180 #[.slice aq rs c0,.slice ar qs av,mem] w fun e ah=>∃A c,e= .returned (.tuple #[.slice A (iR (jJ rs qs mem)).length c,.bool (jJ rs qs mem).isSome])∧bd w 115 3 aQ.cells ah (.slice A (iR (jJ rs qs mem)).length c) (iR (jJ rs qs mem))∧Below w w ah:=by
 obtain⟨i0,hi,dn,dC,dz⟩:=info_parts si
 have po:=J aX;clear aX
 cases aD:lk rs qs
 ·have ft:=J aD
  rw [It aD]
  clear aD
  go_in
  go_wp2_with fail
  refine (zx aq c0 rs h0 fo ar av qs h1 _ ft.out _ (bf.ae az) (aW.ae az)).mono ?_
  rintro e bh ⟨rfl,br⟩
  have au:=be w br;have I:Below w w bh:=au
  go_wp2
  go_ret2
  exact⟨none,0,rfl,bd.nil,(aj I az)⟩
 cases hm:ey mem
 ·have ft:=J aD;have dP:=J hm
  rw [WX hm]
  clear aD hm
  go_in
  go_wp2_with fail
  refine (zx aq c0 rs h0 fo ar av qs h1 _ ft.out _ (bf.ae az) (aW.ae az)).mono ?_
  exact abp
 obtain⟨j,⟨qr,cb,dp⟩,bE,bj⟩:=EH (UF aD).2
 obtain⟨dY,gP,_,rfl,_,_,_⟩:=aW.at_ (Below.refl _ _) (k:=j) (by omega)
 have eA:=J bE;have dH:=J bj
 have ic:j≤1048576:=by omega
 have cW:=J (fun W (h:aS 7 aK.cells W aq rs) (dj:aS 3 aQ.cells W (some ⟨dY,gP,none⟩) qs)=>zx aq c0 rs h0 fo (some ⟨dY,gP,none⟩) av qs h1 _ aD W h dj)
 cases aV:cb == mem
 case true=>
  have dP:=J hm
  rw [WY ((HM bE bj).trans aV)]
  rw [bE] at cW ⊢
  clear aD hm bE bj h1
  go_in
  go_wp2_with fail
  refine (cW.out _ (bf.ae az) (aW.ae az)).mono ?_
  rintro e bh ⟨rfl,br⟩
  have au:=be w br;have I:Below w w bh:=au;replace aW:=aW.ae au
  go_wp2_with fail
  refine (iG mem _ dP.out _).mono ?_
  rintro e w0 ⟨rfl,h0⟩
  rw [h0]
  clear h0 w0
  obtain⟨_,_,y,e9,fL,hy,cX⟩:=aW.at_ (Below.refl _ _) (k:=j) (by have:=eA.out;omega)
  cases e9
  obtain rfl:(⟨qr,cb,dp⟩ :aQ)= y:=Option.some.inj (dH.out.symm.trans hy)
  clear hy;have ch:=cX 0 _ rfl;have dq:=cX 1 _ rfl;have cZ:=cX 2 _ rfl
  simp only [Nat.add_zero] at ch
  have g0:=ch (ay.self _);have g1:=dq (ay.self _);have g2:=cZ (ay.self _)
  simp only [ay.self] at g0
  simp only [ay.self] at g1
  simp only [ay.self] at g2
  clear cX ch dq cZ
  go_wp2
  go_ret2
  exact⟨none,0,rfl,bd.nil,(aj I az)⟩
 case false=>
  have dP:=J hm
  rw [WZ aD hm ((HM bE bj).trans aV),Xa bE bj]
  have vQ:(qs.set j ⟨qr,cb,true⟩).length= j + 1:=by rw [List.length_set,bE]
  have Cp:=J vQ
  rw [bE] at cW ⊢
  clear aD hm bE bj h1 vQ
  go_in
  go_wp2_with fail
  refine (cW.out _ (bf.ae az) (aW.ae az)).mono ?_
  rintro e bh ⟨rfl,br⟩
  have au:=be w br;have I:Below w w bh:=au;replace aW:=aW.ae au
  go_wp2_with fail
  refine (iG mem _ dP.out _).mono ?_
  rintro e w0 ⟨rfl,h0⟩
  rw [h0]
  clear h0 w0
  obtain⟨_,_,y,e9,fL,hy,cX⟩:=aW.at_ (Below.refl _ _) (k:=j) (by have:=eA.out;omega)
  cases e9
  obtain rfl:(⟨qr,cb,dp⟩ :aQ)= y:=Option.some.inj (dH.out.symm.trans hy)
  clear hy;have ch:=cX 0 _ rfl;have dq:=cX 1 _ rfl;have cZ:=cX 2 _ rfl
  simp only [Nat.add_zero] at ch
  have g0:=ch (ay.self _);have g1:=dq (ay.self _);have g2:=cZ (ay.self _)
  simp only [ay.self] at g0
  simp only [ay.self] at g1
  simp only [ay.self] at g2
  clear cX ch dq cZ;have gh:=J (fun e u=>(aW.ae (bT bh (.cells #[] e))):∀(e:TypeId) (u:Unit),aS 3 aQ.cells (bh.alloc (.cells #[] e)) (some ⟨dY,gP,none⟩) qs);have sx:=I.size
  go_wp2_with ((at_builtin;refine tT rfl _ _ 37 rfl bh.heap.size 115 i0 _ 3 24 Tryz.underlying37 hi dn dC dz rfl (by decide) aQ.cells jz sq bh.heap.size rfl (aB.new _ _ _) (Nat.le_refl _) (some ⟨dY,gP,none⟩) av qs (j + 1) eA.out.symm rfl (gh.out _ ()) (fun h=>by cases h) (by have:=eA.out;unfold maxLen;omega) (by have:=eA.out;omega) ?_;intro bA cM mo fJ fh;have mV:Below bh bh mo:=aj (bT _ _) fh;have Ok:=mV.size;have afV:=(fJ.lt bA rfl).2;have afU:=zE fJ jz (j:=j) (i:=2) (by have:=eA.out;omega) (by decide);have apP:=qz fJ jz dH.out (i:=2) (u:= .bool dp) rfl))
  have afi:=zF fJ jz (y:=⟨qr,cb,true⟩) (u:= .bool true) (i:=2) dH.out (by decide) rfl;have qh:Below bh bh (mo.setCell ⟨bA,j * 3 + 2,none⟩ (.bool true)):=mV.setCell (by have:=(fJ.lt bA rfl).1;exact this) _
  go_wp2
  go_ret2
  refine⟨some ⟨bA,0,none⟩,cM,by simp only [iR,Option.getD_some,Cp.out];rfl,?_,aj I qh⟩
  have vJ:=afi.base (by omega:w.heap.size≤_);have e9:=Cp.out
  simp only [iR,Option.getD_some]
  rw [e9]
  first | exact vJ | (have e8:=eA.out;rw [e8] at vJ;exact vJ)
theorem Rf {rs:List aK} {qs:List aQ} (h:dt rs qs= false):kL rs qs= none:=by simp [kL,h]
theorem Kv {rs:List aK} {qs:List aQ} (h:dt rs qs= true) (h2:jx rs qs= false):kL rs qs= some qs:=by simp [kL,uo,h,h2]
theorem Re {rs:List aK} {qs:List aQ} (h:dt rs qs= true) (h2:jx rs qs= true):kL rs qs= some (qs.take (qs.length - 1)):=by simp [kL,uo,h,h2]
theorem ZV {p:Prop} (h:p:=by
 obtain⟨kS,cM,gz,aH,_,_⟩:=h.form hf
 injection gz with _ _ e3
 subst e3;exact aH):p:=h
theorem akr {T:Type} {sz:Nat} {f:T→List Value} {B:Nat} {e:TypeId} {w:World} {A:Option Addr} {n c:Nat} {xs:List T} (h:bd B e sz f w (.slice A n c) xs) (hf:∀y,(f y).length= sz):xs.length≤c:=by
 exact ZV
theorem Ry {T V:Type} {sz:Nat} {f:T→List V} (hf:∀y,(f y).length= sz):∀(xs:List T) (k:Nat),(xs.take k).flatMap f= (xs.flatMap f).take (k * sz)
 | [],k=>by simp
 | x ::xs,0=>by simp
 | x ::xs,k + 1=>by
  have er:=Ry hf xs k
  have aD:(k + 1) * sz= sz + k * sz:=by rw [Nat.succ_mul];omega
  simp only [List.take_succ_cons,List.flatMap_cons]
  rw [er,aD,List.take_append,hf,List.take_of_length_le (l:=f x) (by rw [hf];omega)]
  congr 2
  omega
theorem aku {T:Type} {B:Nat} {e:TypeId} {sz:Nat} {f:T→List Value} {w:World} {g n c:Nat} {xs:List T} (h:bd B e sz f w (.slice g n c) xs) (hf:∀y,(f y).length= sz) {k:Nat} (aD:k≤xs.length):bd B e sz f w (.slice g k c) (xs.take k):=by
 obtain⟨aT,h⟩:=h
 have hlen:(xs.take k).length= k:=by rw [List.length_take];omega
 have Be:(xs.take k).flatMap f= (xs.flatMap f).take (k * sz):=Ry hf xs k
 unfold bd
 rw [hlen,Be]
 refine⟨by rw [List.length_take,aT];have:=Nat.mul_le_mul_right sz aD;omega,?_⟩
 rcases h with ⟨e0,_⟩ | ⟨bA,cap,cur,e0,bG,fc,qo,mh,lA,vV⟩
 ·cases e0
 ·injection e0 with e1 e2 e3
  cases e1;subst e3
  refine .inr ⟨_,c,cur,rfl,bG,fc,by omega,mh,lA,?_⟩
  rw [← vV,List.take_take]
  congr 1
  have:=Nat.mul_le_mul_right sz aD
  omega
theorem ahu (aq:Option Addr) (c0:Nat) (rs:List aK) (h0:rs.length≤1048576) (fo:rs.length≤c0) (ar:Option Addr) (av:Nat) (qs:List aQ) (h1:qs.length≤1048576) (aX:ar= none→qs= []∧av= 0) (w:World) (bf:aS 7 aK.cells w aq rs) (aW:aS 3 aQ.cells w ar qs):Calls Tryz.prog 256 #[.slice aq rs c0,.slice ar qs av] w fun e ah=>∃A c,e= .returned (.tuple #[.slice A (iR (kL rs qs)).length c,.bool (kL rs qs).isSome])∧bd w 115 3 aQ.cells ah (.slice A (iR (kL rs qs)).length c) (iR (kL rs qs))∧Below w w ah:=by
 obtain⟨i0,hi,dn,dC,dz⟩:=info_parts si
 have po:=J aX;clear aX
 cases aN:dt rs qs
 ·have ea:=J aN
  rw [Rf aN]
  exact abi
 cases aT:jx rs qs
 ·have ea:=J aN
  have ft:Hid (lk rs qs= false):=J (by simp [lk,aT])
  rw [Kv aN aT]
  clear aN aT
  go_in
  go_wp2_with fail
  refine (mx aq c0 rs h0 fo ar av qs h1 _ ea.out _ (bf.ae az) (aW.ae az)).mono ?_
  rintro e bh ⟨rfl,br⟩
  have au:=be w br;have I:Below w w bh:=au;replace bf:=bf.ae au;replace aW:=aW.ae au;have aX:=po.out;have gh:=J (fun e u=>(aW.ae (bT bh (.cells #[] e))):∀(e:TypeId) (u:Unit),aS 3 aQ.cells (bh.alloc (.cells #[] e)) ar qs);have sx:=I.size;have Cy:=J (fun W bL=>⟨bf.ae bL,aW.ae bL⟩ :∀W,Below bh bh W→aS 7 aK.cells W aq rs∧aS 3 aQ.cells W ar qs)
  go_wp2_with ((first
   | (at_builtin;refine wE rfl _ _ 37 rfl bh.heap.size 115 i0 _ 3 24 Tryz.underlying37 hi dn dC dz rfl (by decide) aQ.cells jz sq bh.heap.size rfl (aB.new _ _ _) (Nat.le_refl _) ar av qs rfl (gh.out _ ()) aX (by unfold maxLen;omega) (by omega) ?_;intro bA cM mo fJ fh;have mV:Below bh bh mo:=aj (bT _ _) fh;have Ok:=mV.size;clear aX)))
  refine (zx aq c0 rs h0 fo ar av qs h1 _ ft.out _ (Cy.out _ mV).1 (Cy.out _ mV).2).mono ?_
  rintro e XP ⟨rfl,DQ⟩
  go_wp2
  go_ret2
  exact⟨some ⟨bA,0,none⟩,cM,rfl,(fJ.bm DQ).base (by omega),aj I (aj mV DQ)⟩
 ·have ft:Hid (lk rs qs= true):=J (by simp [lk,aN,aT])
  obtain⟨j,q,bE,bj⟩:=EH aT
  rw [Re aN aT]
  have eA:=J bE
  have ic:j≤1048576:=by omega
  have cW:=J (fun W h dj=>mx aq c0 rs h0 fo ar av qs h1 _ aN W h dj);have cC:=J (fun W h dj=>zx aq c0 rs h0 fo ar av qs h1 _ ft.out W h dj)
  have bu:(qs.take (qs.length - 1)).length= j:=by rw [List.length_take];omega
  have lX:=J bu
  have e1:qs.length - 1= j:=by omega
  rw [e1] at lX ⊢
  rw [bE] at cW cC ⊢
  clear aN aT bE bj bu e1 h1
  go_in
  go_wp2_with fail
  refine (cW.out _ (bf.ae az) (aW.ae az)).mono ?_
  rintro e bh ⟨rfl,br⟩
  have au:=be w br;have I:Below w w bh:=au;replace bf:=bf.ae au;replace aW:=aW.ae au;have aX:=po.out;have gh:=J (fun e u=>(aW.ae (bT bh (.cells #[] e))):∀(e:TypeId) (u:Unit),aS 3 aQ.cells (bh.alloc (.cells #[] e)) ar qs);have sx:=I.size;have Cy:=J (fun W bL=>⟨bf.ae bL,aW.ae bL⟩ :∀W,Below bh bh W→aS 7 aK.cells W aq rs∧aS 3 aQ.cells W ar qs)
  go_wp2_with ((first
   | (at_builtin;refine tT rfl _ _ 37 rfl bh.heap.size 115 i0 _ 3 24 Tryz.underlying37 hi dn dC dz rfl (by decide) aQ.cells jz sq bh.heap.size rfl (aB.new _ _ _) (Nat.le_refl _) ar av qs (j + 1) eA.out.symm rfl (gh.out _ ()) aX (by have:=eA.out;unfold maxLen;omega) (by have:=eA.out;omega) ?_;intro bA cM mo fJ fh;have mV:Below bh bh mo:=aj (bT _ _) fh;have Ok:=mV.size;clear aX)))
  have Sz:=akr fJ jz
  have mW:j + 1≤cM:=by have:=eA.out;omega
  clear Sz
  refine (cC.out _ (Cy.out _ mV).1 (Cy.out _ mV).2).mono ?_
  rintro e XP ⟨rfl,DQ⟩
  have dm:=J fJ;clear fJ
  go_wp2
  go_ret2
  refine⟨some ⟨bA,0,none⟩,cM,by simp only [iR,Option.getD_some,lX.out];rfl,?_,aj I (aj mV DQ)⟩
  have vJ:=aku ((dm.out.bm DQ).base (by omega:w.heap.size≤_)) jz (k:=j) (by have:=eA.out;omega)
  simp only [iR,Option.getD_some]
  rw [lX.out]
  exact vJ
open Go.RowKit Go.G9
theorem BI {T:Type} {sz:Nat} {f:T→List Value} {w:World} {A:Option Addr} {xs:List T} (h:aS sz f w A xs) (k:Nat):aS sz f w A (xs.take k):=by
 intro aY
 have Tj:0 < xs.length:=by rw [List.length_take] at aY;omega
 obtain⟨b,off,aX,bu,aH⟩:=h Tj
 exact⟨b,off,aX,bu,fun i x aw=>aH i x (by rw [List.getElem?_take] at aw;split at aw;exact aw;cases aw)⟩
theorem XV {rs:List aK} {qs:List aQ} {mem:Int} (h:dt rs qs= false):jX rs qs mem= none:=by simp [jX,h]
theorem aoa {rs:List aK} {qs:List aQ} {mem:Int} (aN:dt rs qs= true) (h:ey mem= false):jX rs qs mem= none:=by
 unfold jX
 rw [if_pos aN]
 cases hw:ng qs mem qs.length with
 | none=>rfl
 | some j=>
  obtain⟨q,bj,hm⟩:=Ov hw
  have:=VG aN bj
  rw [hm,h] at this;cases this
theorem XW {rs:List aK} {qs:List aQ} {mem:Int} (aN:dt rs qs= true):jX rs qs mem= (ng qs mem qs.length).map (fun k=>qs.take k):=by unfold jX;rw [if_pos aN]
theorem anZ {qs:List aQ} {mem:Int} {j:Nat} {q:aQ} (bj:qs[j]? =some q) (h:(q.mover == mem)= true):ng qs mem (j + 1)= some j:=by simp [ng,bj,h]
theorem anY {qs:List aQ} {mem:Int} {j:Nat} {q:aQ} (bj:qs[j]? =some q) (h:(q.mover == mem)= false):ng qs mem (j + 1)= ng qs mem j:=by simp [ng,bj,h]
theorem aaH {p:Prop} (h:p:=by
 obtain⟨j,vP⟩ :∃j,k= j + 1:=⟨k - 1,by omega⟩
 have e1:(k:Int) - 1= (j:Int):=by omega
 rw [e1]
 subst vP
 have agf:j < qs.length:=by omega
 clear e1 h0
 obtain⟨dY,gP,⟨qr,cb,dp⟩,rfl,ew,bj,mW⟩:=gh.out.at_ aF (k:=j) agf
 have ch:=mW 0 _ rfl;have dq:=mW 1 _ rfl;have cZ:=mW 2 _ rfl
 simp only [Nat.add_zero] at ch
 have g0:=ch (ay.self _);have g1:=dq (ay.self _);have g2:=cZ (ay.self _)
 simp only [ay.self] at g0
 simp only [ay.self] at g1
 simp only [ay.self] at g2
 have dH:=J bj;clear bj mW ch dq cZ
 cases aV:cb == mem
 ·have eZ:=J (mK.out.trans (anY dH.out aV))
  go_wp2
  go_roundw
  case rel=>exact⟨j,by omega,by go_num,eZ.out,aF⟩
  case measure=>(simp [intOf] <;> omega)
 ·have eZ:=J (mK.out.trans (anZ dH.out aV))
  have LP:j≤av:=by omega
  have bu:(qs.take j).length= j:=by rw [List.length_take];omega
  have lX:=J bu;clear bu;have pv:=J (fun e u=>((BI (gh.out.ae aF) j).ae (bT wr (.cells #[] e))):∀(e:TypeId) (u:Unit),aS 3 aQ.cells (wr.alloc (.cells #[] e)) _ (qs.take j))
  go_wp2_with ((at_builtin;refine tT rfl _ _ 37 rfl wr.heap.size 115 i0 _ 3 24 Tryz.underlying37 hi dn dC dz rfl (by decide) aQ.cells jz sq wr.heap.size rfl (aB.new _ _ _) (Nat.le_refl _) (some ⟨dY,gP,none⟩) av (qs.take j) j lX.out.symm rfl (pv.out _ ()) (fun h=>by cases h) (by have:=lX.out;unfold maxLen;omega) (by have:=lX.out;omega) ?_;intro bA cM mo fJ fh))
  have mV:Below wr wr mo:=aj (bT _ _) fh
  go_wp2
  go_ret2
  rw [eZ.out]
  refine⟨some ⟨bA,0,none⟩,cM,by simp only [iR,Option.map_some,Option.getD_some,lX.out];rfl,?_,aj I (aj aF mV)⟩
  have vJ:=fJ.base (by omega:w.heap.size≤_)
  simp only [iR,Option.map_some,Option.getD_some]
  exact vJ):p:=h
theorem TX (aq:Option Addr) (c0:Nat) (rs:List aK) (h0:rs.length≤1048576) (fo:rs.length≤c0) (ar:Option Addr) (av:Nat) (qs:List aQ) (h1:qs.length≤1048576) (hZ:qs.length≤av) (mem:Int) (w:World) (bf:aS 7 aK.cells w aq rs) (aW:aS 3 aQ.cells w ar qs):Calls Tryz.prog 255 #[.slice aq rs c0,.slice ar qs av,mem] w fun e ah=>∃A c,e= .returned (.tuple #[.slice A (iR (jX rs qs mem)).length c,.bool (jX rs qs mem).isSome])∧bd w 115 3 aQ.cells ah (.slice A (iR (jX rs qs mem)).length c) (iR (jX rs qs mem))∧Below w w ah:=by
 obtain⟨i0,hi,dn,dC,dz⟩:=info_parts si
 cases aN:dt rs qs
 ·have ea:=J aN
  rw [XV aN]
  clear aN
  go_in
  go_wp2_with fail
  refine (mx aq c0 rs h0 fo ar av qs h1 _ ea.out _ (bf.ae az) (aW.ae az)).mono ?_
  rintro e bh ⟨rfl,br⟩
  have au:=be w br;have I:Below w w bh:=au;replace bf:=bf.ae au;replace aW:=aW.ae au
  go_wp2
  go_ret2
  exact⟨none,0,rfl,bd.nil,(aj I az)⟩
 cases hm:ey mem
 ·have ea:=J aN;have dP:=J hm
  rw [aoa aN hm]
  clear aN hm
  go_in
  go_wp2_with fail
  refine (mx aq c0 rs h0 fo ar av qs h1 _ ea.out _ (bf.ae az) (aW.ae az)).mono ?_
  rintro e bh ⟨rfl,br⟩
  have au:=be w br;have I:Below w w bh:=au;replace bf:=bf.ae au;replace aW:=aW.ae au
  go_wp2_with fail
  refine (iG mem _ dP.out _).mono ?_
  rintro e w0 ⟨rfl,h0⟩
  rw [h0]
  clear h0 w0
  go_wp2
  go_ret2
  exact⟨none,0,rfl,bd.nil,(aj I az)⟩
 have ea:=J aN;have dP:=J hm
 rw [XW aN]
 clear aN hm
 go_in
 go_wp2_with fail
 refine (mx aq c0 rs h0 fo ar av qs h1 _ ea.out _ (bf.ae az) (aW.ae az)).mono ?_
 rintro e bh ⟨rfl,br⟩
 have au:=be w br;have I:Below w w bh:=au;replace bf:=bf.ae au;replace aW:=aW.ae au
 go_wp2_with fail
 refine (iG mem _ dP.out _).mono ?_
 rintro e w0 ⟨rfl,h0⟩
 rw [h0]
 clear h0 w0;have sx:=I.size;have gh:=J aW;clear bf aW
 go_wp2
 go_loopw [8] (fun i wr=>∃k:Nat,k≤qs.length∧i= .int .i64 ((k:Int) - 1)∧ng qs mem qs.length= ng qs mem k∧Below bh bh wr) (fun i _=>(intOf i + 1).toNat)
 case atStart=>exact⟨qs.length,Nat.le_refl _,rfl,rfl,Below.refl _ _⟩
 case round=>
  obtain⟨k,aD,rfl,hw,aF⟩:=hrel
  have mK:=J hw;clear hw;have XC:=aF.size
  by_cases h0:0 < k
  ·exact aaH
  ·obtain rfl:k= 0:=by omega
   have eZ:Hid (ng qs mem qs.length= none):=J mK.out
   go_wp2
   go_ret2
   rw [eZ.out]
   exact⟨none,0,rfl,bd.nil,aj I aF⟩
open Go.RowKit Go.G9
theorem Fe {T:Type} {sz:Nat} {f:T→List Value} {w:World} {b off:Nat} {xs:List T} (h:aS sz f w (some ⟨b,off,none⟩) xs) (k:Nat):aS sz f w (some ⟨b,off + k * sz,none⟩) (xs.drop k):=by
 intro h0
 obtain⟨dc,uK,h1,h2,h3⟩:=h (by rw [List.length_drop] at h0;omega)
 injection h1 with h1;injection h1 with h4 h5;subst h4;subst h5
 refine⟨b,off + k * sz,rfl,h2,fun i x aw j u hu=>?_⟩
 rw [List.getElem?_drop] at aw
 have h6:=h3 (k + i) x aw j u hu
 rw [Nat.add_mul] at h6
 rw [← h6];congr 2;omega
theorem tN {T:Type} {sz:Nat} {f:T→List Value} {w:World} {b off:Nat} {xs:List T} (h:aS sz f w (some ⟨b,off,none⟩) xs) {k:Nat} {x:T} (aw:xs[k]? =some x) {i:Nat} {u:Value} (hu:(f x)[i]? =some u):w.cell? ⟨b,off + k * sz + i,none⟩ =some u:=by
 obtain⟨dc,uK,h1,h2,h3⟩:=h (by have:=(List.getElem?_eq_some_iff.1 aw).1;omega)
 injection h1 with h1;injection h1 with h4 h5;subst h4;subst h5
 exact h3 k x aw i u hu
def sE {T:Type} (e:TypeId) (sz:Nat) (f:T→List Value) (m1 m2:Nat) (xs:List T) (k:Nat) (cs:Array Value):kq (Option Addr×Nat) where
 par:=fun n=>if n= m1 then [0] else []
 val:=fun n p=>if n= 0 then .slice p.1 0 0 else if n= m1 then .slice p.1 k p.2 else if n= m2 then .slice p.1 1 1 else undef
 post:=fun n bl p cN V=>(n= 0→p.1= some ⟨cN.heap.size,0,none⟩∧aB V cN.heap.size e #[])∧
  (n= m1→∃g bA,(bl 0).1= some ⟨g,0,none⟩∧p.1= some ⟨bA,0,none⟩∧bd g e sz f V (.slice p.1 (xs.take k).length p.2) (xs.take k))∧
  (n= m2→∃g,p.1= some ⟨g,0,none⟩∧cN.heap.size= g∧aB V g e cs)
theorem adT {A:Option Addr} {c k:Nat} {ad:List aO} {f:Addr→Addr} (aY:A= none→ad= []∧c= 0) (aD:k= ad.length) (h:(if c= k then A else A.map f)= none):ad.drop k= []∧c - k= 0:=by
 refine⟨List.drop_of_length_le (by omega),?_⟩
 cases A with
 | none=>have:=(aY rfl).2;omega
 | some iV=>split at h <;> cases h
theorem Ux (ag af sp:Int) (an:Option Addr) (c2:Nat) (ws:List Int) (ao:Option Addr) (c3:Nat) (ad:List aO) (h2:ws.length≤1048576) (h3:ad.length≤1048576) (n2:an= none→ws= []∧c2= 0) (n3:ao= none→ad= []∧c3= 0) (ef:ad.length≤c3) (sm st cm:Int) (w:World) (bw:aS 1 bV w an ws) (bt:aS 3 aO.cells w ao ad):
 Calls Tryz.prog 290 #[.agg #[ag,af,sp,.slice an ws c2,.slice ao ad c3],.agg #[sm,st,cm]] w fun e ah=>∃aZ d2 bk d3,e= .returned (.agg #[ag,af,sp,.slice aZ ws d2,.slice bk (eW ad ⟨sm,st,cm⟩).length d3])∧jC w.heap.size ah aZ d2 bk d3 ws (eW ad ⟨sm,st,cm⟩)∧Below w w ah:=by
 obtain⟨i0,hi,dn,dC,dz⟩:=info_parts Bp
 have dQ:=J bw;have cQ:=J bt;have iU:=J n2;have iK:=J n3;clear bw bt n2 n3
 go_in
 go_upto_region 1 with fail
 refine fv fun aG au ai bH U=>?_
 have I:=au
 obtain⟨f0,f1,f2,f3,f4⟩:=ai.aM
 obtain⟨jg,s1,s2⟩:=bH.cq
 have ak:=U.aM;have fQ:=U.lt
 go_wp2_with fail
 refine (EE ag af sp an c2 ws ao c3 ad h2 h3 iU.out iK.out _ (dQ.out.ae (aj I az)) (cQ.out.ae (aj I az))).mono ?_
 rintro e aJ ⟨aZ,d2,bk,d3,rfl,di,aL⟩
 have al:=be aG aL;replace I:=aj I al;replace ai:=ai.to al;clear f0 f1 f2 f3 f4
 obtain⟨f0,f1,f2,f3,f4⟩:=ai.aM
 replace bH:=bH.to al;clear jg s1 s2
 obtain⟨jg,s1,s2⟩:=bH.cq
 replace U:=U.to al;clear ak;have ak:=U.aM;have uX:=al.size;have tR:=I.size
 go_upto_region 2 with fail
 have Qh:=(di.fi.bm (bT aJ (.cells #[ag,af,sp,.slice aZ ws d2,.slice bk ad d3] 41))).base (B':=w.heap.size) (by omega);clear di;have aP:Below aJ aJ (World.alloc aJ (.cells #[ag,af,sp,.slice aZ ws d2,.slice bk ad d3] 41)):=bT aJ _
 have aR:=aB.new aJ 41 #[ag,af,sp,.slice aZ ws d2,.slice bk ad d3]
 generalize World.alloc aJ (.cells #[ag,af,sp,.slice aZ ws d2,.slice bk ad d3] 41)= XQ at *
 replace I:=aj I aP
 obtain⟨dd,dT,dN,eg,eh⟩:=aR.aM
 clear f0 f1 f2 f3 f4;replace ai:=ai.to aP
 obtain⟨f0,f1,f2,f3,f4⟩:=ai.aM
 clear jg s1 s2;replace bH:=bH.to aP
 obtain⟨jg,s1,s2⟩:=bH.cq
 clear ak;replace U:=U.to aP;have ak:=U.aM;have pb:=aR.lt;have bI:=Qh;clear Qh;have cC:=J ai;have dU:=J bH;have bg:=J U;have cc:=J aR;have hs:=J bI;have og:=J I;clear ai bH U aR bI f0 f1 f2 f3 f4 jg s1 s2 ak dd dT dN eg eh
 go_wp2
 go_loopw [6] (fun i wr=>∃k:Nat,k≤ad.length∧i= .int .i64 k∧(∀j x,j < k→ad[j]? =some x→x.mem < sm)∧Below XQ XQ wr) (fun i _=>ad.length - (intOf i).toNat)
 case atStart=>exact⟨0,Nat.zero_le _,rfl,fun j x h=>absurd h (by omega),Below.refl _ _⟩
 case round=>
  obtain⟨k,aD,rfl,aT,aF⟩:=hrel
  have cB:=J aT;clear aT;have fK:=cC.out.ae aF cC.out.lt;have gZ:=dU.out.ae aF dU.out.lt
  have c4:=fun K:ay wr.heap.size wr=>((fK.ae K.ae fK.lt).cell 4).trans (show _= some (.slice ao ad c3) from rfl)
  have jg:=fun K:ay wr.heap.size wr=>((gZ.ae K.ae gZ.lt).cell 0).trans (show _= some (.int .i64 sm) from rfl)
  rcases (show (∃x,ad[k]? =some x∧x.mem < sm)∨(∃x,ad[k]? =some x∧x.mem= sm)∨(∃x,ad[k]? =some x∧sm < x.mem)∨k= ad.length by
   by_cases bu:k < ad.length
   ·have h:=List.getElem?_eq_getElem bu
    rcases (show (ad[k]).mem < sm∨(ad[k]).mem= sm∨sm < (ad[k]).mem by omega) with g | g | g
    ·exact .inl ⟨_,h,g⟩
    ·exact .inr (.inl ⟨_,h,g⟩)
    ·exact .inr (.inr (.inl ⟨_,h,g⟩))
   ·exact .inr (.inr (.inr (by omega)))) with ⟨⟨dO,iA,xS⟩,aw,hm⟩ | ⟨⟨dO,iA,xS⟩,aw,hm⟩ | ⟨⟨dO,iA,xS⟩,aw,hm⟩ | SX
  case' inl=>
   have bu:k < ad.length:=(List.getElem?_eq_some_iff.1 aw).1
   obtain⟨fa,fO,bF,hA3,_,pa,qm⟩:=(cQ.out.ae og.out).at_ aF bu
   clear qm pa bF
   subst hA3
   have dd:=fun K:ay wr.heap.size wr=>(tN (cQ.out.ae (aj (aj og.out aF) K.ae)) aw (i:=0) (u:= .int .i64 dO) rfl)
   simp only [Nat.add_zero] at dd
   have sM:=J aw;clear aw
   go_wp2
   refine eK (by kernel_rfl) (by kernel_rfl) ?_
   repeat (go_big_quiet_step ((fail)))
   refine wpQuiet_nil ?_
   intro K
   clear c4 jg dd fK gZ
   go_wp2
   go_roundw
   case rel=>exact⟨k + 1,by omega,by go_num,fun j y bE hy=>by
    by_cases e:j= k
    ·subst e;rw [sM.out] at hy;cases hy;exact hm
    ·exact cB.out j y (by omega) hy,aj aF K.ae⟩
   case measure=>simp [intOf];omega
  case' inr.inl=>
   have bu:k < ad.length:=(List.getElem?_eq_some_iff.1 aw).1
   obtain⟨fa,fO,bF,hA3,_,pa,qm⟩:=(cQ.out.ae og.out).at_ aF bu
   clear qm pa bF
   subst hA3
   have dd:=fun K:ay wr.heap.size wr=>(tN (cQ.out.ae (aj (aj og.out aF) K.ae)) aw (i:=0) (u:= .int .i64 dO) rfl)
   simp only [Nat.add_zero] at dd
   have sM:=J aw;clear aw
   go_wp2
   refine eK (by kernel_rfl) (by kernel_rfl) ?_
   repeat (go_big_quiet_step ((fail)))
   refine wpQuiet_nil ?_
   intro K
   clear c4 jg dd fK gZ;have kt:=aj aF K.ae
   generalize K.world= mq at *
   have fK:=cC.out.ae kt cC.out.lt;have gZ:=dU.out.ae kt dU.out.lt;have f4:=(fK.cell 4).trans (show _= some (.slice (some ⟨fa,fO,none⟩) ad c3) from rfl)
   have LB:¬c3= k:=by omega
   go_upto_region 6 with fail
   have dd:=fun K:ay mq.heap.size mq=>(tN (cQ.out.ae (aj (aj og.out kt) K.ae)) sM.out (i:=0) (u:= .int .i64 dO) rfl)
   have jg:=fun K:ay mq.heap.size mq=>((gZ.ae K.ae gZ.lt).cell 0).trans (show _= some (.int .i64 sm) from rfl)
   simp only [Nat.add_zero] at dd
   have Hf:decide (0 < ad.length - k)= true:=decide_eq_true (by omega)
   have yS:k≤c3:=by omega
   clear f4 fK gZ
   refine eK (by kernel_rfl) (by kernel_rfl) ?_
   repeat (go_big_quiet_step ((fail)))
   refine wpQuiet_nil ?_
   intro K
   clear jg dd Hf;have iO:=aj kt K.ae
   generalize K.world= hJ at *
   go_upto_region 8 with fail
   obtain⟨rest,iQ⟩ :∃l,l= ad.drop (k + 1):=⟨_,rfl⟩
   have nG:Hid (eW ad ⟨sm,st,cm⟩ =ad.take k ++ [(⟨sm,st,cm⟩ :aO)] ++ rest):=J (by rw [iQ];rw [BO (k:=k) (by omega) cB.out (fun y hy=>by rw [sM.out] at hy;cases hy;have h:dO= sm:=hm;show¬dO < sm;omega),sM.out];have h:dO= sm:=hm;simp [h]);have mJ:Hid (rest.length= (ad.length - k - 1)):=J (by rw [iQ];rw [List.length_drop];omega);have pr:Hid (aS 3 aO.cells w (if c3 - k= 1 then (some ⟨fa,fO + k * 3,none⟩ :Option Addr) else some ⟨fa,fO + k * 3 + 3,none⟩) rest):=J (by rw [iQ];split <;> first | (rw [List.drop_of_length_le (by omega)];exact aS.nil) | (have h:=Fe cQ.out (k + 1);rw [Nat.add_mul,Nat.one_mul,← Nat.add_assoc] at h;exact h))
   have Jw:Hid ((if c3 - k= 1 then (some ⟨fa,fO + k * 3,none⟩ :Option Addr) else some ⟨fa,fO + k * 3 + 3,none⟩)= none→rest= []∧(c3 - k - 1)= 0):=J (fun h=>by split at h <;> cases h);clear iQ
   generalize (if c3 - k= 1 then (some ⟨fa,fO + k * 3,none⟩ :Option Addr) else some ⟨fa,fO + k * 3 + 3,none⟩)= JZ at *
   have Tt:(ad.length - k - 1)≤1048576:=by omega
   generalize (ad.length - k - 1)= Wp at *
   generalize (c3 - k - 1)= rc at *
   generalize (some ⟨fa,fO,none⟩ :Option Addr)= ao at *
   clear sM bu LB hm
  case' inr.inr.inl=>
   have bu:k < ad.length:=(List.getElem?_eq_some_iff.1 aw).1
   obtain⟨fa,fO,bF,hA3,_,pa,qm⟩:=(cQ.out.ae og.out).at_ aF bu
   clear qm pa bF
   subst hA3
   have dd:=fun K:ay wr.heap.size wr=>(tN (cQ.out.ae (aj (aj og.out aF) K.ae)) aw (i:=0) (u:= .int .i64 dO) rfl)
   simp only [Nat.add_zero] at dd
   have sM:=J aw;clear aw;have Bj:decide (dO < sm)= false:=decide_eq_false (by have h:sm < dO:=hm;omega)
   go_wp2
   refine eK (by kernel_rfl) (by kernel_rfl) ?_
   repeat (go_big_quiet_step ((fail)))
   refine wpQuiet_nil ?_
   intro K
   clear c4 jg dd Bj fK gZ;have kt:=aj aF K.ae
   generalize K.world= mq at *
   have fK:=cC.out.ae kt cC.out.lt;have gZ:=dU.out.ae kt dU.out.lt;have f4:=(fK.cell 4).trans (show _= some (.slice (some ⟨fa,fO,none⟩) ad c3) from rfl)
   have LB:¬c3= k:=by omega
   go_upto_region 6 with fail
   have dd:=fun K:ay mq.heap.size mq=>(tN (cQ.out.ae (aj (aj og.out kt) K.ae)) sM.out (i:=0) (u:= .int .i64 dO) rfl)
   have jg:=fun K:ay mq.heap.size mq=>((gZ.ae K.ae gZ.lt).cell 0).trans (show _= some (.int .i64 sm) from rfl)
   simp only [Nat.add_zero] at dd
   have Hf:decide (0 < ad.length - k)= true:=decide_eq_true (by omega)
   have yS:k≤c3:=by omega
   clear f4 fK gZ;have tm:(dO == sm)= false:=beq_eq_false_iff_ne.2 (by have h:sm < dO:=hm;omega)
   refine eK (by kernel_rfl) (by kernel_rfl) ?_
   repeat (go_big_quiet_step ((fail)))
   refine wpQuiet_nil ?_
   intro K
   clear jg dd tm Hf;have iO:=aj kt K.ae
   generalize K.world= hJ at *
   go_upto_region 8 with fail
   obtain⟨rest,iQ⟩ :∃l,l= ad.drop k:=⟨_,rfl⟩
   have nG:Hid (eW ad ⟨sm,st,cm⟩ =ad.take k ++ [(⟨sm,st,cm⟩ :aO)] ++ rest):=J (by rw [iQ];rw [BO (k:=k) (by omega) cB.out (fun y hy=>by rw [sM.out] at hy;cases hy;have h:sm < dO:=hm;show¬dO < sm;omega),sM.out];have h:¬dO= sm:=(by have h:sm < dO:=hm;omega);simp [h]);have mJ:Hid (rest.length= (ad.length - k)):=J (by rw [iQ];rw [List.length_drop])
   have pr:Hid (aS 3 aO.cells w (some ⟨fa,fO + k * 3,none⟩ :Option Addr) rest):=J (by rw [iQ];exact Fe cQ.out k);have Jw:Hid ((some ⟨fa,fO + k * 3,none⟩ :Option Addr)= none→rest= []∧(c3 - k)= 0):=J (fun h=>by cases h);clear iQ
   generalize (some ⟨fa,fO + k * 3,none⟩ :Option Addr)= JZ at *
   have Tt:(ad.length - k)≤1048576:=by omega
   generalize (ad.length - k)= Wp at *
   generalize (c3 - k)= rc at *
   generalize (some ⟨fa,fO,none⟩ :Option Addr)= ao at *
   clear sM bu LB hm
  case' inr.inr.inr=>
   have xr:¬k < ad.length:=by omega
   have Ae:=J SX
   have afX:¬0 < ad.length - k:=by omega
   clear SX
   go_wp2
   refine eK (by kernel_rfl) (by kernel_rfl) ?_
   repeat (go_big_quiet_step ((fail)))
   refine wpQuiet_nil ?_
   intro K
   clear c4 jg fK gZ;have kt:=aj aF K.ae
   generalize K.world= mq at *
   have fK:=cC.out.ae kt cC.out.lt;have f4:=(fK.cell 4).trans (show _= some (.slice ao ad c3) from rfl)
   go_upto_region 6 with fail
   have yS:k≤c3:=by omega
   clear f4 fK
   refine eK (by kernel_rfl) (by kernel_rfl) ?_
   repeat (go_big_quiet_step ((fail)))
   refine wpQuiet_nil ?_
   intro K
   clear afX xr;have iO:=aj kt K.ae
   generalize K.world= hJ at *
   go_upto_region 8 with fail
   obtain⟨rest,iQ⟩ :∃l,l= ad.drop k:=⟨_,rfl⟩
   have nG:Hid (eW ad ⟨sm,st,cm⟩ =ad.take k ++ [(⟨sm,st,cm⟩ :aO)] ++ rest):=J (by rw [iQ];rw [BO (k:=k) (by omega) cB.out (fun y hy=>by have h1:=(List.getElem?_eq_some_iff.1 hy).1;have h2:=Ae.out;omega),List.getElem?_eq_none (by have h2:=Ae.out;omega)];simp;have h2:=Ae.out;omega);have mJ:Hid (rest.length= (ad.length - k)):=J (by rw [iQ];rw [List.length_drop])
   have pr:Hid (aS 3 aO.cells w (if c3= k then ao else Option.map (fun x=>x.add (k * 3)) ao) rest):=J (by rw [iQ];rw [List.drop_of_length_le (by have h2:=Ae.out;omega)];exact aS.nil);have Jw:Hid ((if c3= k then ao else Option.map (fun x=>x.add (k * 3)) ao)= none→rest= []∧(c3 - k)= 0):=J (fun h=>by rw [iQ];exact adT iK.out Ae.out h);clear iQ
   generalize (if c3= k then ao else Option.map (fun x=>x.add (k * 3)) ao)= JZ at *
   have Tt:(ad.length - k)≤1048576:=by omega
   generalize (ad.length - k)= Wp at *
   generalize (c3 - k)= rc at *
   clear Ae
  all_goals
   have mb:Hid ((ad.take k).length= k):=J (by rw [List.length_take];omega);have pv:Hid (aS 3 aO.cells w ao (ad.take k)):=J (BI cQ.out k);have acf:Hid (ao= none→ad.take k= []∧c3= 0):=J (fun h=>⟨by simp [(iK.out h).1],(iK.out h).2⟩);have ai:=cC.out.ae iO cC.out.lt;have bH:=dU.out.ae iO dU.out.lt;have U:=bg.out.ae iO bg.out.lt;have aR:=cc.out.ae iO cc.out.lt
   have bI:=hs.out.bm iO;have I:=aj og.out iO;have anK:=I.size;have aqz:=iO.size
   obtain⟨f0,f1,f2,f3,f4⟩:=ai.aM
   obtain⟨jg,s1,s2⟩:=bH.cq
   have ak:=U.aM
   obtain⟨dd,dT,dN,eg,eh⟩:=aR.aM
   obtain⟨od,xe⟩ :∃X:World→Prop,∀V,X V↔(Below w w V∧aB V (w.heap.size) 41 #[ag,af,sp,.slice an ws c2,.slice ao ad c3]∧aB V ((w.heap.size + 1)) 214 #[sm,st,cm]∧aB V (aJ.heap.size) 41 #[ag,af,sp,.slice aZ ws d2,.slice bk ad d3]):=⟨_,fun _=>Iff.rfl⟩
   have iC:=J xe;clear xe
   haveI:Nonempty (cH od):=⟨⟨hJ,((iC.out _).2 ⟨I,ai,bH,aR⟩)⟩⟩
   clear f0 f1 f2 f3 f4;clear jg s1 s2;clear ak;clear dd dT dN eg eh
   obtain⟨f0,f1,f2,f3,f4⟩:=aB.jH (fun K:cH od=>((iC.out _).1 K.holds).2.1)
   obtain⟨jg,s1,s2⟩:=aB.jv (fun K:cH od=>((iC.out _).1 K.holds).2.2.1)
   obtain⟨dd,dT,dN,eg,eh⟩:=aB.jH (fun K:cH od=>((iC.out _).1 K.holds).2.2.2)
   refine Fw (sE 214 3 aO.cells 5 7 ad k #[sm,st,cm]) od [([],0),([1,2,3,4],5),([6],7)] [9] [([],[],8,false),([],[],10,false),([],[11],12,true)] [] [] (by kernel_rfl) (by kernel_rfl) ((iC.out _).2 ⟨I.drew,ai,bH,aR⟩) (fun W eF h k=>((iC.out _).2 ⟨((iC.out _).1 h).1.trans (k.mono ((iC.out _).1 h).1.size),((iC.out _).1 h).2.1.ae k ((iC.out _).1 h).2.1.lt,((iC.out _).1 h).2.2.1.ae k ((iC.out _).1 h).2.2.1.lt,((iC.out _).1 h).2.2.2.ae k ((iC.out _).1 h).2.2.2.lt⟩)) ?_
   intro bl
   refine hI (some 46) rfl (.slice (bl 0).1 0 0) rfl fun hz eb=>?_
   change wpQuiet _ _ _ _ ([]) _
   refine wpQuiet_nil ?_
   refine⟨fun hZ fq=>?_,eb _ ?_⟩
   ·change wpList _ _ _ (_ ::[]) _ _
    go_wp2
    first | exact hA ⟨(some ⟨hZ.world.heap.size,0,none⟩,0),rfl,bT _ _,by simp [sE];exact aB.new _ _ _⟩ | exact hA ⟨some ⟨hZ.world.heap.size,0,none⟩,0,rfl,bT _ _,by simp [sE];exact aB.new _ _ _⟩
   simp only [Act.put]
   go_simp
   refine hI (some 51) rfl (.slice (bl 5).1 k (bl 5).2) rfl fun hz eb=>?_
   change wpQuiet _ _ _ _ (_ ::_ ::_ ::_ ::[]) _
   repeat (go_big_quiet_step (fail))
   refine wpQuiet_nil ?_
   refine⟨fun hZ fq=>?_,eb _ ?_⟩
   ·change wpList _ _ _ (_ ::[]) _ _
    obtain⟨gI,rN,oq,Sg,kN⟩:=fq 0 (by simp [sE])
    obtain⟨lb,kM⟩:=Sg.1 rfl
    have kO:=kM.to kN;have jI:(bl 0).1= some ⟨gI.heap.size,0,none⟩:=lb;have oi:=J (pv.out.ae ((iC.out _).1 hZ.holds).1);have oh:=J kO;clear kO kM lb oq kN Sg fq
    rw [jI]
    have lu:=J jI;clear jI
    go_wp2_with ((at_builtin;refine tT rfl _ _ 39 rfl gI.heap.size 214 i0 _ 3 24 Tryz.underlying39 hi dn dC dz rfl (by decide) aO.cells ig uT gI.heap.size rfl oh.out (Nat.le_refl _) ao c3 (ad.take k) k mb.out.symm rfl oi.out acf.out (by have:=mb.out;unfold maxLen;omega) (by have:=mb.out;omega) ?_;intro bA cM ah fJ fh))
    first | exact hA ⟨(some ⟨bA,0,none⟩,cM),rfl,fh,by simp [sE],fun _=>⟨gI.heap.size,bA,lu.out,rfl,fJ⟩,by simp [sE]⟩ | exact hA ⟨some ⟨bA,0,none⟩,cM,rfl,fh,by simp [sE],fun _=>⟨gI.heap.size,bA,lu.out,rfl,fJ⟩,by simp [sE]⟩
   simp only [Act.put]
   go_simp
   refine hI (some 53) rfl (.slice (bl 7).1 1 1) rfl fun hz eb=>?_
   change wpQuiet _ _ _ _ (_ ::[]) _
   repeat (go_big_quiet_step (fail))
   refine wpQuiet_nil ?_
   refine⟨fun hZ fq=>?_,eb _ ?_⟩
   ·change wpList _ _ _ (_ ::[]) _ _
    go_wp2
    first | exact hA ⟨(some ⟨hZ.world.heap.size,0,none⟩,0),rfl,bT _ _,by simp [sE],by simp [sE],fun _=>⟨hZ.world.heap.size,rfl,rfl,aB.new _ _ _⟩⟩ | exact hA ⟨some ⟨hZ.world.heap.size,0,none⟩,0,rfl,bT _ _,by simp [sE],by simp [sE],fun _=>⟨hZ.world.heap.size,rfl,rfl,aB.new _ _ _⟩⟩
   simp only [Act.put]
   go_simp
   refine qJ ?_
   change wpQuiet _ _ _ _ (_ ::[]) _
   repeat (go_big_quiet_step (fail))
   refine wpQuiet_nil ?_
   intro cN V W aU bL
   obtain⟨g0,g5,e0,e5,xF⟩ :∃g bA,(bl 0).1= some ⟨g,0,none⟩∧(bl 5).1= some ⟨bA,0,none⟩∧bd g 214 3 aO.cells (V 5) (.slice (bl 5).1 (ad.take k).length (bl 5).2) (ad.take k):=(aU.post 5 (by simp)).2.1 rfl
   obtain⟨a0,_⟩ :(bl 0).1= some ⟨(cN 0).heap.size,0,none⟩∧aB (V 0) (cN 0).heap.size 214 #[]:=(aU.post 0 (by simp)).1 rfl
   obtain⟨g7,e7,u7,wq⟩ :∃g,(bl 7).1= some ⟨g,0,none⟩∧(cN 7).heap.size= g∧aB (V 7) g 214 #[sm,st,cm]:=(aU.post 7 (by simp)).2.2 rfl
   have t0:(cN 0).heap.size= g0:=by rw [a0] at e0;exact congrArg Addr.block (Option.some.inj e0)
   have iu:=(xF.bm (aU.bm 5 (by simp))).base (B':=hJ.heap.size) (by rw [← t0];exact (aU.lN 0 (by simp)).size);have aqi:=bH.lt;have yF:=wq.ae (aU.bm 7 (by simp)) wq.lt;have yZ:Below hJ hJ W:=(aU.whole 5 (by simp)).oM;clear f0 f1 f2 f3 f4;clear jg s1 s2;clear dd dT dN eg eh;have cK:Below hJ hJ W:=aj az (aU.whole 5 (by simp)).oM
   replace I:=aj I cK;replace bI:=bI.bm cK;replace ai:=ai.to cK;replace bH:=bH.to cK;replace U:=U.to cK;have ak:=U.aM;replace aR:=aR.to cK
   obtain⟨dd,dT,dN,eg,eh⟩:=aR.aM
   clear aU xF wq a0 e0 t0 u7 bL
   generalize bl 5= tL at *
   generalize bl 7= Nw at *
   obtain⟨Pj,d5⟩:=tL
   obtain⟨Pk,d7⟩:=Nw
   simp only at iu e5 e7
   subst e5
   subst e7
   rw [mb.out] at iu
   have acx:Hid (aS 3 aO.cells W (some ⟨g7,0,none⟩) [(⟨sm,st,cm⟩ :aO)]):=J (fun _=>⟨g7,0,rfl,yF.lt,fun i y hy j u hu=>by
    have h0:i= 0:=by have:=(List.getElem?_eq_some_iff.1 hy).1;simp at this;omega
    subst h0;simp at hy;subst hy
    rw [Nat.zero_mul,Nat.zero_add]
    exact (yF.cell _).trans (by simpa [aO.cells] using hu)⟩)
   have afL:=iu.wj aR (by decide);have afM:=iu.wj U (by decide);have Sq:=bI.apart iu (by decide);have SF:=iu.lt g5 rfl;have Ol:=I.size;have zW:=yZ.size;have Jr:=J ai;have JI:=J bH;have afK:=iu.wj ai (by decide);have wR:=J aR;have ja:=J U;have lY:=J iu;have et:=J I;have JB:=J bI;have abD:=J Sq;clear yF aR U ai bH iu bI I Sq ak dd dT dN eg eh
   haveI:Nonempty (cH (fun _=>True)):=⟨⟨w,trivial⟩⟩
   refine oa fun fT dv=>?_
   refine wpQuiet_nil ?_
   refine wpQuiet_nil ?_
   change wpList _ _ _ (_ ::[]) _ _
   have ach:Hid (bd hJ 214 3 aO.cells W (.slice g5 k d5) (ad.take k)):=lY
   go_wp2_with ((at_builtin;refine kC rfl _ _ 39 rfl hJ.heap.size 214 i0 _ 3 24 Tryz.underlying39 hi dn dC dz rfl (by decide) aO.cells ig uT _ (ad.take k) rfl ach.out ⟨g7,0,none⟩ 1 ⟨sm,st,cm⟩ rfl acx.out (by have:=mb.out;unfold maxLen;omega) (by have:=mb.out;omega) zW ?_;intro XN nE pJ tq aft;clear aft;obtain⟨aoz,aqE,rfl,q1,gv,mm⟩:=pJ.form ig;clear q1 gv mm;have Tb:(ad.take k ++ [(⟨sm,st,cm⟩ :aO)]).length= k + 1:=(by rw [List.length_append,mb.out];rfl);rw [Tb] at pJ;clear Tb))
   have GQ:=Jr.out.kb tq (fun e=>afK (Option.some.inj e));have Lk:=JI.out.kb tq (fun e=>by have h9:w.heap.size + 1= g5:=Option.some.inj e;omega);have te:=wR.out.kb tq (fun e=>afL (Option.some.inj e));have ra:=ja.out.kb tq (fun e=>afM (Option.some.inj e));have JU:=JB.out.kept tq (fun k aD e=>abD.out k aD e);have yc:Below w w nE:=et.out.grown tq Ol (fun q bj=>by have h9:g5= q:=Option.some.inj bj;omega)
   have SH:=pJ.cu te;have SI:=pJ.cu ra;have Sr:=JU.apart pJ (by decide);have SG:=pJ.lt;have anE:=yc.size;have anF:=Nat.le_trans zW tq.size;have SE:=pJ.cu GQ;have RN:=((iC.out _).2 ⟨yc,GQ,Lk,te⟩);have Jr:=J GQ;have JI:=J Lk;have abK:=J SE;have wR:=J te;have ja:=J ra;have FQ:=J pJ;have et:=J yc;have JB:=J JU
   have abE:=J Sr;have abL:=J SH;have abM:=J SI;have Py:=J SG;clear te ra pJ JU yc Sr SH SI SG tq GQ Lk SE
   refine wV RN (dv _ _ ?_)
   clear RN
   refine oa fun CF tb=>?_
   refine wpQuiet_nil ?_
   refine wpQuiet_nil ?_
   change wpList _ _ _ (_ ::[]) _ _
   try simp only [Act.put]
   try go_simp
   have wP:=J (pr.out.ae et.out)
   go_wp2_with ((at_builtin;refine IN rfl _ _ 39 rfl hJ.heap.size 214 i0 _ 3 24 Tryz.underlying39 hi dn dC dz rfl (by decide) aO.cells ig uT _ (ad.take k ++ [(⟨sm,st,cm⟩ :aO)]) rfl FQ.out JZ rc rest (by rw [mJ.out];rfl) wP.out Jw.out (by have h1:=mJ.out;have h2:=mb.out;rw [List.length_append,h1,h2];simp only [List.length_cons,List.length_nil];unfold maxLen;omega) (by have h1:=mJ.out;have h2:=mb.out;rw [List.length_append,h1,h2];simp only [List.length_cons,List.length_nil];omega) anF ?_;intro v10 IH vI uz;rw [← nG.out] at vI;obtain⟨Y,gV,rfl,q1,gv,mm⟩:=vI.form ig;clear q1 gv mm))
   have Dy:=Jr.out.kb uz (fun e=>abK.out _ e.symm rfl);have afn:=JI.out.kb uz (fun e=>by have h9:=(Py.out _ e.symm).1;omega);have dR:=wR.out.kb uz (fun e=>abL.out _ e.symm rfl);have bK:=ja.out.kb uz (fun e=>abM.out _ e.symm rfl);have bI:=JB.out.kept uz (fun k aD e=>abE.out k aD e);have bD:=vI;have I:=et.out.grown uz anE (fun q bj=>by have:=(Py.out q bj).1;omega)
   clear uz vI
   refine wV ((iC.out _).2 ⟨I,Dy,afn,dR⟩) (tb _ _ ?_)
   refine oa fun aov afd=>?_
   refine wpQuiet_nil ?_
   change wpQuiet _ _ _ _ (_ ::[]) _
   try simp only [Act.put]
   try go_simp
   repeat (go_big_quiet_step (fail))
   refine wpQuiet_nil ?_
   change wpList _ _ _ (_ ::[]) _ _
   have ak:=bK.aM
   obtain⟨dd,dT,dN,eg,eh⟩:=dR.aM
   have ez:=bI.cu dR;have dG:=bD.cu dR;have aez:=dR.frozen 4
   go_wp2
   clear ak dd dT dN eg eh
   refine mF 4 fun Gj jK=>?_
   replace I:=jK.aH I;replace bK:=jK.dV bK;replace dR:=jK.VP dR;replace bI:=bI.bY jK ez;replace bD:=bD.bY jK dG;have ak:=bK.aM
   obtain⟨dd,dT,dN,eg,eh⟩:=dR.aM
   clear ez dG aez
   refine wU (afd _ _ ?_)
   refine xR ?_
   refine wpQuiet_nil ?_
   refine wpQuiet_nil ?_
   have ez:=bI.cu bK;have dG:=bD.cu bK;have AK:=bK.frozen 0;have AL:=bK.frozen 1;have AM:=bK.frozen 2;have AN:=bK.frozen 3;have AO:=bK.frozen 4
   go_wp2
   clear ak dd dT dN eg eh
   refine gF 0 fun Gk kg=>?_
   replace I:=kg.aH I;replace bK:=kg.hV bK;replace dR:=kg.dV dR;replace bI:=bI.bY kg ez;replace bD:=bD.bY kg dG;have ak:=bK.aM
   refine bodyPost_ret (v:= .agg #[ag,af,sp,.slice aZ ws d2,.slice Y (eW ad ⟨sm,st,cm⟩).length gV]) (by simp [results,Tryz.results290,go_sem,ak]) rfl ?_
   exact⟨aZ,d2,Y,gV,rfl,⟨bI.base (Nat.le_refl _),bD.base anK,bI.apart bD (by decide)⟩,I⟩
open Go.RowKit Go.G9
theorem Uz (ag af sp:Int) (an:Option Addr) (c2:Nat) (ws:List Int) (ao:Option Addr) (c3:Nat) (ad:List aO) (h2:ws.length≤1048576) (h3:ad.length≤1048576) (n2:an= none→ws= []∧c2= 0) (n3:ao= none→ad= []∧c3= 0) (cp:ws.length≤c2) (ef:ad.length≤c3) (st cm:Int) (aV:ej ad sp=⟨sp,st,cm⟩) (h0:0≤st) (h1:st≤1000) (w:World) (bw:aS 1 bV w an ws) (bt:aS 3 aO.cells w ao ad):
 Calls Tryz.prog 291 #[.agg #[ag,af,sp,.slice an ws c2,.slice ao ad c3]] w fun e ah=>∃aZ d2 bk d3,e= .returned (.agg #[ag,af,(0:Int),.slice aZ ws d2,.slice bk (eW ad ⟨sp,st + 1,cm⟩).length d3])∧jC w.heap.size ah aZ d2 bk d3 ws (eW ad ⟨sp,st + 1,cm⟩)∧Below w w ah:=by
 have dQ:=J bw;have cQ:=J bt;have iU:=J n2;have iK:=J n3;have vq:=J ef;clear bw bt n2 n3 ef;have dU:=J aV;clear aV
 have rp:IntKind.i64.wrap (st + 1)= st + 1:=by rw [IntKind.wrap_i64];omega
 go_in
 go_upto_region 1 with fail
 refine fe fun aG au ai U=>?_
 have I:=au;have aC:=ai.aM;have ak:=U.aM;have fQ:=U.lt
 go_wp2_with fail
 refine (tH ag af sp an ws.length c2 ao c3 ad h3 sp ⟨sp,st,cm⟩ dU.out _ (cQ.out.ae (aj I az))).mono ?_
 rintro e aJ ⟨rfl,aL⟩
 have al:=be aG aL;replace I:=aj I al;replace ai:=ai.to al;clear aC;have aC:=ai.aM;replace U:=U.to al;clear ak;have ak:=U.aM;have IE:=al.size
 go_upto_region 2 with fail
 refine cF fun dB aP bH=>?_
 replace I:=aj I aP;have bZ:=bH.cq;clear aC;replace ai:=ai.to aP;have aC:=ai.aM;clear ak;replace U:=U.to aP;have ak:=U.aM;have KC:=bH.frozen 1
 go_upto_region 3 with fail
 clear aC ak bZ
 refine mF 1 fun kr qI=>?_
 replace I:=qI.aH I;replace ai:=qI.dV ai;replace U:=qI.dV U;replace bH:=qI.VO bH;have aC:=ai.aM;have ak:=U.aM;have bZ:=bH.cq;clear KC;have agJ:=bH.lt
 go_wp2_with fail
 refine (Ux ag af sp an c2 ws ao c3 ad h2 h3 iU.out iK.out vq.out sp (st + 1) cm _ (dQ.out.ae (aj I az)) (cQ.out.ae (aj I az))).mono ?_
 rintro e bU ⟨aZ,d2,bk,d3,rfl,di,cY⟩
 have bN:=be kr cY;replace I:=aj I bN;clear aC;replace U:=U.to bN;clear ak;have ak:=U.aM;clear bZ;have tR:=I.size;have On:=bN.size
 go_upto_region 4 with fail
 have fb:=di.bm (bT bU (.cells #[ag,af,sp,.slice aZ ws d2,.slice bk (eW ad ⟨sp,st + 1,cm⟩).length d3] 41));clear di;have cK:Below bU bU (World.alloc bU (.cells #[ag,af,sp,.slice aZ ws d2,.slice bk (eW ad ⟨sp,st + 1,cm⟩).length d3] 41)):=bT bU _
 have aR:=aB.new bU 41 #[ag,af,sp,.slice aZ ws d2,.slice bk (eW ad ⟨sp,st + 1,cm⟩).length d3]
 generalize World.alloc bU (.cells #[ag,af,sp,.slice aZ ws d2,.slice bk (eW ad ⟨sp,st + 1,cm⟩).length d3] 41)= nE at *
 replace I:=aj I cK;have bF:=aR.aM;clear ak;replace U:=U.to cK;have ak:=U.aM;have bI:=fb.fi;have bD:=fb.fO;clear fb;have ez:=bI.cu aR;have dG:=bD.cu aR;have pG:=aR.frozen 2
 go_upto_region 5 with fail
 clear ak bF
 refine mF 2 fun nK fy=>?_
 replace I:=fy.aH I;replace U:=fy.dV U;replace aR:=fy.NB aR;replace bI:=bI.bY fy ez;replace bD:=bD.bY fy dG;have ak:=U.aM;have bF:=aR.aM;clear ez dG pG;have ez:=bI.cu U;have dG:=bD.cu U;have dM:=U.iE
 go_wp2
 clear ak bF
 refine gF 0 fun vv hH=>?_
 replace I:=hH.aH I;replace U:=hH.hV U;replace bI:=bI.bY hH ez;replace bD:=bD.bY hH dG;have ak:=U.aM
 exact hD ⟨aZ,d2,bk,d3,rfl,⟨bI.base (by omega),bD.base (by omega),bI.apart bD (by decide)⟩,I⟩ (by simp [results,Tryz.results291,go_sem,ak])
theorem YI {p:Prop} (h:p:=by
 refine gF 0 fun cD aE=>?_
 replace I:=aE.aH I;replace U:=aE.hV U;have ak:=U.aM
 exact hD ⟨rfl,I⟩ (by simp [results,Tryz.results241,go_sem,ak])):p:=h
theorem anb (ag af sp:Int) (an:Option Addr) (c2:Nat) (ws:List Int) (ao:Option Addr) (c3:Nat) (ad:List aO) (h2:ws.length≤1048576) (h3:ad.length≤1048576) (n2:an= none→ws= []∧c2= 0) (n3:ao= none→ad= []∧c3= 0) (cp:ws.length≤c2) (ef:ad.length≤c3) (ax:lE ⟨ag,af,sp,ws,ad⟩ =false) (w:World) (bw:aS 1 bV w an ws) (bt:aS 3 aO.cells w ao ad):
 Calls Tryz.prog 241 #[.agg #[ag,af,sp,.slice an ws c2,.slice ao ad c3]] w fun e ah=>e= .returned (.tuple #[.agg #[(0:Int),(0:Int),(0:Int),.slice none 0 0,.slice none 0 0],false])∧Below w w ah:=by
 have dQ:=J bw;have cQ:=J bt;clear bw bt n2 n3 ef
 cases hf:gd ag af sp ws ad
 ·have bo:=J hf
  clear hf ax
  go_in
  go_upto_region 1 with fail
  refine fe fun aG au ai U=>?_
  have I:=au;have aC:=ai.aM;have ak:=U.aM
  go_wp2_with fail
  refine (lj ag af sp an ws c2 ao c3 ad h2 h3 cp _ bo.out _ (dQ.out.ae (aj I az)) (cQ.out.ae (aj I az))).mono ?_
  rintro e aJ ⟨rfl,aL⟩
  have al:=be aG aL;replace I:=aj I al;clear aC;replace U:=U.to al;clear ak;have ak:=U.aM;have dM:=U.iE
  go_wp2
  clear ak
  exact YI
 ·have aV:(sp == 0)= true:=by simpa [lE,eo.ok,hf] using ax
  have bo:=J hf;clear hf ax
  go_in
  go_upto_region 1 with fail
  refine fe fun aG au ai U=>?_
  have I:=au;have aC:=ai.aM;have ak:=U.aM
  go_wp2_with fail
  refine (lj ag af sp an ws c2 ao c3 ad h2 h3 cp _ bo.out _ (dQ.out.ae (aj I az)) (cQ.out.ae (aj I az))).mono ?_
  rintro e aJ ⟨rfl,aL⟩
  have al:=be aG aL;replace I:=aj I al;replace ai:=ai.to al;clear aC;have aC:=ai.aM;replace U:=U.to al;clear ak;have ak:=U.aM;have dM:=U.iE
  go_wp2
  clear aC ak
  exact YI
theorem ZC {p:Prop} (h:p:=by
 exact⟨aZ,d2,bk,d3,rfl,⟨bI.base (by omega),bD.base (by omega),bI.apart bD (by decide)⟩,I⟩):p:=h
theorem anc (ag af sp:Int) (an:Option Addr) (c2:Nat) (ws:List Int) (ao:Option Addr) (c3:Nat) (ad:List aO) (h2:ws.length≤1048576) (h3:ad.length≤1048576) (n2:an= none→ws= []∧c2= 0) (n3:ao= none→ad= []∧c3= 0) (cp:ws.length≤c2) (ef:ad.length≤c3) (ax:lE ⟨ag,af,sp,ws,ad⟩ =true) (w:World) (bw:aS 1 bV w an ws) (bt:aS 3 aO.cells w ao ad):
 Calls Tryz.prog 241 #[.agg #[ag,af,sp,.slice an ws c2,.slice ao ad c3]] w fun e ah=>∃aZ d2 bk d3,e= .returned (.tuple #[.agg #[ag,af,(0:Int),.slice aZ ws d2,.slice bk (lW ⟨ag,af,sp,ws,ad⟩).ad.length d3],true])∧jC w.heap.size ah aZ d2 bk d3 ws (lW ⟨ag,af,sp,ws,ad⟩).ad∧Below w w ah:=by
 have dQ:=J bw;have cQ:=J bt;have iU:=J n2;have iK:=J n3;have vq:=J ef;clear bw bt n2 n3 ef
 have ga:(⟨ag,af,sp,ws,ad⟩ :eo).ok= true:=by simp only [lE,Bool.and_eq_true] at ax;exact ax.1
 have aV:(sp == 0)= false:=by simp only [lE,Bool.and_eq_true,Bool.not_eq_true'] at ax;exact ax.2
 obtain⟨oY,mi,oz⟩:=BD ga (beq_eq_false_iff_ne.1 aV)
 have zf:=(ks.1 ga).t
 obtain⟨au,al,aP⟩:=tQ.1 mi
 have kl:=Ix (xs:=ad) (m:=sp)
 obtain⟨⟨dA,st,cm⟩,kn⟩ :∃x,ej ad sp= x:=⟨_,rfl⟩
 have Di:sG ⟨ag,af,sp,ws,ad⟩ =⟨sp,st + 1,cm⟩:=by simp [sG,kn]
 have e1:(lW ⟨ag,af,sp,ws,ad⟩).ad= eW ad ⟨sp,st + 1,cm⟩:=by simp [lW,Di]
 simp only at oz al aP
 rw [kn] at oz al aP kl
 simp only at oz al aP kl zf
 subst kl
 rw [e1]
 have bo:Hid (gd ag af dA ws ad= true):=J ga;have lr:=J kn;clear ga ax oY mi au kn Di e1
 go_in
 go_upto_region 1 with fail
 refine fe fun aG au ai U=>?_
 have I:=au;have aC:=ai.aM;have ak:=U.aM;have fQ:=U.lt
 go_wp2_with fail
 refine (lj ag af dA an ws c2 ao c3 ad h2 h3 cp _ bo.out _ (dQ.out.ae (aj I az)) (cQ.out.ae (aj I az))).mono ?_
 rintro e aJ ⟨rfl,aL⟩
 have al:=be aG aL;replace I:=aj I al;replace ai:=ai.to al;clear aC;have aC:=ai.aM;replace U:=U.to al;clear ak;have ak:=U.aM
 go_wp2_with fail
 refine (Uz ag af dA an c2 ws ao c3 ad h2 h3 iU.out iK.out cp vq.out st cm lr.out (by omega) (by omega) _ (dQ.out.ae (aj I az)) (cQ.out.ae (aj I az))).mono ?_
 rintro e bB ⟨aZ,d2,bk,d3,rfl,di,bx⟩
 have aP:=be aJ bx;replace I:=aj I aP;clear aC;replace U:=U.to aP;clear ak;have ak:=U.aM;have IE:=al.size;have bI:=di.fi;have bD:=di.fO;clear di;have ez:=bI.cu U;have dG:=bD.cu U;have dM:=U.iE
 go_wp2
 clear ak
 refine gF 0 fun vv hH=>?_
 replace I:=hH.aH I;replace U:=hH.hV U;replace bI:=bI.bY hH ez;replace bD:=bD.bY hH dG;have ak:=U.aM
 refine bodyPost_ret (v:= .tuple #[.agg #[ag,af,(0:Int),.slice aZ ws d2,.slice bk (eW ad ⟨dA,st + 1,cm⟩).length d3],true]) (by simp [results,Tryz.results241,go_sem,ak]) rfl ?_
 exact ZC
theorem OL {p:Prop} (h:p:=by
 clear ak;have ak:=U.aM;have dM:=U.iE
 go_wp2
 clear ak
 refine gF 0 fun cD aE=>?_
 replace I:=aE.aH I;replace U:=aE.hV U;have ak:=U.aM
 exact hD ⟨rfl,I⟩ (by simp [results,Tryz.results238,go_sem,ak])):p:=h
theorem abx {p:Prop} (h:p:=by
 clear ak;have ak:=U.aM;have dM:=U.iE
 go_wp2
 clear aC ak
 refine gF 0 fun cD aE=>?_
 replace I:=aE.aH I;replace U:=aE.hV U;have ak:=U.aM
 exact hD ⟨rfl,I⟩ (by simp [results,Tryz.results238,go_sem,ak])):p:=h
theorem alW (ag af sp:Int) (an:Option Addr) (c2:Nat) (ws:List Int) (ao:Option Addr) (c3:Nat) (ad:List aO) (h2:ws.length≤1048576) (h3:ad.length≤1048576) (n2:an= none→ws= []∧c2= 0) (n3:ao= none→ad= []∧c3= 0) (cp:ws.length≤c2) (ef:ad.length≤c3) (m:Int) (ax:mM ⟨ag,af,sp,ws,ad⟩ m= false) (w:World) (bw:aS 1 bV w an ws) (bt:aS 3 aO.cells w ao ad):
 Calls Tryz.prog 238 #[.agg #[ag,af,sp,.slice an ws c2,.slice ao ad c3],m] w fun e ah=>e= .returned (.tuple #[.agg #[(0:Int),(0:Int),(0:Int),.slice none 0 0,.slice none 0 0],false])∧Below w w ah:=by
 have dQ:=J bw;have cQ:=J bt;clear bw bt n2 n3 ef
 have pP:(m == sp)= (sp == m):=by rw [Bool.eq_iff_iff,beq_iff_eq,beq_iff_eq];exact eq_comm
 cases gA:gd ag af sp ws ad
 case false=>
  have bo:=J gA;clear gA;clear ax pP
  go_in
  go_upto_region 1 with fail
  refine fe fun aG au ai U=>?_
  have I:=au;have aC:=ai.aM;have ak:=U.aM
  go_wp2_with fail
  refine (lj ag af sp an ws c2 ao c3 ad h2 h3 cp _ bo.out _ (dQ.out.ae (aj I az)) (cQ.out.ae (aj I az))).mono ?_
  rintro e aJ ⟨rfl,aL⟩
  have al:=be aG aL;replace I:=aj I al;clear aC;replace U:=U.to al
  exact OL
 case true=>
  cases gL:ey m
  case false=>
   have bo:=J gA;clear gA;have dP:=J gL;clear gL;clear ax pP
   go_in
   go_upto_region 1 with fail
   refine fe fun aG au ai U=>?_
   have I:=au;have aC:=ai.aM;have ak:=U.aM
   go_wp2_with fail
   refine (lj ag af sp an ws c2 ao c3 ad h2 h3 cp _ bo.out _ (dQ.out.ae (aj I az)) (cQ.out.ae (aj I az))).mono ?_
   rintro e aJ ⟨rfl,aL⟩
   have al:=be aG aL;replace I:=aj I al;clear aC;replace U:=U.to al;clear ak;have ak:=U.aM
   go_wp2_with fail
   refine (iy m _ dP.out _).mono ?_
   rintro e w0 ⟨rfl,h0⟩
   rw [h0]
   clear h0 w0;have dM:=U.iE
   go_wp2
   clear ak
   refine gF 0 fun cD aE=>?_
   replace I:=aE.aH I;replace U:=aE.hV U;have ak:=U.aM
   exact hD ⟨rfl,I⟩ (by simp [results,Tryz.results238,go_sem,ak])
  case true=>
   cases jn:hasB ws m
   case true=>
    have bo:=J gA;clear gA;have dP:=J gL;clear gL;have gp:=J jn;clear jn;clear ax pP
    go_in
    go_upto_region 1 with fail
    refine fe fun aG au ai U=>?_
    have I:=au;have aC:=ai.aM;have ak:=U.aM
    go_wp2_with fail
    refine (lj ag af sp an ws c2 ao c3 ad h2 h3 cp _ bo.out _ (dQ.out.ae (aj I az)) (cQ.out.ae (aj I az))).mono ?_
    rintro e aJ ⟨rfl,aL⟩
    have al:=be aG aL;replace I:=aj I al;replace ai:=ai.to al;clear aC;have aC:=ai.aM;replace U:=U.to al;clear ak;have ak:=U.aM
    go_wp2_with fail
    refine (iy m _ dP.out _).mono ?_
    rintro e w0 ⟨rfl,h0⟩
    rw [h0]
    clear h0 w0
    go_wp2_with fail
    refine (xB an c2 ws m h2 _ gp.out _ (dQ.out.ae (aj I az))).mono ?_
    rintro e bB ⟨rfl,bx⟩
    have aP:=be aJ bx;replace I:=aj I aP;clear aC;replace U:=U.to aP
    exact OL
   case false=>
    cases pM:(sp == m)
    case true=>
     have bo:=J gA;clear gA;have dP:=J gL;clear gL;have gp:=J jn;clear jn;clear ax pP
     go_in
     go_upto_region 1 with fail
     refine fe fun aG au ai U=>?_
     have I:=au;have aC:=ai.aM;have ak:=U.aM
     go_wp2_with fail
     refine (lj ag af sp an ws c2 ao c3 ad h2 h3 cp _ bo.out _ (dQ.out.ae (aj I az)) (cQ.out.ae (aj I az))).mono ?_
     rintro e aJ ⟨rfl,aL⟩
     have al:=be aG aL;replace I:=aj I al;replace ai:=ai.to al;clear aC;have aC:=ai.aM;replace U:=U.to al;clear ak;have ak:=U.aM
     go_wp2_with fail
     refine (iy m _ dP.out _).mono ?_
     rintro e w0 ⟨rfl,h0⟩
     rw [h0]
     clear h0 w0
     go_wp2_with fail
     refine (xB an c2 ws m h2 _ gp.out _ (dQ.out.ae (aj I az))).mono ?_
     rintro e bB ⟨rfl,bx⟩
     have aP:=be aJ bx;replace I:=aj I aP;replace ai:=ai.to aP;clear aC;have aC:=ai.aM;replace U:=U.to aP
     exact abx
    case false=>
     cases mg:nt ag af (ej ad m)
     case false=>
      have bo:=J gA;clear gA;have dP:=J gL;clear gL;have gp:=J jn;clear jn;have cW:=J mg;clear mg;clear ax pP
      go_in
      go_upto_region 1 with fail
      refine fe fun aG au ai U=>?_
      have I:=au;have aC:=ai.aM;have ak:=U.aM
      go_wp2_with fail
      refine (lj ag af sp an ws c2 ao c3 ad h2 h3 cp _ bo.out _ (dQ.out.ae (aj I az)) (cQ.out.ae (aj I az))).mono ?_
      rintro e aJ ⟨rfl,aL⟩
      have al:=be aG aL;replace I:=aj I al;replace ai:=ai.to al;clear aC;have aC:=ai.aM;replace U:=U.to al;clear ak;have ak:=U.aM
      go_wp2_with fail
      refine (iy m _ dP.out _).mono ?_
      rintro e w0 ⟨rfl,h0⟩
      rw [h0]
      clear h0 w0
      go_wp2_with fail
      refine (xB an c2 ws m h2 _ gp.out _ (dQ.out.ae (aj I az))).mono ?_
      rintro e bB ⟨rfl,bx⟩
      have aP:=be aJ bx;replace I:=aj I aP;replace ai:=ai.to aP;clear aC;have aC:=ai.aM;replace U:=U.to aP;clear ak;have ak:=U.aM
      go_wp2_with fail
      refine (zw ag af sp an ws.length c2 ao c3 ad h3 m _ cW.out _ (cQ.out.ae (aj I az))).mono ?_
      rintro e bU ⟨rfl,cY⟩
      have bN:=be bB cY;replace I:=aj I bN;clear aC;replace U:=U.to bN
      exact OL
     case true=>
      have rb:decide (ws.length= 10)= true:=by simpa [mM,eo.ok,pP,gA,gL,jn,pM,mg] using ax
      have bo:=J gA;clear gA;have dP:=J gL;clear gL;have gp:=J jn;clear jn;have cW:=J mg;clear mg
      have ct:((ws.length:Int) == 10)= true:=by have:=of_decide_eq_true rb;rw [this];rfl
      clear rb;clear ax pP
      go_in
      go_upto_region 1 with fail
      refine fe fun aG au ai U=>?_
      have I:=au;have aC:=ai.aM;have ak:=U.aM
      go_wp2_with fail
      refine (lj ag af sp an ws c2 ao c3 ad h2 h3 cp _ bo.out _ (dQ.out.ae (aj I az)) (cQ.out.ae (aj I az))).mono ?_
      rintro e aJ ⟨rfl,aL⟩
      have al:=be aG aL;replace I:=aj I al;replace ai:=ai.to al;clear aC;have aC:=ai.aM;replace U:=U.to al;clear ak;have ak:=U.aM
      go_wp2_with fail
      refine (iy m _ dP.out _).mono ?_
      rintro e w0 ⟨rfl,h0⟩
      rw [h0]
      clear h0 w0
      go_wp2_with fail
      refine (xB an c2 ws m h2 _ gp.out _ (dQ.out.ae (aj I az))).mono ?_
      rintro e bB ⟨rfl,bx⟩
      have aP:=be aJ bx;replace I:=aj I aP;replace ai:=ai.to aP;clear aC;have aC:=ai.aM;replace U:=U.to aP;clear ak;have ak:=U.aM
      go_wp2_with fail
      refine (zw ag af sp an ws.length c2 ao c3 ad h3 m _ cW.out _ (cQ.out.ae (aj I az))).mono ?_
      rintro e bU ⟨rfl,cY⟩
      have bN:=be bB cY;replace I:=aj I bN;replace ai:=ai.to bN;clear aC;have aC:=ai.aM;replace U:=U.to bN
      exact abx
theorem alX (ag af sp:Int) (an:Option Addr) (c2:Nat) (ws:List Int) (ao:Option Addr) (c3:Nat) (ad:List aO) (h2:ws.length≤1048576) (h3:ad.length≤1048576) (n2:an= none→ws= []∧c2= 0) (n3:ao= none→ad= []∧c3= 0) (cp:ws.length≤c2) (ef:ad.length≤c3) (m:Int) (ax:mM ⟨ag,af,sp,ws,ad⟩ m= true) (w:World) (bw:aS 1 bV w an ws) (bt:aS 3 aO.cells w ao ad):
 Calls Tryz.prog 238 #[.agg #[ag,af,sp,.slice an ws c2,.slice ao ad c3],m] w fun e ah=>∃aZ d2 bk d3,e= .returned (.tuple #[.agg #[ag,af,sp,.slice aZ (ws ++ [m]).length d2,.slice bk ad d3],true])∧jC w.heap.size ah aZ d2 bk d3 (ws ++ [m]) ad∧Below w w ah:=by
 obtain⟨i0,hi,dn,dC,dz⟩:=info_parts rr
 have dQ:=J bw;have cQ:=J bt;have iU:=J n2;have iK:=J n3;clear bw bt n2 n3 ef
 obtain⟨gA,gL,aV,pM,mg,rb⟩ :gd ag af sp ws ad= true∧ey m= true∧(m == sp)= false∧hasB ws m= false∧nt ag af (ej ad m)= true∧ws.length≠10:=by
  simpa [mM,eo.ok] using ax
 have aV:(sp == m)= false:=beq_eq_false_iff_ne.2 (fun e=>beq_eq_false_iff_ne.1 aV e.symm);have ct:((ws.length:Int) == 10)= false:=beq_eq_false_iff_ne.2 (by omega);have nR:ws.length≤10:=(ks.1 (show (⟨ag,af,sp,ws,ad⟩ :eo).ok= true from gA)).l;have bo:=J gA;have dP:=J gL;have gp:=J pM;have cW:=J mg;clear gA gL pM mg rb ax
 go_in
 go_upto_region 1 with fail
 refine fe fun aG au ai U=>?_
 have I:=au;have aC:=ai.aM;have ak:=U.aM;have fQ:=U.lt
 go_wp2_with fail
 refine (lj ag af sp an ws c2 ao c3 ad h2 h3 cp _ bo.out _ (dQ.out.ae (aj I az)) (cQ.out.ae (aj I az))).mono ?_
 rintro e aJ ⟨rfl,aL⟩
 have al:=be aG aL;replace I:=aj I al;replace ai:=ai.to al;clear aC;have aC:=ai.aM;replace U:=U.to al;clear ak;have ak:=U.aM
 go_wp2_with fail
 refine (iy m _ dP.out _).mono ?_
 rintro e w0 ⟨rfl,h0⟩
 rw [h0]
 clear h0 w0
 go_wp2_with fail
 refine (xB an c2 ws m h2 _ gp.out _ (dQ.out.ae (aj I az))).mono ?_
 rintro e bB ⟨rfl,bx⟩
 have aP:=be aJ bx;replace I:=aj I aP;replace ai:=ai.to aP;clear aC;have aC:=ai.aM;replace U:=U.to aP;clear ak;have ak:=U.aM
 go_wp2_with fail
 refine (zw ag af sp an ws.length c2 ao c3 ad h3 m _ cW.out _ (cQ.out.ae (aj I az))).mono ?_
 rintro e bU ⟨rfl,cY⟩
 have bN:=be bB cY;replace I:=aj I bN;replace ai:=ai.to bN;clear aC;have aC:=ai.aM;replace U:=U.to bN;clear ak;have ak:=U.aM
 go_wp2_with fail
 refine (EE ag af sp an c2 ws ao c3 ad h2 h3 iU.out iK.out _ (dQ.out.ae (aj I az)) (cQ.out.ae (aj I az))).mono ?_
 rintro e dB ⟨aZ,d2,bk,d3,rfl,di,eD⟩
 have cK:=be bU eD;replace I:=aj I cK;clear aC;replace U:=U.to cK;clear ak;have ak:=U.aM;have tR:=I.size;have ID:=al.size;have Om:=aP.size;have On:=bN.size;have XD:=cK.size
 go_upto_region 4 with fail
 have fb:=di.bm (bT dB (.cells #[ag,af,sp,.slice aZ ws d2,.slice bk ad d3] 41));have eQ:Below dB dB (World.alloc dB (.cells #[ag,af,sp,.slice aZ ws d2,.slice bk ad d3] 41)):=bT dB _
 have aR:=aB.new dB 41 #[ag,af,sp,.slice aZ ws d2,.slice bk ad d3]
 generalize World.alloc dB (.cells #[ag,af,sp,.slice aZ ws d2,.slice bk ad d3] 41)= nE at *
 replace I:=aj I eQ
 obtain⟨dd,dT,dN,eg,eh⟩:=aR.aM
 clear ak;replace U:=U.to eQ;have ak:=U.aM;have pb:=aR.lt;have bI:=fb.fi;have bD:=fb.fO;have jm:=bI.apart bD (by decide);have nv:=bI.lt;have pN:=bI.cu aR
 have rh:∀k,(Value.slice aZ ws d2).ownBlock= some k→k≠w.heap.size + 1:=fun k aD e=>by have:=(nv k aD).1;have:=ID;omega
 have hs:=J bI;have ji:=J bD;have cc:=J aR;have bg:=J U;have oe:=J jm;have yh:=J pN;have yi:=J rh;have yg:=J nv;have qe:=J I
 have DT:bU.heap.size≤nE.heap.size:=by omega
 clear di fb bI bD jm pN rh nv;have OC:=eg;clear dd dT dN eg eh ak
 go_upto_region 5 with ((at_builtin;refine kC rfl _ _ 38 rfl bU.heap.size 3 i0 _ 1 8 Tryz.underlying38 hi dn dC dz rfl (by decide) bV fW nS _ ws rfl (hs.out.alloc _) ⟨nE.heap.size,0,none⟩ 1 m rfl (aS.one (f:=bV) m _) (by unfold maxLen;omega) (by omega) (by simp;omega) ?_;intro v9 mG je ku yL;have dR:=((cc.out.alloc (.cells #[m] 3)).kb ku (fun e=>yh.out _ e.symm rfl));clear yL;obtain⟨Y,gV,rfl,q1,gv,mm⟩:=je.form fW;clear q1 gv mm;replace je:bd bU 3 1 bV mG (.slice Y (ws.length + 1) gV) (ws ++ [m]):=(by rw [List.length_append] at je;exact je);have GL:=dR.frozen 3;have KB:=(dR.cell 3).trans (show _= some (Value.slice aZ ws d2) from rfl)))
 have et:Below w w mG:=(qe.out.alloc (by omega) (.cells #[m] 3)).grown ku (by simp;omega) (fun q bj=>by have:=(yg.out q bj).1;omega);have bK:=(bg.out.alloc (.cells #[m] 3)).kb ku (fun e=>yi.out _ e.symm rfl);have bD:=(ji.out.alloc (.cells #[m] 3)).kept ku (fun k aD e=>oe.out k e.symm aD.symm);have bI:=je;have pN:=bI.cu dR
 have KM:=bD.cu dR;clear aR U ai ku je GL KB OC;replace I:=et;clear et;have ak:=bK.aM
 obtain⟨dd,dT,dN,eg,eh⟩:=dR.aM
 have ez:∀k,(Value.slice Y (ws.length + 1) gV).ownBlock= some k→¬k= dB.heap.size:=pN;have dG:∀k,(Value.slice bk ad d3).ownBlock= some k→¬k= dB.heap.size:=KM;clear ak dd dT dN eg eh
 refine mF 3 fun Gj jK=>?_
 replace I:=jK.aH I;replace bK:=jK.dV bK;replace dR:=jK.EX dR;replace bI:=bI.bY jK ez;replace bD:=bD.bY jK dG;have ak:=bK.aM
 obtain⟨dd,dT,dN,eg,eh⟩:=dR.aM
 clear ez dG
 have ez:∀k,(Value.slice Y (ws.length + 1) gV).ownBlock= some k→¬k= w.heap.size + 1:=fun k aD e=>by have:=(bI.lt k aD).1;omega
 have dG:∀k,(Value.slice bk ad d3).ownBlock= some k→¬k= w.heap.size + 1:=fun k aD e=>by have h:=(bD.lt k aD).1;omega
 have AK:=bK.frozen 0;have AL:=bK.frozen 1;have AM:=bK.frozen 2;have AN:=bK.frozen 3;have AO:=bK.frozen 4
 go_wp2
 clear ak dd dT dN eg eh
 refine gF 0 fun Gk kg=>?_
 replace I:=kg.aH I;replace bK:=kg.hV bK;replace dR:=kg.dV dR;replace bI:=bI.bY kg ez;replace bD:=bD.bY kg dG;have ak:=bK.aM
 refine bodyPost_ret (v:= .tuple #[.agg #[ag,af,sp,.slice Y (ws.length + 1) gV,.slice bk ad d3],true]) (by simp [results,Tryz.results238,go_sem,ak]) rfl ?_
 have yV:(ws ++ [m]).length= ws.length + 1:=by simp
 rw [yV]
 exact⟨Y,gV,bk,d3,rfl,⟨by rw [yV];exact bI.base (by omega),bD.base (by omega),by rw [yV];exact bI.apart bD (by decide)⟩,I⟩
open Go.RowKit Go.G9
theorem akl {f:eo} {k:Nat} {x y:Int} (aw:f.ws[k]? =some x) (hy:f.ws[jU f k]? =some y):jU f (k + 1)= if (ej f.ad x).ek < (ej f.ad y).ek then k else jU f k:=by
 simp only [jU,aw,hy]
theorem akk {f:eo}:jU f 1= 0:=by have:=zB f 1 (by omega);omega
theorem Uw (ag af sp:Int) (an:Option Addr) (c2:Nat) (ws:List Int) (ao:Option Addr) (c3:Nat) (ad:List aO) (h2:ws.length≤1048576) (h3:ad.length≤1048576) (n2:an= none→ws= []∧c2= 0) (n3:ao= none→ad= []∧c3= 0) (cp:ws.length≤c2) (ef:ad.length≤c3) (h0:0 < ws.length) (w:World) (bw:aS 1 bV w an ws) (bt:aS 3 aO.cells w ao ad):
 Calls Tryz.prog 268 #[.agg #[ag,af,sp,.slice an ws c2,.slice ao ad c3]] w fun e ah=>e= .returned (.int .i64 (jU ⟨ag,af,sp,ws,ad⟩ ws.length))∧Below w w ah:=by
 have dQ:=J bw;have cQ:=J bt;have iU:=J n2;have iK:=J n3;have vq:=J ef;clear bw bt n2 n3 ef
 obtain⟨dJ,fi,m0,hA2,th,_,_⟩:=dQ.out.at_ (Below.refl _ _) (k:=0) h0
 subst hA2
 clear iU
 go_in
 go_upto_region 1 with fail
 refine cF fun aG au ai=>?_
 have I:=au;have aC:=ai.aM;have Bc:=ai.lt;have cC:=J ai;have og:=J I;clear ai aC
 go_wp2
 go_loopw [3,4] (fun v i wr=>∃k:Nat,1≤k∧k≤ws.length∧i= .int .i64 k∧v= .int .i64 (jU ⟨ag,af,sp,ws,ad⟩ k)∧Below aG aG wr) (fun _ i _=>ws.length - (intOf i).toNat)
 case atStart=>exact⟨1,Nat.le_refl _,h0,rfl,by rw [akk];rfl,Below.refl _ _⟩
 case round=>
  obtain⟨k,tr,aD,rfl,rfl,aF⟩:=hrel
  have fK:=cC.out.ae aF cC.out.lt;have aC:=aB.jH (fun K:ay wr.heap.size wr=>(fK.ae K.ae fK.lt));have g3:=(fK.cell 3).trans (show _= some (.slice (some ⟨dJ,fi,none⟩) ws c2) from rfl);have pc:=zB ⟨ag,af,sp,ws,ad⟩ k (by omega)
  by_cases bu:k < ws.length
  ·have aw:ws[k]? =some ws[k]:=List.getElem?_eq_getElem bu
   have hy:ws[jU ⟨ag,af,sp,ws,ad⟩ k]? =some ws[jU ⟨ag,af,sp,ws,ad⟩ k]:=List.getElem?_eq_getElem (by omega);have iF:=akl (f:=⟨ag,af,sp,ws,ad⟩) aw hy
   simp only at iF
   generalize ws[k]= x at *
   generalize ws[jU ⟨ag,af,sp,ws,ad⟩ k]= y at *
   generalize jU ⟨ag,af,sp,ws,ad⟩ k= j at *
   obtain⟨⟨dO,iA,xs⟩,ME⟩ :∃s,ej ad x= s:=⟨_,rfl⟩
   obtain⟨⟨nj,ob,ys⟩,MF⟩ :∃s,ej ad y= s:=⟨_,rfl⟩
   rw [ME,MF] at iF
   simp only at iF
   have PT:=J ME;have PU:=J MF;have Ap:=J iF
   have Ku:=fun K:ay wr.heap.size wr=>(tN (dQ.out.ae (aj (aj og.out aF) K.ae)) aw (i:=0) (u:= .int .i64 x) rfl)
   have qU:=fun K:ay wr.heap.size wr=>(tN (dQ.out.ae (aj (aj og.out aF) K.ae)) hy (i:=0) (u:= .int .i64 y) rfl)
   simp only [Nat.mul_one,Nat.add_zero] at Ku qU
   have e1:=fun W=>(show (Instr.field 214 (.agg #[dO,iA,xs]) 1).run Tryz.prog W= .ok (.int .i64 iA) W by kernel_rfl)
   have e2:=fun W=>(show (Instr.field 214 (.agg #[nj,ob,ys]) 1).run Tryz.prog W= .ok (.int .i64 ob) W by kernel_rfl)
   have Bi:decide ((k:Int) < (ws.length:Int))= true:=decide_eq_true (by omega);clear ME MF iF aw hy
   by_cases ct:iA < ob
   ·have MG:decide (iA < ob)= true:=decide_eq_true ct
    go_wp2
    clear g3
    refine eK (by kernel_rfl) (by kernel_rfl) ?_
    repeat (go_big_quiet_step (fail))
    go_big_quiet_step ((go_at_call 267;exact ay.call _ (by first | exact Nat.le_refl _ | omega) (tH ag af sp (some ⟨dJ,fi,none⟩) ws.length c2 ao c3 ad h3 x ⟨dO,iA,xs⟩ PT.out _ (cQ.out.ae (aj (aj og.out aF) (ay.ae _))))))
    repeat (go_big_quiet_step (fail))
    go_big_quiet_step ((go_at_call 267;exact ay.call _ (by first | exact Nat.le_refl _ | omega) (tH ag af sp (some ⟨dJ,fi,none⟩) ws.length c2 ao c3 ad h3 y ⟨nj,ob,ys⟩ PU.out _ (cQ.out.ae (aj (aj og.out aF) (ay.ae _))))))
    repeat (go_big_quiet_step (fail))
    refine wpQuiet_nil ?_
    intro K
    clear aC Ku qU e1 e2 MG fK
    go_wp2
    go_roundw
    case rel=>exact⟨k + 1,by omega,by omega,by go_num,by rw [Ap.out,if_pos ct],aj aF K.ae⟩
    case measure=>simp [intOf];omega
   ·have MG:decide (iA < ob)= false:=decide_eq_false ct
    go_wp2
    clear g3
    refine eK (by kernel_rfl) (by kernel_rfl) ?_
    repeat (go_big_quiet_step (fail))
    go_big_quiet_step ((go_at_call 267;exact ay.call _ (by first | exact Nat.le_refl _ | omega) (tH ag af sp (some ⟨dJ,fi,none⟩) ws.length c2 ao c3 ad h3 x ⟨dO,iA,xs⟩ PT.out _ (cQ.out.ae (aj (aj og.out aF) (ay.ae _))))))
    repeat (go_big_quiet_step (fail))
    go_big_quiet_step ((go_at_call 267;exact ay.call _ (by first | exact Nat.le_refl _ | omega) (tH ag af sp (some ⟨dJ,fi,none⟩) ws.length c2 ao c3 ad h3 y ⟨nj,ob,ys⟩ PU.out _ (cQ.out.ae (aj (aj og.out aF) (ay.ae _))))))
    repeat (go_big_quiet_step (fail))
    refine wpQuiet_nil ?_
    intro K
    clear aC Ku qU e1 e2 MG fK
    go_wp2
    go_roundw
    case rel=>exact⟨k + 1,by omega,by omega,by go_num,by rw [Ap.out,if_neg (by omega)],aj aF K.ae⟩
    case measure=>simp [intOf];omega
  ·obtain rfl:k= ws.length:=by omega
   have Bi:decide ((ws.length:Int) < (ws.length:Int))= false:=decide_eq_false (by omega);clear aC
   go_wp2
   go_ret
   exact⟨rfl,aj og.out aF⟩
def IK (xs:List Int) (k:Nat):kq (Option Addr×Nat) where
 par:=fun n=>match n with
  | 4=>[0]
  | _=>[]
 val:=fun n p=>match n with
  | 0=> .slice p.1 0 0
  | 4=> .slice p.1 k p.2
  | _=>undef
 post:=fun n bl p cN V=>match n with
  | 0=>p.1= some ⟨cN.heap.size,0,none⟩∧aB V cN.heap.size 3 #[]
  | 4=>∃g bA,(bl 0).1= some ⟨g,0,none⟩∧p.1= some ⟨bA,0,none⟩∧bd g 3 1 bV V (.slice p.1 (xs.take k).length p.2) (xs.take k)
  | _=>True
theorem abv {p:Prop} (h:p:=by
 change wpList _ _ _ (_ ::[]) _ _
 go_wp2
 first | exact hA ⟨(some ⟨hZ.world.heap.size,0,none⟩,0),rfl,bT _ _,rfl,aB.new _ _ _⟩ | exact hA ⟨some ⟨hZ.world.heap.size,0,none⟩,0,rfl,bT _ _,rfl,aB.new _ _ _⟩):p:=h
theorem Yy {p:Prop} (h:p:=by
 first | exact hA ⟨(some ⟨bA,0,none⟩,cM),rfl,fh,gI.heap.size,bA,lu.out,rfl,fJ⟩ | exact hA ⟨some ⟨bA,0,none⟩,cM,rfl,fh,gI.heap.size,bA,lu.out,rfl,fJ⟩):p:=h
theorem aaK {p:Prop} (h:p:=by
 have RI:Below w w IH:=et.out.grown uz zW (fun q bj=>by have h9:g5= q:=Option.some.inj bj;omega)
 refine wV ((lH.out _).2 RI) (dv _ _ ?_)
 refine xR ?_
 refine wpQuiet_nil ?_
 change wpQuiet _ _ _ _ (_ ::[]) _
 try simp only [Act.put]
 try go_simp
 repeat (go_big_quiet_step (fail))
 refine wpQuiet_nil ?_
 go_wp2
 go_ret
 exact⟨Y,gV,rfl,vI,RI⟩):p:=h
theorem Uy (A:Option Addr) (c:Nat) (xs:List Int) (aY:xs.length≤1048576) (aH:xs.length≤c) (k:Nat) (aD:k < xs.length) (w:World) (R:aS 1 bV w A xs):
 Calls Tryz.prog 269 #[.slice A xs c,k] w fun e ah=>∃bA cM,e= .returned (.slice bA (xs.length - 1) cM)∧bd w 3 1 bV ah (.slice bA (xs.length - 1) cM) (xs.take k ++ xs.drop (k + 1))∧Below w w ah:=by
 obtain⟨i0,hi,dn,dC,dz⟩:=info_parts rr
 obtain⟨b,o,m0,aX,ew,_,_⟩:=R.at_ (Below.refl _ _) (k:=0) (by omega)
 subst aX
 have bC:=J R;clear R;have mb:Hid ((xs.take k).length= k):=J (by rw [List.length_take];omega);have mJ:Hid ((xs.drop (k + 1)).length= xs.length - (k + 1)):=J (by rw [List.length_drop]);have pv:Hid (aS 1 bV w (some ⟨b,o,none⟩) (xs.take k)):=J (BI bC.out k);have Af:Hid ((xs.take k ++ xs.drop (k + 1)).length= xs.length - 1):=J (by rw [List.length_append,List.length_take,List.length_drop];omega)
 by_cases gL:k + 1= c
 ·subst gL
  replace mJ:Hid ((xs.drop (k + 1)).length= 0):=J (by have:=mJ.out;omega);have pr:Hid (aS 1 bV w (some ⟨b,o,none⟩) (xs.drop (k + 1))):=J (by rw [List.drop_of_length_le (by omega)];exact aS.nil)
  go_in
  obtain⟨vg,xc⟩ :∃X:World→Prop,∀V,X V↔(Below w w V):=⟨_,fun _=>Iff.rfl⟩
  have lH:=J xc;clear xc
  haveI:Nonempty (cH vg):=⟨⟨w,((lH.out _).2 ((Below.refl _ _)))⟩⟩
  go_upto_region 1 with fail
  refine Fw (IK xs k) vg [([],0),([1,2,3],4)] [5,6,7,8] [([],[],9,false)] [] [10] (by kernel_rfl) (by kernel_rfl) ((lH.out _).2 ((Below.refl _ _).drew)) (fun W eF h k=>((lH.out _).2 (((lH.out _).1 h).trans (k.mono ((lH.out _).1 h).size)))) ?_
  intro bl
  refine hI (some 5) rfl (.slice (bl 0).1 0 0) rfl fun hz eb=>?_
  change wpQuiet _ _ _ _ ([]) _
  refine wpQuiet_nil ?_
  refine⟨fun hZ fq=>?_,eb _ ?_⟩
  ·exact abv
  simp only [Act.put]
  go_simp
  refine hI (some 9) rfl (.slice (bl 4).1 k (bl 4).2) rfl fun hz eb=>?_
  change wpQuiet _ _ _ _ (_ ::_ ::_ ::[]) _
  repeat (go_big_quiet_step (fail))
  refine wpQuiet_nil ?_
  refine⟨fun hZ fq=>?_,eb _ ?_⟩
  ·change wpList _ _ _ (_ ::[]) _ _
   obtain⟨gI,rN,oq,⟨lb,kM⟩,kN⟩:=fq 0 (by simp [IK])
   have kO:=kM.to kN;have jI:(bl 0).1= some ⟨gI.heap.size,0,none⟩:=lb;have oi:=J (pv.out.ae ((lH.out _).1 hZ.holds));have oh:=J kO;clear kO kM lb oq kN fq
   rw [jI]
   have lu:=J jI;clear jI
   go_wp2_with ((at_builtin;refine tT rfl _ _ 38 rfl gI.heap.size 3 i0 _ 1 8 Tryz.underlying38 hi dn dC dz rfl (by decide) bV fW nS gI.heap.size rfl oh.out (Nat.le_refl _) (some ⟨b,o,none⟩) (k + 1) (xs.take k) k mb.out.symm rfl oi.out (fun h=>by cases h) (by have:=mb.out;unfold maxLen;omega) (by have:=mb.out;omega) ?_;intro bA cM ah fJ fh))
   exact Yy
  simp only [Act.put]
  go_simp
  refine qJ ?_
  change wpQuiet _ _ _ _ (_ ::_ ::_ ::_ ::[]) _
  repeat (go_big_quiet_step (fail))
  refine wpQuiet_nil ?_
  intro cN V W aU bL
  obtain⟨g0,g5,e0,e5,xF⟩ :∃g bA,(bl 0).1= some ⟨g,0,none⟩∧(bl 4).1= some ⟨bA,0,none⟩∧bd g 3 1 bV (V 4) (.slice (bl 4).1 (xs.take k).length (bl 4).2) (xs.take k):=aU.post 4 (by simp)
  obtain⟨a0,_⟩ :(bl 0).1= some ⟨(cN 0).heap.size,0,none⟩∧aB (V 0) (cN 0).heap.size 3 #[]:=aU.post 0 (by simp)
  have t0:(cN 0).heap.size= g0:=by rw [a0] at e0;exact congrArg Addr.block (Option.some.inj e0)
  have iu:=(xF.bm (aU.bm 4 (by simp))).base (B':=w.heap.size) (by rw [← t0];exact (aU.lN 0 (by simp)).size);have yZ:Below w w W:=(aU.whole 4 (by simp)).oM;have al:Below w w W:=aj az (aU.whole 4 (by simp)).oM;have I:Below w w W:=al;clear aU xF a0 e0 t0 bL
  generalize bl 4= tL at *
  obtain⟨Pj,d5⟩:=tL
  simp only at iu e5
  subst e5
  rw [mb.out] at iu
  have zW:=yZ.size;have SF:=iu.lt g5 rfl;have lY:Hid (bd w 3 1 bV W (.slice g5 k d5) (xs.take k)):=J iu;have et:=J yZ;clear iu
  refine oa fun fT dv=>?_
  refine wpQuiet_nil ?_
  refine wpQuiet_nil ?_
  change wpList _ _ _ (_ ::[]) _ _
  have wP:=J (pr.out.ae et.out)
  go_wp2_with ((at_builtin;refine IN rfl _ _ 38 rfl w.heap.size 3 i0 _ 1 8 Tryz.underlying38 hi dn dC dz rfl (by decide) bV fW nS _ (xs.take k) rfl lY.out (some ⟨b,o,none⟩) (0) (xs.drop (k + 1)) (by rw [mJ.out];rfl) wP.out (fun h=>by cases h) (by have h1:=mJ.out;have h2:=mb.out;rw [h1,h2];unfold maxLen;omega) (by have h1:=mJ.out;have h2:=mb.out;rw [h1,h2];omega) zW ?_;intro v10 IH vI uz;obtain⟨Y,gV,ax,q1,gv,mm⟩:=vI.form fW;clear q1 gv mm;rw [Af.out] at ax;subst ax))
  exact aaK
 ·skip
  have pr:Hid (aS 1 bV w (some ⟨b,o + (k + 1),none⟩) (xs.drop (k + 1))):=J (by have h:=Fe bC.out (k + 1);rw [Nat.mul_one] at h;exact h)
  go_in
  obtain⟨vg,xc⟩ :∃X:World→Prop,∀V,X V↔(Below w w V):=⟨_,fun _=>Iff.rfl⟩
  have lH:=J xc;clear xc
  haveI:Nonempty (cH vg):=⟨⟨w,((lH.out _).2 ((Below.refl _ _)))⟩⟩
  go_upto_region 1 with fail
  refine Fw (IK xs k) vg [([],0),([1,2,3],4)] [5,6,7,8] [([],[],9,false)] [] [10] (by kernel_rfl) (by kernel_rfl) ((lH.out _).2 ((Below.refl _ _).drew)) (fun W eF h k=>((lH.out _).2 (((lH.out _).1 h).trans (k.mono ((lH.out _).1 h).size)))) ?_
  intro bl
  refine hI (some 5) rfl (.slice (bl 0).1 0 0) rfl fun hz eb=>?_
  change wpQuiet _ _ _ _ ([]) _
  refine wpQuiet_nil ?_
  refine⟨fun hZ fq=>?_,eb _ ?_⟩
  ·exact abv
  simp only [Act.put]
  go_simp
  refine hI (some 9) rfl (.slice (bl 4).1 k (bl 4).2) rfl fun hz eb=>?_
  change wpQuiet _ _ _ _ (_ ::_ ::_ ::[]) _
  repeat (go_big_quiet_step (fail))
  refine wpQuiet_nil ?_
  refine⟨fun hZ fq=>?_,eb _ ?_⟩
  ·change wpList _ _ _ (_ ::[]) _ _
   obtain⟨gI,rN,oq,⟨lb,kM⟩,kN⟩:=fq 0 (by simp [IK])
   have kO:=kM.to kN;have jI:(bl 0).1= some ⟨gI.heap.size,0,none⟩:=lb;have oi:=J (pv.out.ae ((lH.out _).1 hZ.holds));have oh:=J kO;clear kO kM lb oq kN fq
   rw [jI]
   have lu:=J jI;clear jI
   go_wp2_with ((at_builtin;refine tT rfl _ _ 38 rfl gI.heap.size 3 i0 _ 1 8 Tryz.underlying38 hi dn dC dz rfl (by decide) bV fW nS gI.heap.size rfl oh.out (Nat.le_refl _) (some ⟨b,o,none⟩) c (xs.take k) k mb.out.symm rfl oi.out (fun h=>by cases h) (by have:=mb.out;unfold maxLen;omega) (by have:=mb.out;omega) ?_;intro bA cM ah fJ fh))
   exact Yy
  simp only [Act.put]
  go_simp
  refine qJ ?_
  change wpQuiet _ _ _ _ (_ ::_ ::_ ::_ ::[]) _
  repeat (go_big_quiet_step (fail))
  refine wpQuiet_nil ?_
  intro cN V W aU bL
  obtain⟨g0,g5,e0,e5,xF⟩ :∃g bA,(bl 0).1= some ⟨g,0,none⟩∧(bl 4).1= some ⟨bA,0,none⟩∧bd g 3 1 bV (V 4) (.slice (bl 4).1 (xs.take k).length (bl 4).2) (xs.take k):=aU.post 4 (by simp)
  obtain⟨a0,_⟩ :(bl 0).1= some ⟨(cN 0).heap.size,0,none⟩∧aB (V 0) (cN 0).heap.size 3 #[]:=aU.post 0 (by simp)
  have t0:(cN 0).heap.size= g0:=by rw [a0] at e0;exact congrArg Addr.block (Option.some.inj e0)
  have iu:=(xF.bm (aU.bm 4 (by simp))).base (B':=w.heap.size) (by rw [← t0];exact (aU.lN 0 (by simp)).size);have yZ:Below w w W:=(aU.whole 4 (by simp)).oM;have al:Below w w W:=aj az (aU.whole 4 (by simp)).oM;have I:Below w w W:=al;clear aU xF a0 e0 t0 bL
  generalize bl 4= tL at *
  obtain⟨Pj,d5⟩:=tL
  simp only at iu e5
  subst e5
  rw [mb.out] at iu
  have zW:=yZ.size;have SF:=iu.lt g5 rfl;have lY:Hid (bd w 3 1 bV W (.slice g5 k d5) (xs.take k)):=J iu;have et:=J yZ;clear iu
  refine oa fun fT dv=>?_
  refine wpQuiet_nil ?_
  refine wpQuiet_nil ?_
  change wpList _ _ _ (_ ::[]) _ _
  have wP:=J (pr.out.ae et.out)
  go_wp2_with ((at_builtin;refine IN rfl _ _ 38 rfl w.heap.size 3 i0 _ 1 8 Tryz.underlying38 hi dn dC dz rfl (by decide) bV fW nS _ (xs.take k) rfl lY.out (some ⟨b,o + (k + 1),none⟩) (c - (k + 1)) (xs.drop (k + 1)) (by rw [mJ.out];rfl) wP.out (fun h=>by cases h) (by have h1:=mJ.out;have h2:=mb.out;rw [h1,h2];unfold maxLen;omega) (by have h1:=mJ.out;have h2:=mb.out;rw [h1,h2];omega) zW ?_;intro v10 IH vI uz;obtain⟨Y,gV,ax,q1,gv,mm⟩:=vI.form fW;clear q1 gv mm;rw [Af.out] at ax;subst ax))
  exact aaK
theorem aag {p:Prop} (h:p:=by
 go_in
 go_upto_region 1 with fail
 refine fe fun aG au ai U=>?_
 have I:=au;have aC:=ai.aM;have ak:=U.aM;have Bc:=ai.lt;have fQ:=U.lt
 go_wp2_with fail
 refine (lj ag af sp an ws c2 ao c3 ad h2 h3 cp _ bo.out _ (dQ.out.ae (aj I az)) (cQ.out.ae (aj I az))).mono ?_
 rintro e aJ ⟨rfl,aL⟩
 have al:=be aG aL;replace I:=aj I al;replace ai:=ai.to al;clear aC;have aC:=ai.aM;replace U:=U.to al;clear ak;have ak:=U.aM;have dM:=U.iE;have pn:=ai.lt;have lV:=U.lt
 go_wp2
 clear aC ak
 refine gF 0 fun cD aE=>?_
 replace I:=aE.aH I;replace ai:=aE.dV ai;replace U:=aE.hV U;have xN:=aE.sz;have aC:=ai.aM;have ak:=U.aM
 exact hD ⟨rfl,I⟩ (by simp [results,Tryz.results239,go_sem,ak])):p:=h
theorem amN (ag af sp:Int) (an:Option Addr) (c2:Nat) (ws:List Int) (ao:Option Addr) (c3:Nat) (ad:List aO) (h2:ws.length≤1048576) (h3:ad.length≤1048576) (n2:an= none→ws= []∧c2= 0) (n3:ao= none→ad= []∧c3= 0) (cp:ws.length≤c2) (ef:ad.length≤c3) (ax:lP ⟨ag,af,sp,ws,ad⟩ =false) (w:World) (bw:aS 1 bV w an ws) (bt:aS 3 aO.cells w ao ad):
 Calls Tryz.prog 239 #[.agg #[ag,af,sp,.slice an ws c2,.slice ao ad c3]] w fun e ah=>e= .returned (.tuple #[.agg #[(0:Int),(0:Int),(0:Int),.slice none 0 0,.slice none 0 0],(0:Int),false])∧Below w w ah:=by
 have dQ:=J bw;have cQ:=J bt;have iU:=J n2;have iK:=J n3;have vq:=J ef;clear bw bt n2 n3 ef
 cases hf:gd ag af sp ws ad
 ·have bo:=J hf
  clear hf ax
  exact aag
 ·cases aV:(sp == 0)
  case false=>
   have Es:(sp != 0)= true:=by rw [bne,aV];rfl
   have bo:=J hf;clear hf ax aV
   exact aag
  case true=>
   have qp:ws.length= 0:=by
    exact ZL
   have Es:(sp != 0)= false:=by rw [bne,aV];rfl
   obtain rfl:=List.length_eq_zero_iff.1 qp
   have bo:=J hf;clear hf ax aV qp
   go_in
   go_upto_region 1 with fail
   refine fe fun aG au ai U=>?_
   have I:=au;have aC:=ai.aM;have ak:=U.aM;have Bc:=ai.lt;have fQ:=U.lt
   go_wp2_with fail
   refine (lj ag af sp an [] c2 ao c3 ad h2 h3 cp _ bo.out _ (dQ.out.ae (aj I az)) (cQ.out.ae (aj I az))).mono ?_
   rintro e aJ ⟨rfl,aL⟩
   have al:=be aG aL;replace I:=aj I al;replace ai:=ai.to al;clear aC;have aC:=ai.aM;replace U:=U.to al;clear ak;have ak:=U.aM;have dM:=U.iE;have pn:=ai.lt;have lV:=U.lt
   go_wp2
   clear aC ak
   refine gF 0 fun cD aE=>?_
   replace I:=aE.aH I;replace ai:=aE.dV ai;replace U:=aE.hV U;have xN:=aE.sz;have aC:=ai.aM;have ak:=U.aM
   exact hD ⟨rfl,I⟩ (by simp [results,Tryz.results239,go_sem,ak])
end Go.Proofs.YtlaaemmmbodaaaaGreatDoor
