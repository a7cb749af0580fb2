/- The law of scripts: running a script runs its lines one after the other, and a script of one line is that command alone; for every input; no conditions. -/
import Derived.Deep.RegionHeld3
import Derived.Test.YtlaaemmmbodaaaaGreatDoorFx13
set_option maxHeartbeats 16000000
set_option maxRecDepth 100000
set_option linter.all false
open Go Go.RowKit Go.ChangeShapes Go.WideShapes Go.ChangeAt Go.Deep Go.ChangeMaps Go.Proofs.YtlaaemmmbodaaaaGreatDoor
variable {rs:List aM} {k:Nat} {x:dE} {ls:List ByteArray} {v:Value} {t a:VU} {u:Prop}
namespace Go.Proofs.YtlaaemmmbodaaaaGreatDoor
theorem nq (h:u:=by have:=sE.size;simp;omega):u:=h
def HA (n:Int):ByteArray:=if n= 1 then (⟨#[109,97,106,111,114,105,116,121]⟩ :ByteArray) else if n= 2 then (⟨#[116,119,111,45,116,104,105,114,100,115]⟩ :ByteArray) else (⟨#[97,108,108]⟩ :ByteArray)
def SD (r:aM):ByteArray:=eW r.id ++ (⟨#[32]⟩ :ByteArray) ++ r.name ++ (⟨#[32,114,97,110,107,32]⟩ :ByteArray) ++ eW r.hS
def SE (r:aM):ByteArray:=if r.second then SD r ++ (⟨#[32,115,101,99,111,110,100]⟩ :ByteArray) else SD r
def SF (r:aM):ByteArray:=if r.nc then SE r ++ (⟨#[32,100,101,98,97,116,101]⟩ :ByteArray) else SE r
def aGk (r:aM):ByteArray:=if r.nM then SF r ++ (⟨#[32,97,109,101,110,100]⟩ :ByteArray) else SF r
def Ff (r:aM):ByteArray:=aGk r ++ (⟨#[32,98,121,32]⟩ :ByteArray) ++ HA r.need
def xm (rs:List aM):Nat->ByteArray
 | 0=>⟨#[]⟩
 | k + 1=>match rs[k]? with | some r=>xm rs k ++ (Ff r ++ (⟨#[10]⟩ :ByteArray)) | none=>xm rs k
theorem aGm {r:aM} (h:rs[k]? =some r):xm rs (k + 1)= xm rs k ++ (Ff r ++ (⟨#[10]⟩ :VU)):=by rw [xm,h]
theorem aHB (n:Int):(HA n).size<=10:=by unfold HA;split <;> (try split) <;> decide
theorem azi (r:aM) (az:tc r= true) (w:World) (dN:jV w) (ru:Cg w):
 Rd 127 #[.agg #[r.id,r.name,r.hS,r.second,r.nc,r.nM,r.need]] w λe ah=>e= .returned (.string (Ff r))/\Below w w ah:=by
 obtain⟨i,n,k,s,d,a,x,ok⟩:=r
 obtain⟨t1,t2,t3,t4,t5,t6,t7⟩:=yd az
 simp only at t1 t2 t3 t4 t5 t6 t7
 have hm:n.size<=10:=by simp [vZ,fB] at t7;omega
 clear az t7;have po:=bP w (.cells #[i,n,k,s,d,a,x] 89);have bX:=I (dN.ad po)
 obtain⟨cy,aS⟩:=ru.ad po
 have q1:∀K:aD (w.alloc (.cells #[i,n,k,s,d,a,x] 89)).heap.size (w.alloc (.cells #[i,n,k,s,d,a,x] 89)),K.world.cell? ⟨0,x.toNat,none⟩ =some (.string (HA x)):=λK=>by
  refine (K.cell (p:=⟨0,x.toNat,none⟩) cy).trans (aS x.toNat (HA x) ?_)
  rcases (show x= 1\/x= 2\/x= 3 by omega) with rfl | rfl | rfl <;> rfl
 clear cy aS po ru;have dJ:=aHB x;have n1:=mQ i KK;have n2:=mQ k KK;have dD:=boxed w #[i,n,k,s,d,a,x] 89 0 _ rfl;have dc:=boxed w #[i,n,k,s,d,a,x] 89 1 _ rfl;have dr:=boxed w #[i,n,k,s,d,a,x] 89 2 _ rfl
 have eb:=boxed w #[i,n,k,s,d,a,x] 89 3 _ rfl;have eL:=boxed w #[i,n,k,s,d,a,x] 89 4 _ rfl;have gw:=boxed w #[i,n,k,s,d,a,x] 89 5 _ rfl;have hN:=boxed w #[i,n,k,s,d,a,x] 89 6 _ rfl
 obtain⟨m,rfl⟩ :∃m:Nat,x= m:=⟨x.toNat,by omega⟩
 simp only [Int.toNat_natCast] at q1
 have vB:m < 4:=KK
 cases s <;> cases d <;> cases a
 all_goals
  go_in
  go_wp2
  refine eQ PV PV ?_
  repeat (go_big_quiet_step ((first | (go_at_call 70;exact aD.call _ Xm (Bl _ KK KK _ (bX.o.ad (aD.ad _)))))))
  refine VF ?_
  intro K
  have c3:=eb K;have c4:=eL K;have c5:=gw K;have AK:=hN K;have aCM:=q1 K
  go_wp2
  go_ret
  exact⟨rfl,ai (bP _ _) K.ad⟩
theorem aGl (r:aM) (az:tc r= true):(Ff r).size<=120:=by
 obtain⟨t1,t2,t3,t4,t5,t6,t7⟩:=yd az
 have hm:r.name.size<=10:=by simp [vZ,fB] at t7;omega
 have n1:=mQ r.id KK;have n2:=mQ r.hS KK;have dJ:=aHB r.need
 have h0:(SD r).size<=70:=by
  unfold SD
  simp only [YU]
  have e1:((⟨#[32]⟩ :VU):VU).size= 1:=rfl;have e2:((⟨#[32,114,97,110,107,32]⟩ :VU):VU).size= 6:=rfl
  omega
 have h1:(SE r).size<=77:=by
  unfold SE;split
  .rw [YU];have e:((⟨#[32,115,101,99,111,110,100]⟩ :VU):VU).size= 7:=rfl;omega
  .omega
 have h2:(SF r).size<=84:=by
  unfold SF;split
  .rw [YU];have e:((⟨#[32,100,101,98,97,116,101]⟩ :VU):VU).size= 7:=rfl;omega
  .omega
 have h3:(aGk r).size<=90:=by
  unfold aGk;split
  .rw [YU];have e:((⟨#[32,97,109,101,110,100]⟩ :VU):VU).size= 6:=rfl;omega
  .omega
 unfold Ff
 rw [YU,YU]
 have e:((⟨#[32,98,121,32]⟩ :VU):VU).size= 4:=rfl
 omega
theorem SG (h:jR rs= true):∀k,(xm rs k).size<=121 * k
 | 0=>XZ _
 | k + 1=>by
  have eR:=SG h k
  cases bu:rs[k]? with
  | none=>rw [xm,bu];dsimp only;omega
  | some r=>
   have:=aGl r (ye h bu)
   rw [aGm bu,YU,YU]
   have e:((⟨#[10]⟩ :VU):VU).size= 1:=rfl
   omega
theorem azk (A:QR) (c:Nat) (rs:List aM) (bu:jR rs= true) (w:World) (bB:aX 7 aM.cells w A rs) (dN:jV w) (ru:Cg w):
 Rd 68 #[A rs c] w λe ah=>e= .returned (.string (xm rs rs.length))/\Below w w ah:=by
 have aT:=(OK bu).1;have wi:=I (⟨dN,ru⟩ :jV w/\Cg w);replace bu:=I bu;clear dN ru
 go_in
 go_wp2
 go_loopw [3,8] (λt i wr=>∃k:Nat,k<=rs.length/\t= .string (xm rs k)/\i= .int .i64 k/\Below w w wr) (λ_ i _=>rs.length - (intOf i).toNat)
 case atStart=>exact⟨0,Xd _,rfl,rfl,Wt _ _⟩
 case round=>
  obtain⟨k,ax,rfl,rfl,aB⟩:=hrel
  have Hh:=SG bu.o k
  by_cases bC:k < rs.length
  .obtain⟨df,oC,x,rfl,eN,av,bO⟩:=bB.at_ aB bC
   have xb:=ye bu.o av;have Bi:=aGl x xb;replace av:=I av;replace xb:=I xb;have cG:=bO 0 _ rfl;have dJ:=bO 1 _ rfl;have dt:=bO 2 _ rfl;have mR:=bO 3 _ rfl;have lP:=bO 4 _ rfl;have nD:=bO 5 _ rfl;have tN:=bO 6 _ rfl
   simp only [XW] at cG
   have g0:=cG (aD.self _);have g1:=dJ (aD.self _);have g2:=dt (aD.self _);have g3:=mR (aD.self _);have g4:=lP (aD.self _);have g5:=nD (aD.self _);have g6:=tN (aD.self _)
   simp only [aD.self] at g0
   simp only [aD.self] at g1
   simp only [aD.self] at g2
   simp only [aD.self] at g3
   simp only [aD.self] at g4
   simp only [aD.self] at g5
   simp only [aD.self] at g6
   clear bO cG dJ dt mR lP nD tN
   go_wp2_with fail
   refine (azi x xb.o _ (wi.o.1.ad (ai aB (bP _ _))) (wi.o.2.ad (ai aB (bP _ _)))).mono ?_
   rintro e aI ⟨rfl,aQ⟩
   have CF:Below w w aI:=ai (ai aB (bP _ _)) aQ
   have aP:(Ff x ++ ((⟨#[10]⟩ :VU):VU)).size<=121:=by rw [YU];have e:((⟨#[10]⟩ :VU):VU).size= 1:=rfl;omega
   go_wp2
   go_roundw
   case rel=>exact⟨k + 1,by omega,by rw [aGm av.o],by go_num,CF⟩
   case measure=>(simp [intOf] <;> omega)
  .obtain rfl:k= rs.length:=KK
   go_wp2
   go_ret
   exact⟨rfl,aB⟩
theorem awE (w:World):Rd 209 #[] w λe ah=>e= .returned (.slice w 4 4)/\ah= w.alloc (.cells #[.string ⟨#[]⟩,.string (⟨#[109,97,106,111,114,105,116,121]⟩ :VU),.string (⟨#[116,119,111,45,116,104,105,114,100,115]⟩ :VU),.string (⟨#[97,108,108]⟩ :VU)] 9):=by
 go_in
 go_wp2
 go_ret
 exact⟨rfl,rfl⟩
theorem awD (r:aM) (az:tc r= true) (w:World):
 Rd 129 #[.agg #[r.id,r.name,r.hS,r.second,r.nc,r.nM,r.need]] w λe ah=>e= .returned (.string (Ff r))/\Below w w ah:=by
 obtain⟨i,n,k,s,d,a,x,ok⟩:=r
 obtain⟨t1,t2,t3,t4,t5,t6,t7⟩:=yd az
 simp only at t1 t2 t3 t4 t5 t6 t7
 have hm:n.size<=10:=by simp [vZ,fB] at t7;omega
 clear az t7;have dJ:=aHB x;have n1:=mQ i KK;have n2:=mQ k KK;have dD:=boxed w #[i,n,k,s,d,a,x] 89 0 _ rfl;have dc:=boxed w #[i,n,k,s,d,a,x] 89 1 _ rfl;have dr:=boxed w #[i,n,k,s,d,a,x] 89 2 _ rfl
 have eb:=boxed w #[i,n,k,s,d,a,x] 89 3 _ rfl;have eL:=boxed w #[i,n,k,s,d,a,x] 89 4 _ rfl;have gw:=boxed w #[i,n,k,s,d,a,x] 89 5 _ rfl
 obtain⟨m,rfl⟩ :∃m:Nat,x= m:=⟨x.toNat,by omega⟩
 have vB:m < 4:=KK
 have Bb:[⟨#[]⟩,(⟨#[109,97,106,111,114,105,116,121]⟩ :VU),(⟨#[116,119,111,45,116,104,105,114,100,115]⟩ :VU),(⟨#[97,108,108]⟩ :VU)][m]? =some (HA (m:Int)):=by
  rcases (show m= 1\/m= 2\/m= 3 by omega) with rfl | rfl | rfl <;> rfl
 replace Bb:=I Bb
 have Wi:∀K:aD (w.alloc (.cells #[i,n,k,s,d,a,.int .i64 (m:Int)] 89)).heap.size (w.alloc (.cells #[i,n,k,s,d,a,.int .i64 (m:Int)] 89)),ay K.world w 89 #[i,n,k,s,d,a,.int .i64 (m:Int)]:=λK=>(ay.new w 89 _).ad K.ad Wn
 obtain⟨C,Es⟩ :∃C:World->Prop,∀V,C V↔ay V w 89 #[i,n,k,s,d,a,.int .i64 (m:Int)]:=⟨_,λ_=>Xt⟩
 replace Wi:=I Wi;replace Es:=I Es;have aoi:=I (λV (h:C V)=>(((Es.o V).1 h).cell 6).trans (show _= some (.int .i64 (m:Int)) from rfl));have aaD:=I (λV (h:C V) o=>(Es.o _).2 (((Es.o V).1 h).alloc o):∀V,C V->∀o,C (V.alloc o));have Am:=I (λV (h:C V)=>(Es.o V.drew).2 (show V.drew.heap[w.heap.size]? =_ from (Es.o V).1 h):∀V,C V->C V.drew)
 cases s <;> cases d <;> cases a
 all_goals
  go_in
  go_wp2
  refine eQ PV PV ?_
  repeat (go_big_quiet_step ((first | (go_at_call 73;exact aD.call _ Xm (py _ KK KK _)))))
  refine VF ?_
  intro K
  have c3:=eb K;have c4:=eL K;have c5:=gw K
  go_upto_region 8 with fail
  have Er:=(Es.o _).2 (Wi.o K)
  haveI:Nonempty (cM C):=⟨⟨K.world,Er⟩⟩
  haveI:Nonempty (cM (λ_=>True)):=⟨⟨K.world,trivial⟩⟩
  have EU:=λUA:cM C=>aoi.o UA.world UA.holds
  refine tV C [([3,4],[0,1],2,false),([],[5],6,false)] [] [7,8] PV PV (Am.o _ Er) ?_
  have adP:=I (Am.o _ Er);have adM:Below w w K.world.drew:=(ai (bP _ _) K.ad).drew
  generalize K.world.drew= OZ at *
  clear c3 c4 c5 Er
  refine jj λUA arX=>?_
  refine YB ?_
  repeat go_big_quiet_step (fail)
  refine VF ?_
  refine YB ?_
  repeat go_big_quiet_step (fail)
  refine VF ?_
  refine XV ?_
  clear EU
  go_wp2_with fail
  refine (awE _).mono ?_
  rintro e aI ⟨rfl,rfl⟩
  go_wp2
  refine nK (aaD.o _ adP.o _) (arX _ _ ?_)
  refine jj λaCs arY=>?_
  refine VF ?_
  refine Xp ?_
  repeat go_big_quiet_step (fail)
  refine VF ?_
  refine XV ?_
  have pe:(OZ.alloc (.cells #[.string ⟨#[]⟩,.string (⟨#[109,97,106,111,114,105,116,121]⟩ :VU),.string (⟨#[116,119,111,45,116,104,105,114,100,115]⟩ :VU),.string (⟨#[97,108,108]⟩ :VU)] 9)).cell? ⟨OZ,m,none⟩ =some (.string (HA (m:Int))):=by
   refine ((ay.new OZ 9 _).cell m).trans ?_
   have:=Bb.o
   rcases (show m= 1\/m= 2\/m= 3 by omega) with rfl | rfl | rfl <;> rfl
  have arM:Below w w (OZ.alloc (.cells #[.string ⟨#[]⟩,.string (⟨#[109,97,106,111,114,105,116,121]⟩ :VU),.string (⟨#[116,119,111,45,116,104,105,114,100,115]⟩ :VU),.string (⟨#[97,108,108]⟩ :VU)] 9)):=adM.alloc adM.size _;have arO:=I (aaD.o _ adP.o (.cells #[.string ⟨#[]⟩,.string (⟨#[109,97,106,111,114,105,116,121]⟩ :VU),.string (⟨#[116,119,111,45,116,104,105,114,100,115]⟩ :VU),.string (⟨#[97,108,108]⟩ :VU)] 9))
  generalize OZ.alloc (.cells #[.string ⟨#[]⟩,.string (⟨#[109,97,106,111,114,105,116,121]⟩ :VU),.string (⟨#[116,119,111,45,116,104,105,114,100,115]⟩ :VU),.string (⟨#[97,108,108]⟩ :VU)] 9)= ic at *
  go_wp2
  refine nK arO.o (arY _ _ ?_)
  refine qu ?_
  refine VF ?_
  refine YB ?_
  repeat go_big_quiet_step (fail)
  refine VF ?_
  go_wp2
  go_ret
  exact⟨rfl,arM⟩
theorem awF (A:QR) (c:Nat) (rs:List aM) (bu:jR rs= true) (w:World) (bB:aX 7 aM.cells w A rs):
 Rd 71 #[A rs c] w λe ah=>e= .returned (.string (xm rs rs.length))/\Below w w ah:=by
 have aT:=(OK bu).1;replace bu:=I bu
 go_in
 go_wp2
 go_loopw [3,4] (λt i wr=>∃k:Nat,k<=rs.length/\t= .string (xm rs k)/\i= .int .i64 k/\Below w w wr) (λ_ i _=>rs.length - (intOf i).toNat)
 case atStart=>exact⟨0,Xd _,rfl,rfl,Wt _ _⟩
 case round=>
  obtain⟨k,ax,rfl,rfl,aB⟩:=hrel
  have Hh:=SG bu.o k
  by_cases bC:k < rs.length
  .obtain⟨df,oC,x,rfl,eN,av,bO⟩:=bB.at_ aB bC
   have xb:=ye bu.o av;have Bi:=aGl x xb;replace av:=I av;replace xb:=I xb;have cG:=bO 0 _ rfl;have dJ:=bO 1 _ rfl;have dt:=bO 2 _ rfl;have mR:=bO 3 _ rfl;have lP:=bO 4 _ rfl;have nD:=bO 5 _ rfl;have tN:=bO 6 _ rfl
   simp only [XW] at cG
   have g0:=cG (aD.self _);have g1:=dJ (aD.self _);have g2:=dt (aD.self _);have g3:=mR (aD.self _);have g4:=lP (aD.self _);have g5:=nD (aD.self _);have g6:=tN (aD.self _)
   simp only [aD.self] at g0
   simp only [aD.self] at g1
   simp only [aD.self] at g2
   simp only [aD.self] at g3
   simp only [aD.self] at g4
   simp only [aD.self] at g5
   simp only [aD.self] at g6
   clear bO cG dJ dt mR lP nD tN
   go_wp2_with fail
   refine (awD x xb.o _).mono ?_
   rintro e aI ⟨rfl,aQ⟩
   have CF:Below w w aI:=ai aB aQ
   have aP:(xm rs k ++ Ff x).size<=121 * k + 120:=by rw [YU];omega
   go_wp2
   go_roundw
   case rel=>exact⟨k + 1,by omega,by rw [aGm av.o,<- ByteArray.append_assoc],by go_num,CF⟩
   case measure=>(simp [intOf] <;> omega)
  .obtain rfl:k= rs.length:=KK
   go_wp2
   go_ret
   exact⟨rfl,aB⟩
theorem axl {m:di} (h:qW m= true):ee m.bT m.ch= true:=by
 simp only [qW,sc,Xa] at h;exact h.1
def uq (x:dE):Nat->ByteArray
 | 0=>xm x.bT x.bT.length
 | k + 1=>match x.ch[k]? with
  | some q=>(match jb x.bT q.rule with
   | some r=>(if q.sec then uq x k ++ (r.name ++ (⟨#[32,98,121,32]⟩ :ByteArray) ++ eW q.mover) ++ (⟨#[32,115,101,99,111,110,100,101,100]⟩ :ByteArray) else uq x k ++ (r.name ++ (⟨#[32,98,121,32]⟩ :ByteArray) ++ eW q.mover)) ++ (⟨#[10]⟩ :ByteArray)
   | none=>uq x k)
  | none=>uq x k
theorem Vz {q:aZ} {r:aM} (bt:x.ch[k]? =some q) (bu:jb x.bT q.rule= some r):uq x (k + 1)= (if q.sec then uq x k ++ (r.name ++ (⟨#[32,98,121,32]⟩ :VU) ++ eW q.mover) ++ (⟨#[32,115,101,99,111,110,100,101,100]⟩ :VU) else uq x k ++ (r.name ++ (⟨#[32,98,121,32]⟩ :VU) ++ eW q.mover)) ++ (⟨#[10]⟩ :VU):=by
 rw [uq,bt];dsimp only;rw [bu]
def Vx (x:dE):ByteArray:=uq x x.ch.length ++ (⟨#[115,112,101,97,107,105,110,103,32]⟩ :ByteArray) ++ eW x.dF ++ (⟨#[59,32,111,117,116,99,111,109,101,115,32]⟩ :ByteArray) ++ eW (x.bQ.length:Int) ++ (⟨#[59,32,114,101,99,111,114,100,115,32]⟩ :ByteArray) ++ eW x.bM ++ (⟨#[10]⟩ :ByteArray)
def wK (x:dE):Value:=if gJ x then .tuple #[.string (Vx x),.bool true] else .tuple #[.string ⟨#[]⟩,.bool false]
theorem arz (x:dE):∃s b,wK x= .tuple #[.string s,.bool b]:=by unfold wK;split <;> exact⟨_,_,rfl⟩
theorem acD (h:gJ x= true):ee x.bT x.ch= true/\(0<=x.dF/\x.dF<=99)/\x.bQ.length<=12/\(0<=x.bM/\x.bM<=30000):=by
 unfold gJ at h
 rw [Xa] at h
 obtain⟨hm,aT⟩:=h
 have h1:hG x.dw x.dp x.dF x.cz x.cC= true/\x.bQ.length<=12:=by
  have h2:=hm
  unfold qW sc at h2
  simp only [Xa,Xf] at h2
  exact⟨h2.2.1,h2.2.2.1⟩
 have h3:x.dF= 0\/fy x.dF= true:=by
  have h2:=h1.1
  unfold hG at h2
  simp only [Xa,Bool.or_eq_true,Xx] at h2
  exact h2.2.2.1
 refine⟨axl hm,?_,h1.2,?_⟩
 .rcases h3 with h3 | h3
  .omega
  .have:=qT.1 h3;omega
 .unfold ft.ok jJ dE.log at aT
  simp at aT
  have gp:=HP (ft.d ⟨x.bY,x.bW,x.bM⟩ ++ ft.p ⟨x.bY,x.bW,x.bM⟩);have gK:=OD (ft.d ⟨x.bY,x.bW,x.bM⟩ ++ ft.p ⟨x.bY,x.bW,x.bM⟩)
  omega
theorem Vy (h:ee x.bT x.ch= true):∀k,(uq x k).size<=1000 + 60 * k
 | 0=>by
  have h1:=(mS h).1;have h2:=SG h1 x.bT.length;have h3:=(OK h1).1
  unfold uq;omega
 | k + 1=>by
  have eR:=Vy h k
  cases bt:x.ch[k]? with
  | none=>rw [uq,bt];dsimp only;omega
  | some q=>
   obtain⟨r,bu⟩:=pB h bt
   rw [Vz bt bu]
   have h1:=RV (mS h).1 bu;have h2:=qT.1 (Oz h bt);have h3:=mQ q.mover KK;have e1:((⟨#[32,98,121,32]⟩ :VU):VU).size= 4:=rfl;have e2:((⟨#[32,115,101,99,111,110,100,101,100]⟩ :VU):VU).size= 9:=rfl;have e3:((⟨#[10]⟩ :VU):VU).size= 1:=rfl
   split <;> simp only [YU] <;> omega
theorem anU (h:u:=by
 replace aR:=aR.to aj;replace af:=aR.ca
 go_wp2
 go_ret2
 exact⟨rfl,(ai U ao)⟩):u:=h
theorem avb (x:dE) (aq au ak al aF:QR) (c0 aw c2 c3 c4:Nat) (h0:x.bT) (h1:x.ch) (h2:x.cz) (h3:x.cC) (h4:x.bQ) (cF:x.bY.size + x.bW.size<=1048576) (v:Value) (az:wK x= v) (w:World) (bk:aX 7 aM.cells w aq x.bT) (bg:aX 3 aZ.cells w au x.ch) (bp:aX 1 cE w ak x.cz) (bj:aX 3 aW.cells w al x.cC) (cD:aX 3 Out.cells w aF x.bQ) (ev:x.bT.length<=c0) (eU:x.ch.length<=aw) (cL:x.cz.length<=c2) (dS:x.cC.length<=c3) (hl:x.bQ.length<=c4) (bX:jV w) (fh:Cg w):
 Rd 28 #[.agg #[aq x.bT c0,au x.ch aw,x.dw,x.dp,x.dF,ak x.cz c2,al x.cC c3,aF x.bQ c4,x.bY,x.bW,x.bM]] w λe ah=>e= .returned v/\Below w w ah:=by
 subst az
 cases aB:gJ x
 .have cI:=I aB
  have e:wK x= .tuple #[.string ⟨#[]⟩,false]:=by simp [wK,aB]
  rw [e]
  clear aB e
  go_in
  go_upto_region 1 with fail
  refine dh λaO ar aR=>?_
  obtain⟨bk,bg,bp,bj,cD⟩:=Xv bk bg bp bj cD ar;replace bX:=bX.ad ar;have U:=ar;have af:=aR.ca;have tW:=aR.lt
  go_wp2_with fail
  refine (zN x h0 h1 h2 h3 h4 cF _ cI.o (bk.ad ao) (bg.ad ao) (bp.ad ao) (bj.ad ao) (cD.ad ao) ev eU cL dS hl (bX.ad ao)).mono ?_
  rintro e aI ⟨rfl,aQ⟩
  have aj:=be aO aQ;replace U:=ai U aj;obtain⟨bk,bg,bp,bj,cD⟩:=Xv bk bg bp bj cD aj;replace bX:=bX.ad aj
  exact anU
 .have cI:=I aB
  have e:wK x= .tuple #[.string (Vx x),true]:=by simp [wK,aB]
  rw [e]
  obtain⟨aS,kJ,dn,aN⟩:=acD aB
  have BV:=I aS;have uc:=I (mS aS).1;clear aB e aS
  go_in
  go_upto_region 1 with fail
  refine dh λaO ar aR=>?_
  obtain⟨bk,bg,bp,bj,cD⟩:=Xv bk bg bp bj cD ar;replace bX:=bX.ad ar;replace fh:=fh.ad ar;have U:=ar;have af:=aR.ca;have tW:=aR.lt
  go_wp2_with fail
  refine (zN x h0 h1 h2 h3 h4 cF _ cI.o (bk.ad ao) (bg.ad ao) (bp.ad ao) (bj.ad ao) (cD.ad ao) ev eU cL dS hl (bX.ad ao)).mono ?_
  rintro e aI ⟨rfl,aQ⟩
  have aj:=be aO aQ;replace U:=ai U aj;obtain⟨bk,bg,bp,bj,cD⟩:=Xv bk bg bp bj cD aj;replace bX:=bX.ad aj;replace fh:=fh.ad aj;replace aR:=aR.to aj;replace af:=aR.ca;have tW:=aR.lt
  go_upto_region 4 with fail
  refine dh λrb aY aC=>?_
  obtain⟨bk,bg,bp,bj,cD⟩:=Xv bk bg bp bj cD aY;replace bX:=bX.ad aY;replace fh:=fh.ad aY;replace U:=ai U aY;have df:=aC.aH;replace aR:=aR.to aY;replace af:=aR.ca;have jt:=aC.lt;have tW:=aR.lt
  go_wp2_with fail
  refine (azk aq c0 x.bT uc.o _ (bk.ad ao) (bX.ad ao) (fh.ad ao)).mono ?_
  rintro e bH ⟨rfl,db⟩
  have cj:=be rb db;replace U:=ai U cj;obtain⟨bk,bg,bp,bj,cD⟩:=Xv bk bg bp bj cD cj;replace bX:=bX.ad cj;replace fh:=fh.ad cj;replace aC:=aC.to cj;replace df:=aC.aH;replace aR:=aR.to cj;replace af:=aR.ca;replace bk:=I bk;replace bg:=I bg;replace bX:=I bX
  clear bp bj cD fh;have jt:=aC.lt;have tW:=aR.lt
  go_wp2
  clear af df
  go_loopw [5,19] (λt i wr=>∃k:Nat,k<=x.ch.length/\t= .string (uq x k)/\i= .int .i64 k/\Below bH bH wr) (λ_ i _=>x.ch.length - (intOf i).toNat)
  case atStart=>exact⟨0,Xd _,rfl,rfl,Wt _ _⟩
  case round=>
   obtain⟨k,ax,rfl,rfl,aB⟩:=hrel
   have Hh:=Vy BV.o k;have WR:=(mS BV.o).2.1
   by_cases bC:k < x.ch.length
   .obtain⟨eV,iA,⟨qr,cQ,ei⟩,rfl,eN,bt,hO⟩:=bg.o.at_ aB bC
    obtain⟨r,bu⟩:=pB BV.o bt
    have qn:=RV uc.o bu;have WX:=qT.1 (Oz BV.o bt)
    simp only at WX
    have EJ:=mQ cQ KK;have eS:=I bt;have rM:=I bu;have cG:=hO 0 _ rfl;have dJ:=hO 1 _ rfl;have dt:=hO 2 _ rfl
    simp only [XW] at cG
    have g0:=cG (aD.self _);have g1:=dJ (aD.self _);have g2:=dt (aD.self _)
    simp only [aD.self] at g0
    simp only [aD.self] at g1
    simp only [aD.self] at g2
    clear hO cG dJ dt bt bu
    go_upto_region 8 with fail
    refine Xi λgH YH eA=>?_;have hW:=ai aB YH
    clear g0 g1 g2;have uy:=aC.to hW
    have f0:=λK:aD gH gH=>((uy.ad K.ad uy.lt).cell 0).trans (show _= some (aq x.bT c0) from rfl)
    obtain⟨ho,q1,gM⟩:=ay.kF (λK:aD gH gH=>(eA.ad K.ad eA.lt))
    have Ug:=I (λK:aD gH gH=>(bk.o.ad hW).ad K.ad);have Uj:=I (λK:aD gH gH=>(bX.o.ad hW).ad K.ad)
    obtain⟨oS,uT,rk,rs,rd,yc,rx,Kn⟩:=r
    simp only at qn
    have hf:=λW=>(show (Instr.field 89 (.agg #[oS,uT,rk,rs,rd,yc,rx]) 1).run Tryz.prog W= .ok (.string uT) W by kernel_rfl)
    refine eQ PV PV ?_
    repeat (go_big_quiet_step ((first | (go_at_call 69;exact aD.call _ Xm (tQ h0 ⟨qr,cQ,ei⟩ ⟨oS,uT,rk,rs,rd,yc,rx,Kn⟩ rM.o (Ug.o _))) | (go_at_call 70;exact aD.call _ Xm (Bl _ KK KK _ (Uj.o _))))))
    refine VF ?_
    intro K
    have c2:=gM K;clear hf f0 ho q1 gM;have e1:((⟨#[32,98,121,32]⟩ :VU):VU).size= 4:=rfl
    have qQ:(uT ++ ((⟨#[32,98,121,32]⟩ :VU):VU) ++ eW cQ).size<=30:=by simp only [YU];omega
    have IG:=I (Vz eS.o rM.o)
    cases ei
    all_goals
     go_wp2
     go_roundw
     case rel=>exact⟨k + 1,by omega,by rw [IG.o];rfl,by go_num,ai hW K.ad⟩
     case measure=>(simp [intOf] <;> omega)
   .obtain rfl:k= x.ch.length:=KK
    have uy:=aC.to aB;have MZ:=aR.to aB
    have f4:=λK:aD wr wr=>((uy.ad K.ad uy.lt).cell 4).trans (show _= some (.int .i64 x.dF) from rfl)
    have f7:=λK:aD wr wr=>((uy.ad K.ad uy.lt).cell 7).trans (show _= some (aF x.bQ c4) from rfl)
    have f10:=λK:aD wr wr=>((MZ.ad K.ad MZ.lt).cell 10).trans (show _= some (.int .i64 x.bM) from rfl)
    have Uj:=I (λK:aD wr wr=>(bX.o.ad aB).ad K.ad);have n1:=mQ x.dF KK;have n2:=mQ (x.bQ.length:Int) KK;have n3:=mQ x.bM KK
    go_wp2
    refine eQ PV PV ?_
    repeat (go_big_quiet_step ((first | (go_at_call 70;exact aD.call _ Xm (Bl _ KK KK _ (Uj.o _))))))
    refine VF ?_
    intro K
    go_wp2
    go_ret2
    exact⟨rfl,ai U (ai aB K.ad)⟩
theorem awC (A:QR) (c:Nat) (xs:List aM) (bq:xs) (id:Int) (v:Int) (az:qS (λr=>r.id == id) xs= v) (w:World) (bB:aX 7 aM.cells w A xs):
 Rd 72 #[A xs c,id] w λe ah=>e= .returned v/\Below w w ah:=(xW bq v az bB).mono (λ_ _ ⟨h1,h2⟩=>⟨h1,h2 ▸ Wt _ _⟩)
theorem azU (x:dE) (aq au ak al aF:QR) (c0 aw c2 c3 c4:Nat) (h0:x.bT) (h1:x.ch) (h2:x.cz) (h3:x.cC) (h4:x.bQ) (cF:x.bY.size + x.bW.size<=1048576) (v:Value) (az:wK x= v) (w:World) (bk:aX 7 aM.cells w aq x.bT) (bg:aX 3 aZ.cells w au x.ch) (bp:aX 1 cE w ak x.cz) (bj:aX 3 aW.cells w al x.cC) (cD:aX 3 Out.cells w aF x.bQ) (ev:x.bT.length<=c0) (eU:x.ch.length<=aw) (cL:x.cz.length<=c2) (dS:x.cC.length<=c3) (hl:x.bQ.length<=c4):
 Rd 29 #[.agg #[aq x.bT.length c0,au x.ch.length aw,.int .i64 x.dw,.int .i64 x.dp,.int .i64 x.dF,ak x.cz.length c2,al x.cC.length c3,aF x.bQ.length c4,.string x.bY,.string x.bW,.int .i64 x.bM]] w λe ah=>e= .returned v/\Below w w ah:=by
 subst az
 cases aB:gJ x
 .have cI:=I aB
  have e:wK x= .tuple #[.string ⟨#[]⟩,.bool false]:=by simp [wK,aB]
  rw [e]
  clear aB e
  go_in
  go_upto_region 1 with fail
  refine dh λaO ar aR=>?_
  obtain⟨bk,bg,bp,bj,cD⟩:=Xv bk bg bp bj cD ar;have U:=ar;have af:=aR.ca;have tW:=aR.lt
  go_wp2_with fail
  refine (Bm x h0 h1 h2 h3 h4 cF _ cI.o (bk.ad ao) (bg.ad ao) (bp.ad ao) (bj.ad ao) (cD.ad ao) ev eU cL dS hl).mono ?_
  rintro e aI ⟨rfl,aQ⟩
  have aj:=be aO aQ;replace U:=ai U aj;obtain⟨bk,bg,bp,bj,cD⟩:=Xv bk bg bp bj cD aj
  exact anU
 .have cI:=I aB
  have e:wK x= .tuple #[.string (Vx x),.bool true]:=by simp [wK,aB]
  rw [e]
  obtain⟨aS,kJ,dn,aN⟩:=acD aB
  have BV:=I aS;have uc:=I (mS aS).1;clear aB e aS
  go_in
  go_upto_region 1 with fail
  refine dh λaO ar aR=>?_
  obtain⟨bk,bg,bp,bj,cD⟩:=Xv bk bg bp bj cD ar;have U:=ar;have af:=aR.ca;have tW:=aR.lt
  go_wp2_with fail
  refine (Bm x h0 h1 h2 h3 h4 cF _ cI.o (bk.ad ao) (bg.ad ao) (bp.ad ao) (bj.ad ao) (cD.ad ao) ev eU cL dS hl).mono ?_
  rintro e aI ⟨rfl,aQ⟩
  have aj:=be aO aQ;replace U:=ai U aj;obtain⟨bk,bg,bp,bj,cD⟩:=Xv bk bg bp bj cD aj;replace aR:=aR.to aj;replace af:=aR.ca;have tW:=aR.lt
  go_upto_region 4 with fail
  refine dh λrb aY aC=>?_
  obtain⟨bk,bg,bp,bj,cD⟩:=Xv bk bg bp bj cD aY;replace U:=ai U aY;have df:=aC.aH;replace aR:=aR.to aY;replace af:=aR.ca;have jt:=aC.lt;have tW:=aR.lt
  go_wp2_with fail
  refine (awF aq c0 x.bT uc.o _ (bk.ad ao)).mono ?_
  rintro e bH ⟨rfl,db⟩
  have cj:=be rb db;replace U:=ai U cj;obtain⟨bk,bg,bp,bj,cD⟩:=Xv bk bg bp bj cD cj;replace aC:=aC.to cj;replace df:=aC.aH;replace aR:=aR.to cj;replace af:=aR.ca;replace bk:=I bk;replace bg:=I bg;clear bp bj cD;have jt:=aC.lt;have tW:=aR.lt
  go_wp2
  clear af df
  go_loopw [5,6] (λt i wr=>∃k:Nat,k<=x.ch.length/\t= .string (uq x k)/\i= .int .i64 k/\Below bH bH wr) (λ_ i _=>x.ch.length - (intOf i).toNat)
  case atStart=>exact⟨0,Xd _,rfl,rfl,Wt _ _⟩
  case round=>
   obtain⟨k,ax,rfl,rfl,aB⟩:=hrel
   have zb:=aC.to aB;have axh:=(zb.cell 0).trans (show _= some (aq x.bT.length c0) from rfl);have axi:=(zb.cell 1).trans (show _= some (au x.ch.length aw) from rfl);have asf:=zb.lt;have Hh:=Vy BV.o k;have WR:=(mS BV.o).2.1
   by_cases bC:k < x.ch.length
   .obtain⟨eV,iA,⟨qr,cQ,ei⟩,rfl,eN,bt,hO⟩:=bg.o.at_ aB bC
    obtain⟨r,bu⟩:=pB BV.o bt
    have qn:=RV uc.o bu;have WX:=qT.1 (Oz BV.o bt)
    simp only at WX
    have EJ:=mQ cQ KK;have eS:=I bt;have rM:=I bu;have cG:=hO 0 _ rfl;have dJ:=hO 1 _ rfl;have dt:=hO 2 _ rfl
    simp only [XW] at cG
    have g0:=cG (aD.self _);have g1:=dJ (aD.self _);have g2:=dt (aD.self _)
    simp only [aD.self] at g0
    simp only [aD.self] at g1
    simp only [aD.self] at g2
    clear hO cG dJ dt bt bu
    go_upto_region 9 with fail
    refine Xi λgH YH eA=>?_;have hW:=ai aB YH
    clear g0 g1 g2 axh axi;have uy:=aC.to hW
    have f0:=λK:aD gH gH=>((uy.ad K.ad uy.lt).cell 0).trans (show _= some (aq x.bT.length c0) from rfl)
    obtain⟨ho,q1,gM⟩:=ay.kF (λK:aD gH gH=>(eA.ad K.ad eA.lt))
    have Ug:=I (λK:aD gH gH=>(bk.o.ad hW).ad K.ad)
    obtain⟨oS,uT,rk,rs,rd,yc,rx,Kn⟩:=r
    simp only at qn
    obtain⟨awn,JA,GR⟩:=uM rM.o
    have qL:=(Xg.1 GR).1;have aoh:=I JA
    obtain⟨apE,axJ,y,rfl,vw,hy,dC⟩:=(bk.o.ad hW).at_ (Wt _ _) qL
    obtain rfl:(⟨oS,uT,rk,rs,rd,yc,rx,Kn⟩ :aM)= y:=Wx (GR.symm.trans hy)
    have fC:=dC 0 _ rfl;have dM:=dC 1 _ rfl;have r2:=dC 2 _ rfl;have gS:=dC 3 _ rfl;have ll:=dC 4 _ rfl;have aHV:=dC 5 _ rfl;have aHW:=dC 6 _ rfl
    simp only [XW] at fC
    clear dC fC r2 gS ll aHV aHW hy GR JA
    refine eQ PV PV ?_
    repeat (go_big_quiet_step ((first | (go_at_call 72;exact aD.call _ Xm (awC (some ⟨apE,axJ,none⟩) c0 x.bT h0 qr awn aoh.o _ (Ug.o _))) | (go_at_call 73;exact aD.call _ Xm (py _ KK KK _)))))
    refine VF ?_
    intro K
    have c2:=gM K;clear f0 ho q1 gM dM;have e1:((⟨#[32,98,121,32]⟩ :VU):VU).size= 4:=rfl
    have qQ:(uq x k ++ uT ++ ((⟨#[32,98,121,32]⟩ :VU):VU) ++ eW cQ).size<=1500:=by simp only [YU];omega
    have IG:=I (Vz eS.o rM.o)
    cases ei
    all_goals
     go_wp2
     go_roundw
     case rel=>exact⟨k + 1,by omega,by rw [IG.o];simp [ByteArray.append_assoc],by go_num,ai hW K.ad⟩
     case measure=>(simp [intOf] <;> omega)
   .obtain rfl:k= x.ch.length:=KK
    have uy:=aC.to aB;have MZ:=aR.to aB
    have f4:=λK:aD wr wr=>((uy.ad K.ad uy.lt).cell 4).trans (show _= some (.int .i64 x.dF) from rfl)
    have f7:=λK:aD wr wr=>((uy.ad K.ad uy.lt).cell 7).trans (show _= some (aF x.bQ.length c4) from rfl)
    have f10:=λK:aD wr wr=>((MZ.ad K.ad MZ.lt).cell 10).trans (show _= some (.int .i64 x.bM) from rfl)
    have n1:=mQ x.dF KK;have n2:=mQ (x.bQ.length:Int) KK;have n3:=mQ x.bM KK
    go_wp2
    refine eQ PV PV ?_
    repeat (go_big_quiet_step ((first | (go_at_call 73;exact aD.call _ Xm (py _ KK KK _)))))
    refine VF ?_
    intro K
    go_wp2
    go_ret2
    exact⟨rfl,ai U (ai aB K.ad)⟩
theorem Va (x:dE) (l:VU):(qD x l).size<=200:=by
 unfold qD
 split
 .split
  .split
   .decide
   .unfold qb;split
    .decide
    .omega
  .decide
 .decide
def yf (x:dE) (ls:List ByteArray):Nat->dE
 | 0=>x
 | k + 1=>match ls[k]? with | some l=>lX (yf x ls k) l | none=>yf x ls k
def AM (x:dE) (l:ByteArray):ns:=⟨qD x l,by have:=Va x l;unfold maxLen;omega⟩
def vT (x:dE) (ls:List ByteArray):Nat->List ns
 | 0=>[]
 | k + 1=>match ls[k]? with | some l=>vT x ls k ++ [AM (yf x ls k) l] | none=>vT x ls k
theorem aiY {l:VU} (h:ls[k]? =some l):yf x ls (k + 1)= lX (yf x ls k) l/\vT x ls (k + 1)= vT x ls k ++ [AM (yf x ls k) l]:=by
 rw [yf,vT,h];exact⟨rfl,rfl⟩
theorem SL (h:gJ x= true):∀k,gJ (yf x ls k)= true
 | 0=>h
 | k + 1=>by
  unfold yf
  split
  .exact Gk (SL h k)
  .exact SL h k
theorem SM:∀k,k<=ls.length->(vT x ls k).length= k
 | 0,_=>rfl
 | k + 1,ax=>by
  have h:=Xj (l:=ls) (i:=k) KK
  rw [(aiY h).2,Xu,SM k KK];rfl
def oE (x:dE) (t:ByteArray):Bool:=gJ x && (decide (t.size<=4000) && decide ((hj 10 t).length<=30))
def nX (x:dE) (t:ByteArray):List ns:=if oE x t then vT x (hj 10 t) (hj 10 t).length else []
theorem aAA (x:dE) (t:VU):(nX x t).length<=30:=by
 unfold nX
 split
 .rename_i h
  unfold oE at h
  simp only [Xa,Xf] at h
  rw [SM _ (XZ _)];exact h.2.2
 .simp
section
variable {w W V:World} {bN bZ aU bd bI:Option Addr} {d0 d1 d2 d3 d4:Nat} {rs:List aM} {qs:List aZ} {ws:List Int} {ae:List aW} {os:List Out}
theorem sx.agk {B:Nat} {eZ:List ns} (h:sx w W bN d0 bZ d1 aU d2 bd d3 bI d4 rs qs ws ae os) (br:bn B 9 1 ns.cells W v eZ) (cy:W.grownBy V v.ownBlock):sx w V bN d0 bZ d1 aU d2 bd d3 bI d4 rs qs ws ae os:=h.imp id (λh=>
 ⟨h.jg.kept cy (h.jg.apart br WG),h.hx.kept cy (h.hx.apart br WG),h.fc.kept cy (h.fc.apart br WG),h.fE.kept cy (h.fE.apart br WG),h.kK.kept cy (h.kK.apart br WG)⟩)
end
theorem KA (y:ns):(ns.cells y).length= 1:=rfl
theorem ajE (y:ns) (u:Value) (h:u ∈ ns.cells y):u.oneCell'= true:=by simp [ns.cells] at h;subst h;rfl
theorem aIC (h:gJ x= false):oE x t= false/\nX x t= []:=by
 have e:oE x t= false:=by unfold oE;rw [h];rfl
 exact⟨e,by unfold nX;rw [e];rfl⟩
theorem anT (h:u:=by
 have e:oE x t= false:=by unfold oE;rw [Xe h];simp
 exact⟨e,by unfold nX;rw [e];rfl⟩):u:=h
theorem aIA (h:¬t.size<=4000):oE x t= false/\nX x t= []:=by
 exact anT
theorem aIB (h:¬(hj 10 t).length<=30):oE x t= false/\nX x t= []:=by
 exact anT
theorem aiX (h:gJ x= true) (h4:t.size<=4000) (h30:(hj 10 t).length<=30):oE x t= true/\nX x t= vT x (hj 10 t) (hj 10 t).length:=by
 have e:oE x t= true:=by unfold oE;rw [h,Xh h4,Xh h30];rfl
 exact⟨e,by unfold nX;rw [e];rfl⟩
theorem anQ (h:u:=by
 rw [Dx,tf]
 have cI:=I aN;clear Dx tf aN
 go_in
 go_upto_region 1 with fail
 refine dh λaO ar aR=>?_
 replace R:=R.ad ar;replace bX:=bX.ad ar;have U:=ar;have df:=aR.ca
 go_wp2_with fail
 refine (zN x Z.o.h0 Z.o.h1 Z.o.h2 Z.o.h3 Z.o.h4 cF _ cI.o ((R.ad ao)).fC ((R.ad ao)).dM ((R.ad ao)).r2 ((R.ad ao)).gS ((R.ad ao)).ll Z.o.ev Z.o.eU Z.o.cL Z.o.dS Z.o.hl ((bX.ad ao)).t).mono ?_
 rintro e aI ⟨rfl,aQ⟩
 have aj:=be aO aQ;replace U:=ai U aj;replace R:=R.ad aj;replace bX:=bX.ad aj;replace aR:=aR.to aj;replace df:=aR.ca
 go_wp2
 go_ret2
 exact⟨none,0,rfl,bn.nil,U⟩):u:=h
theorem anR (h:u:=by
 have mL:yf x ls (k + 1)= n2/\vT x ls (k + 1)= eZ ++ [(⟨z,CY⟩ :ns)]:=by
  obtain⟨dJ,dt⟩:=aiY (x:=x) aT.o
  rw [dJ,dt,fL.o.1,fL.o.2]
  refine⟨mN.o.1,?_⟩
  have:=mN.o.2
  subst this
  rfl
 go_wp2
 go_roundw
 case rel=>exact⟨k + 1,n2,_,_,xJ,lA,f0,lR,f1,lS,f2,lT,f3,lU,f4,by simp,by go_num,by omega,I mL,aeP,aec,kR,fb,aeh,aee,fm⟩
 case measure=>simp [intOf];omega):u:=h
theorem anS (h:u:=by
 obtain rfl:k= ls.length:=KK
 go_wp2
 go_ret2
 exact⟨Y,y,by rw [fL.o.2];rfl,by rw [fL.o.2];exact DM.o,U⟩):u:=h
theorem afR (x:dE) {aq au ak al aF:QR} {c0 aw c2 c3 c4:Nat} (Z:fa aq au ak al aF c0 aw c2 c3 c4 x.bT x.ch x.cz x.cC x.bQ) (cF:x.bY.size + x.bW.size<=1048576) (t:VU) (cJ:t.size<=1048576) {w:World} (R:eF w aq au ak al aF x.bT x.ch x.cz x.cC x.bQ) (bX:ob w):
 Rd 25 #[.agg #[aq x.bT c0,au x.ch aw,x.dw,x.dp,x.dF,ak x.cz c2,al x.cC c3,aF x.bQ c4,x.bY,x.bW,x.bM],t] w λe ah=>∃D d,e= .returned (.tuple #[.slice D (nX x t).length d,.bool (oE x t)])/\bn w 9 1 ns.cells ah (.slice D (nX x t).length d) (nX x t)/\Below w w ah:=by
 obtain⟨i0,bo,dP,dZ,dV⟩:=Xo Da
 replace Z:=I Z;have Ps:=I bX;have gu:=I R
 cases aN:gJ x
 .obtain⟨Dx,tf⟩:=aIC (t:=t) aN
  exact anQ
 .by_cases h4:t.size<=4000
  rotate_left
  .have fI:(4000:Int) < (t.size:Int):=KK
   have eI:decide ((4000:Int) < (t.size:Int))= true:=Xh fI
   obtain⟨Dx,tf⟩:=aIA (x:=x) h4
   exact anQ
  .have fI:¬(4000:Int) < (t.size:Int):=KK
   have eI:decide ((4000:Int) < (t.size:Int))= false:=Xe fI
   by_cases h30:(hj 10 t).length<=30
   rotate_left
   .obtain⟨Dx,tf⟩:=aIB (x:=x) h30
    rw [Dx,tf]
    have cI:=I aN;clear Dx tf aN;have rO:=I (λW (h:Cf W)=>XE t 10 cJ W h)
    obtain⟨ls,mO⟩ :∃ls,hj 10 t= ls:=⟨_,rfl⟩
    rw [mO] at rO h30
    clear mO
    have hH:(30:Int) < (ls.length:Int):=KK
    have ed:decide ((30:Int) < (ls.length:Int))= true:=Xh hH
    go_in
    go_upto_region 1 with fail
    refine dh λaO ar aR=>?_
    replace R:=R.ad ar;replace bX:=bX.ad ar;have U:=ar;have df:=aR.ca
    go_wp2_with fail
    refine (zN x Z.o.h0 Z.o.h1 Z.o.h2 Z.o.h3 Z.o.h4 cF _ cI.o ((R.ad ao)).fC ((R.ad ao)).dM ((R.ad ao)).r2 ((R.ad ao)).gS ((R.ad ao)).ll Z.o.ev Z.o.eU Z.o.cL Z.o.dS Z.o.hl ((bX.ad ao)).t).mono ?_
    rintro e aI ⟨rfl,aQ⟩
    have aj:=be aO aQ;replace U:=ai U aj;replace R:=R.ad aj;replace bX:=bX.ad aj;replace aR:=aR.to aj;replace df:=aR.ca
    go_wp2_with fail
    refine (rO.o aI ((bX.ad ao)).m).mono ?_
    rintro e bw ⟨UL,wn,rfl,qe,bG⟩
    have aY:=be aI bG;replace U:=ai U aY;replace R:=R.ad aY;replace bX:=bX.ad aY;replace aR:=aR.to aY;replace df:=aR.ca;clear qe
    go_wp2
    go_ret2
    exact⟨none,0,rfl,bn.nil,U⟩
   .obtain⟨Dx,tf⟩:=aiX aN h4 h30
    rw [Dx,tf]
    have cI:=I aN;have rO:=I (λW (h:Cf W)=>XE t 10 cJ W h);have DU:=I (λl (aT:l ∈ hj 10 t)=>HU aT);have ew:=OT 10 t
    obtain⟨ls,mO⟩ :∃ls,hj 10 t= ls:=⟨_,rfl⟩
    rw [mO] at rO DU h30 ew ⊢
    clear mO Dx tf
    have WU:0 < ls.length:=by
     cases ls with
     | nil=>exact absurd rfl ew
     | cons a b=>simp
    have hH:¬(30:Int) < (ls.length:Int):=KK
    have ed:decide ((30:Int) < (ls.length:Int))= false:=Xe hH;have Ll:=I (λk=>SL (ls:=ls) aN k);clear aN ew
    go_in
    go_upto_region 1 with fail
    refine dh λaO ar aR=>?_
    replace R:=R.ad ar;replace bX:=bX.ad ar;have U:=ar;have df:=aR.ca
    go_wp2_with fail
    refine (zN x Z.o.h0 Z.o.h1 Z.o.h2 Z.o.h3 Z.o.h4 cF _ cI.o ((R.ad ao)).fC ((R.ad ao)).dM ((R.ad ao)).r2 ((R.ad ao)).gS ((R.ad ao)).ll Z.o.ev Z.o.eU Z.o.cL Z.o.dS Z.o.hl ((bX.ad ao)).t).mono ?_
    rintro e aI ⟨rfl,aQ⟩
    have aj:=be aO aQ;replace U:=ai U aj;replace R:=R.ad aj;replace bX:=bX.ad aj;replace aR:=aR.to aj;replace df:=aR.ca;have nY:=U.size
    go_wp2_with fail
    refine (rO.o aI ((bX.ad ao)).m).mono ?_
    rintro e bw ⟨UL,wn,rfl,qe,bG⟩
    have aY:=be aI bG;replace U:=ai U aY;replace R:=R.ad aY;replace bX:=bX.ad aY;replace aR:=aR.to aY;replace df:=aR.ca
    obtain⟨nS,akc,Ms⟩:=sf qe WU
    injection Ms with Mt _ Mu
    subst Mt
    subst Mu
    have sj:=U.size
    go_upto_region 7 with fail
    have lq:=bn.made (sz:=1) (f:=ns.cells) bw (B:=w) U.size 9;have zr:=(qe.lt nS rfl).2;have rQ:=(qe.base (B':=w) KK).aK (bP bw (.cells #[] 9))
    have NE:qA (.slice bw 0 0) (nS ls wn):=λk h1 h2=>by have e1:bw.heap.size= k:=Wx h1;have e2:nS= k:=Wx h2;omega
    have cj:Below bw bw (World.alloc bw (.cells #[] 9)):=bP bw _
    have ec:=ay.new bw 9 #[]
    replace R:=R.ad cj;replace bX:=bX.ad cj
    generalize World.alloc bw (.cells #[] 9)= pG at *
    replace U:=ai U cj;clear ec;have ih:=I (aR.to cj);have pK:=I U;have pN:=I lq;have LK:=I rQ;have Lt:=I NE;clear aR U lq rQ NE df qe zr sj R bX
    go_upto_region 8 with fail
    go_loopw [7,28] (λv i wr=>∃(k:Nat) (n:dE) (eZ:List ns) (Y:QR) (y:Nat) (ck:QR) (e0:Nat) (cf:QR) (e1:Nat) (ct:QR) (e2:Nat) (cu:QR) (e3:Nat) (cl:QR) (e4:Nat),v= .slice Y eZ y/\i= .int .i64 k/\k<=ls.length/\Hid (yf x ls k= n/\vT x ls k= eZ)/\fa ck cf ct cu cl e0 e1 e2 e3 e4 n.bT n.ch n.cz n.cC n.bQ/\sx w wr ck e0 cf e1 ct e2 cu e3 cl e4 n.bT n.ch n.cz n.cC n.bQ/\ay wr w 46 #[ck n.bT e0,cf n.ch e1,n.dw,n.dp,n.dF,ct n.cz e2,cu n.cC e3,cl n.bQ e4,n.bY,n.bW,n.bM]/\bn w 9 1 ns.cells wr (Y eZ y) eZ/\bn w 9 1 hh wr (nS ls wn) ls/\qA (Y eZ y) (nS ls wn)/\Below w w wr) (λ_ i _=>ls.length - (intOf i).toNat)
    case atStart=>exact⟨0,x,[],_,_,aq,c0,au,aw,ak,c2,al,c3,aF,c4,rfl,rfl,Xd _,I ⟨rfl,rfl⟩,Z.o,.inl gu.o,ih.o,pN.o,LK.o,Lt.o,pK.o⟩
    case round=>
     clear ih pK pN LK Lt
     obtain⟨k,n,eZ,Y,y,ck,e0,cf,e1,ct,e2,cu,e3,cl,e4,rfl,rfl,ax,fL,jl,pw,aR,lq,rQ,NE,U⟩:=hrel
     replace jl:=I jl;replace pw:=I pw;have DM:=I lq;have vl:=I rQ;have rm:=I NE;clear lq rQ NE;have aum:=aR.lt
     by_cases bC:k < ls.length
     .have aT:=Xj bC
      obtain⟨l,hle⟩ :∃l,ls[k]= l:=⟨_,rfl⟩
      rw [hle] at aT;clear hle
      have g0:=me vl.o jP aT (i:=0) (u:= .string l) rfl
      simp only [Xw,XW] at g0
      have Jy:=(vl.o.lt nS rfl).2;have mO:=DU.o l (YE aT);replace aT:=I aT;have xO:Hid (gJ n= true):=I (by rw [<- fL.o.1];exact Ll.o k);have oJ:=I (λW (bB:eF W ck cf ct cu cl n.bT n.ch n.cz n.cC n.bQ) (aA:ob W)=>RD n jl.o (tt xO.o).JR l KK bB aA);have bE:=aR.ca
      go_wp2_with fail
      refine (oJ.o wr (pw.o.rd U) (Ps.o.ad U)).mono ?_
      rintro e bw ⟨n2,z,lA,f0,lR,f1,lS,f2,lT,f3,lU,f4,rfl,mN,OF,bG⟩
      have db:=ai U bG;have Bh:=aR.to bG;have aox:=I (DM.o.aK bG);have aoz:=I (vl.o.aK bG);have Ix:=I (OF.base (B':=w) U.size);clear OF
      have aus:z.size<=200:=by rw [<- mN.o.2];exact Va _ _
      have Bc:Hid (gJ n2= true):=I (by rw [<- mN.o.1];exact Gk xO.o)
      have CY:z.size<=maxLen:=by unfold maxLen;omega
      clear bE g0 Jy
      go_upto_region 11 with fail
      have Cy:=ay.new bw 46 #[lA n2.bT f0,lR n2.ch f1,n2.dw,n2.dp,n2.dF,lS n2.cz f2,lT n2.cC f3,lU n2.bQ f4,n2.bY,n2.bW,n2.bM];have zi:Below bw bw (bw.alloc (.cells #[lA n2.bT f0,lR n2.ch f1,n2.dw,n2.dp,n2.dF,lS n2.cz f2,lT n2.cC f3,lU n2.bQ f4,n2.bY,n2.bW,n2.bM] 46)):=bP _ _
      generalize bw.alloc (.cells #[lA n2.bT f0,lR n2.ch f1,n2.dw,n2.dp,n2.dF,lS n2.cz f2,lT n2.cC f3,lU n2.bQ f4,n2.bY,n2.bW,n2.bM] 46)= ajU at *
      obtain⟨xu,Bj⟩ :∃b,b= bw.heap.size:=⟨_,rfl⟩
      rw [<- Bj] at Cy ⊢
      clear Bj;have MX:=Bh.to zi;have Lx:=I (aox.o.aK zi);have Lz:=I (aoz.o.aK zi);have Iy:=I (Ix.o.aK zi);have uB:=ai db zi;have rp:=I MX;have kO:=Cy.ca;have BJ:=Cy.lt;have bE:=MX.ca;have qk:=MX.hk;have ko:=MX.lt;clear MX Bh
      go_upto_region 12 with fail
      clear kO BJ bE qk ko
      refine hD 0 λcP aE=>?_
      have eT:ay cP w 46 #[lA n2.bT f0,lR n2.ch f1,n2.dw,n2.dp,n2.dF,lS n2.cz f2,lT n2.cC f3,lU n2.bQ f4,n2.bY,n2.bW,n2.bM]:=aE.own rp.o;have Cz:=Lx.o.kept aE.eC (λk ax e=>Lx.o.mP rp.o WG k ax (Wx e))
      have MR:=Lz.o.kept aE.eC (λk ax e=>Lz.o.mP rp.o WG k ax (Wx e));have MQ:=Iy.o.hb rp.o aE.eC;have sE:=aE.aN uB;clear aE;have rn:=I eT;have Ly:=I MR;have TP:=I MQ;have nJ:Hid (eZ.length= k):=I (by rw [<- fL.o.2];exact SM k ax);clear eT MR MQ
      go_wp2_with (at_builtin;refine ke rfl _ _ 57 rfl w 9 i0 _ 1 16 Tryz.underlying57 bo dP dZ dV rfl WG ns.cells KA ajE _ (eZ) rfl (Cz.alloc _) ⟨cP,0,none⟩ 1 ((⟨z,CY⟩ :ns)) rfl (aX.one (⟨z,CY⟩ :ns) _) Yy Yz nq ?_;intro v4 bH fb ed mx)
      obtain⟨wM,xJ,rfl⟩:=sf fb Wn
      have fm:Below w w bH:=(sE.alloc sE.size _).grown ed nq (λq bt=>(Cz.lt q bt).1);have kR:=(rn.o.alloc (.cells #[z] 9)).jE ed (λe=>Cz.mP rn.o WG _ e.symm rfl);have aeh:=bn.ne (Ly.o.alloc _) ed rm.o;have aee:=rm.o.step (λq bt=>((Ly.o.alloc (.cells #[z] 9)).lt q bt).2) mx
      have aec:sx w bH lA f0 lR f1 lS f2 lT f3 lU f4 n2.bT n2.ch n2.cz n2.cC n2.bQ:=sx.agk (.inr (TP.o.aK (bP _ _))) (Cz.alloc _) ed
      have aeP:fa lA lR lS lT lU f0 f1 f2 f3 f4 n2.bT n2.ch n2.cz n2.cC n2.bQ:=by
       have:=tt Bc.o
       exact Ix.o.uN this.gC this.gp this.gK this.xX this.Dg
      exact anR
     .exact anS
theorem aAo (x:dE) (aq au ak al aF:QR) (c0 aw c2 c3 c4:Nat) (Z:fa aq au ak al aF c0 aw c2 c3 c4 x.bT x.ch x.cz x.cC x.bQ) (cF:x.bY.size + x.bW.size<=1048576) (t:VU) (cJ:t.size<=1048576) (w:World) (R:eF w aq au ak al aF x.bT x.ch x.cz x.cC x.bQ):
 Rd 26 #[.agg #[aq x.bT c0,au x.ch aw,x.dw,x.dp,x.dF,ak x.cz c2,al x.cC c3,aF x.bQ c4,x.bY,x.bW,x.bM],t] w λe ah=>∃D d,e= .returned (.tuple #[.slice D (nX x t).length d,.bool (oE x t)])/\bn w 9 1 ns.cells ah (.slice D (nX x t).length d) (nX x t)/\Below w w ah:=by
 obtain⟨i0,bo,dP,dZ,dV⟩:=Xo Da
 replace Z:=I Z;have gu:=I R;have rO:=I (λW=>XO t 10 cJ W);have DU:=I (λl (aT:l ∈ hj 10 t)=>HU aT);have ew:=OT 10 t
 obtain⟨ls,mO⟩ :∃ls,hj 10 t= ls:=⟨_,rfl⟩
 have WU:0 < ls.length:=by
  rw [mO] at ew
  cases ls with
  | nil=>exact absurd rfl ew
  | cons a b=>simp
 clear ew
 have afq:(gJ x= true/\t.size<=4000/\ls.length<=30/\oE x t= true/\nX x t= vT x ls ls.length)\/(oE x t= false/\nX x t= []/\(gJ x= false\/gJ x= true/\(¬t.size<=4000\/t.size<=4000/\¬ls.length<=30))):=by
  cases aN:gJ x
  .exact .inr ⟨(aIC aN).1,(aIC aN).2,.inl rfl⟩
  .by_cases h4:t.size<=4000
   .by_cases h30:ls.length<=30
    .rw [<- mO] at h30 ⊢
     exact .inl ⟨rfl,h4,h30,aiX aN h4 h30⟩
    .rw [<- mO] at h30 ⊢
     exact .inr ⟨(aIB h30).1,(aIB h30).2,.inr ⟨rfl,.inr ⟨h4,h30⟩⟩⟩
   .exact .inr ⟨(aIA h4).1,(aIA h4).2,.inr ⟨rfl,.inl h4⟩⟩
 rw [mO] at rO DU
 have Ll:=I (λ(aN:gJ x= true) k=>SL (ls:=ls) aN k)
 obtain⟨jS,uK⟩ :∃b,oE x t= b:=⟨_,rfl⟩
 obtain⟨qt,CV⟩ :∃l,nX x t= l:=⟨_,rfl⟩
 rw [uK,CV] at afq ⊢
 clear mO uK CV
 go_in
 go_upto_region 1 with fail
 refine dh λaO ar aR=>?_
 have U:=ar
 have dD:=aR.ca
 have aER:=U.size
 go_upto_region 2 with fail
 have lq:=bn.made (sz:=1) (f:=ns.cells) aO (B:=w) U.size 9;have tC:Below aO aO (aO.alloc (.cells #[] 9)):=bP _ _
 have WK:aO.heap.size < (aO.alloc (.cells #[] 9)).heap.size:=Wn
 generalize aO.alloc (.cells #[] 9)= pG at *
 obtain⟨go,zq⟩ :∃b,b= aO.heap.size:=⟨_,rfl⟩
 rw [<- zq] at lq WK ⊢
 clear zq dD;replace aR:=aR.to tC;have Ih:=ai U tC;have aET:=Ih.size;clear U tC
 go_wp2_with fail
 refine (rO.o pG).mono ?_
 rintro e bw ⟨UL,wn,rfl,qe,bG⟩
 have U:=ai Ih bG;replace aR:=aR.to bG;replace lq:=lq.aK bG
 obtain⟨nS,akc,Ms⟩:=sf qe WU
 injection Ms with Mt _ Mu
 subst Mt
 subst Mu
 have zr:pG.heap.size<=nS:=(qe.lt nS rfl).1
 have NE:qA (go 0 0) (nS ls wn):=λk h1 h2=>by have e1:go= k:=Wx h1;have e2:nS= k:=Wx h2;omega
 have rQ:=qe.base (B':=w) (by have:=U.size;omega);clear qe;have gI:=I aR;have DM:=I lq;have vl:=I rQ;have rm:=I NE;clear lq rQ NE WK zr;have df:=aR.ca;have acp:=aR.lt
 go_upto_region 3 with fail
 have BN:=I U
 rcases afq with ⟨aN,h4,h30,rfl,rfl⟩ | ⟨rfl,rfl,ha⟩
 rotate_left
 .skip
  have CK:∃Sv Sw Sx:Bool,gJ x= Sv/\decide ((4000:Int) < (t.size:Int))= Sw/\decide ((30:Int) < (ls.length:Int))= Sx/\(Sv= false\/Sw= true\/Sx= true):=by
   refine⟨_,_,_,rfl,rfl,rfl,?_⟩
   rcases ha with h | ⟨_,h | ⟨_,h⟩⟩
   .exact .inl h
   .exact .inr (.inl (Xh KK))
   .exact .inr (.inr (Xh KK))
  obtain⟨Sv,Sw,Sx,CE,eI,ed,GH⟩:=CK
  have Pq:=I CE;clear CE ha
  go_wp2_with fail
  refine (Bm x Z.o.h0 Z.o.h1 Z.o.h2 Z.o.h3 Z.o.h4 cF _ Pq.o (gu.o.fC.ad U) (gu.o.dM.ad U) (gu.o.r2.ad U) (gu.o.gS.ad U) (gu.o.ll.ad U) Z.o.ev Z.o.eU Z.o.cL Z.o.dS Z.o.hl).mono ?_
  rintro e bH ⟨rfl,bG⟩
  clear df acp;have hA:=I (DM.o.aK bG);have iw:=ai BN.o bG
  cases Sv
  .go_wp2
   go_ret2
   exact⟨some ⟨go,0,none⟩,0,rfl,hA.o,iw⟩
  .cases Sw
   .obtain rfl:Sx= true:=by rcases GH with h | h | h <;> first | exact h | cases h
    clear GH
    go_wp2
    go_ret2
    exact⟨some ⟨go,0,none⟩,0,rfl,hA.o,iw⟩
   .clear GH
    go_wp2
    go_ret2
    exact⟨some ⟨go,0,none⟩,0,rfl,hA.o,iw⟩
 .have Pq:=I aN
  have eI:decide ((4000:Int) < (t.size:Int))= false:=Xe KK;have ed:decide ((30:Int) < (ls.length:Int))= false:=Xe KK;clear aN
  go_wp2_with fail
  refine (Bm x Z.o.h0 Z.o.h1 Z.o.h2 Z.o.h3 Z.o.h4 cF _ Pq.o (gu.o.fC.ad U) (gu.o.dM.ad U) (gu.o.r2.ad U) (gu.o.gS.ad U) (gu.o.ll.ad U) Z.o.ev Z.o.eU Z.o.cL Z.o.dS Z.o.hl).mono ?_
  rintro e bH ⟨rfl,bG⟩
  clear df acp;have ih:=I (gI.o.ad bG gI.o.lt);have pN:=I (DM.o.aK bG);have LK:=I (vl.o.aK bG);have Lt:=rm;have pK:=I (ai BN.o bG);clear aR gI DM vl rm BN U
  go_upto_region 7 with fail
  clear eI ed
  go_loopw [6,9] (λv i wr=>∃(k:Nat) (n:dE) (eZ:List ns) (Y:QR) (y:Nat) (ck:QR) (e0:Nat) (cf:QR) (e1:Nat) (ct:QR) (e2:Nat) (cu:QR) (e3:Nat) (cl:QR) (e4:Nat),v= .slice Y eZ y/\i= .int .i64 k/\k<=ls.length/\Hid (yf x ls k= n/\vT x ls k= eZ)/\fa ck cf ct cu cl e0 e1 e2 e3 e4 n.bT n.ch n.cz n.cC n.bQ/\sx w wr ck e0 cf e1 ct e2 cu e3 cl e4 n.bT n.ch n.cz n.cC n.bQ/\ay wr w 46 #[ck n.bT e0,cf n.ch e1,n.dw,n.dp,n.dF,ct n.cz e2,cu n.cC e3,cl n.bQ e4,n.bY,n.bW,n.bM]/\bn w 9 1 ns.cells wr (Y eZ y) eZ/\bn w 9 1 hh wr (nS ls wn) ls/\qA (Y eZ y) (nS ls wn)/\Below w w wr) (λ_ i _=>ls.length - (intOf i).toNat)
  case atStart=>exact⟨0,x,[],_,_,aq,c0,au,aw,ak,c2,al,c3,aF,c4,rfl,rfl,Xd _,I ⟨rfl,rfl⟩,Z.o,.inl gu.o,ih.o,pN.o,LK.o,Lt.o,pK.o⟩
  case round=>
   clear ih pK pN LK Lt
   obtain⟨k,n,eZ,Y,y,ck,e0,cf,e1,ct,e2,cu,e3,cl,e4,rfl,rfl,ax,fL,jl,pw,aR,lq,rQ,NE,U⟩:=hrel
   replace jl:=I jl;replace pw:=I pw;have DM:=I lq;have vl:=I rQ;have rm:=I NE;clear lq rQ NE
   by_cases bC:k < ls.length
   .have aT:=Xj bC
    obtain⟨l,hle⟩ :∃l,ls[k]= l:=⟨_,rfl⟩
    rw [hle] at aT;clear hle
    have mO:=DU.o l (YE aT);replace aT:=I aT;have xO:Hid (gJ n= true):=I (by rw [<- fL.o.1];exact Ll.o Pq.o k);have oJ:=I (λW (bB:eF W ck cf ct cu cl n.bT n.ch n.cz n.cC n.bQ)=>OO n jl.o (tt xO.o).JR l KK bB);have PQ:=I aR
    obtain⟨dx,et⟩ :∃X:World->Prop,∀V,X V↔Below wr wr V:=⟨_,λ_=>Xt⟩
    replace et:=I et
    haveI:Nonempty (cM dx):=⟨⟨wr,(et.o _).2 (Wt _ _)⟩⟩
    haveI:Nonempty (cM (λ_=>True)):=⟨⟨wr,trivial⟩⟩
    have df:=ay.pS (λK:cM dx=>PQ.o.ad ((et.o _).1 K.holds) PQ.o.lt)
    have g0:=λK:cM dx=>me (vl.o.aK ((et.o _).1 K.holds)) jP aT.o (i:=0) (u:= .string l) rfl
    simp only [Xw,XW] at g0
    have Jy:=(vl.o.lt nS rfl).2;clear aR
    go_upto_region 9 with fail
    refine tV dx [([0,1,2,3,4],[],5,false),([],[6,7,8],9,true)] [] [10] PV PV ((et.o _).2 (Wt _ _).drew) ?_
    refine jj λhE eu=>?_
    refine Yp ?_
    repeat go_big_quiet_step (fail)
    refine VF ?_
    refine VF ?_
    refine XV ?_
    have fO:Below wr wr wr.drew:=(Wt _ _).drew
    generalize wr.drew= wd at *
    clear df g0 Jy
    go_wp2_with fail
    refine (oJ.o wd ((pw.o.rd U).ad fO)).mono ?_
    rintro e bw ⟨n2,z,lA,f0,lR,f1,lS,f2,lT,f3,lU,f4,rfl,mN,OF,bG⟩
    have iw:=ai fO bG
    go_wp2
    refine nK ((et.o _).2 iw) (eu _ _ ?_)
    have uB:=ai U iw;have rp:=I (PQ.o.ad iw PQ.o.lt);have Lx:=I (DM.o.aK iw);have Lz:=I (vl.o.aK iw);have Iy:=I (OF.base (B':=w) (by have:=U.size;have:=fO.size;omega));clear OF
    have aus:z.size<=200:=by rw [<- mN.o.2];exact Va _ _
    have Bc:Hid (gJ n2= true):=I (by rw [<- mN.o.1];exact Gk xO.o)
    have CY:z.size<=maxLen:=by unfold maxLen;omega
    refine jj λff da=>?_
    refine VF ?_
    refine YI ?_
    repeat go_big_quiet_step (fail)
    refine VF ?_
    refine XV ?_
    have bE:=rp.o.ca;have qk:=rp.o.hk;have ko:=rp.o.lt
    go_wp2
    clear bE qk ko
    refine hD 0 λcP aE=>?_
    refine rP (da _ _ ?_)
    refine qu ?_
    refine VF ?_
    refine Xp ?_
    repeat go_big_quiet_step (fail)
    refine VF ?_
    have eT:ay cP w 46 #[lA n2.bT f0,lR n2.ch f1,n2.dw,n2.dp,n2.dF,lS n2.cz f2,lT n2.cC f3,lU n2.bQ f4,n2.bY,n2.bW,n2.bM]:=aE.own rp.o;have Cz:=Lx.o.kept aE.eC (λk ax e=>Lx.o.mP rp.o WG k ax (Wx e))
    have MR:=Lz.o.kept aE.eC (λk ax e=>Lz.o.mP rp.o WG k ax (Wx e));have MQ:=Iy.o.hb rp.o aE.eC;have sE:=aE.aN uB;clear aE;have rn:=I eT;have Ly:=I MR;have TP:=I MQ;have nJ:Hid (eZ.length= k):=I (by rw [<- fL.o.2];exact SM k ax);clear eT MR MQ
    go_wp2_with (at_builtin;refine ke rfl _ _ 57 rfl w 9 i0 _ 1 16 Tryz.underlying57 bo dP dZ dV rfl WG ns.cells KA ajE _ (eZ) rfl (Cz.alloc _) ⟨cP,0,none⟩ 1 ((⟨z,CY⟩ :ns)) rfl (aX.one (⟨z,CY⟩ :ns) _) Yy Yz nq ?_;intro v4 bH fb ed mx)
    obtain⟨wM,xJ,rfl⟩:=sf fb Wn
    have fm:Below w w bH:=(sE.alloc sE.size _).grown ed nq (λq bt=>(Cz.lt q bt).1);have kR:=(rn.o.alloc (.cells #[z] 9)).jE ed (λe=>Cz.mP rn.o WG _ e.symm rfl);have aeh:=bn.ne (Ly.o.alloc _) ed rm.o;have aee:=rm.o.step (λq bt=>((Ly.o.alloc (.cells #[z] 9)).lt q bt).2) mx
    have aec:sx w bH lA f0 lR f1 lS f2 lT f3 lU f4 n2.bT n2.ch n2.cz n2.cC n2.bQ:=sx.agk (.inr (TP.o.aK (bP _ _))) (Cz.alloc _) ed
    have aeP:fa lA lR lS lT lU f0 f1 f2 f3 f4 n2.bT n2.ch n2.cz n2.cC n2.bQ:=by
     have:=tt Bc.o
     exact Iy.o.uN this.gC this.gp this.gK this.xX this.Dg
    exact anR
   .exact anS
theorem ajv {c:UInt8}:∀{l u:List UInt8} {r:List (List UInt8)},mf c l= u ::r->∀x ∈ u,(x == c)= false
 | [],u,r,h=>by simp [mf] at h;obtain⟨rfl,_⟩:=h;simp
 | x ::l,u,r,h=>by
  unfold mf at h
  split at h
  .cases h;simp
  .rename_i av
   split at h
   .cases h;simpa using av
   .rename_i v vs he
    cases h
    have eR:=ajv he
    intro y hy
    rcases Xl.1 hy with rfl | hy
    .simpa using av
    .exact eR y hy
theorem aBh {c:UInt8} {s:VU} {r:List ByteArray} (h:hj c s= a ::r):hj c a= [a]:=by
 unfold hj at h ⊢
 obtain⟨u,us,hu,rfl,_⟩:=List.map_eq_cons_iff.1 h
 have h1:=SW (ajv hu)
 show (mf c u.toArray.toList).map _= _
 rw [List.toList_toArray,h1];rfl
theorem aAz {r:List ByteArray} (aP:oE x t= true) (h:hj 10 t= a ::r) (de:a.size<=t.size):oE x a= true/\nX x a= [AM x a]/\(nX x t)[0]? =some (AM x a):=by
 have e:=aBh h
 have aB:oE x a= true:=by
  unfold oE at aP ⊢
  simp only [Xa,Xf] at aP ⊢
  rw [e]
  exact⟨aP.1,by omega,by simp⟩
 refine⟨aB,?_,?_⟩
 .unfold nX
  rw [aB,XX rfl,e]
  rfl
 .unfold nX
  rw [aP,XX rfl,h,YK]
  have:∀k,(vT x (a ::r) (k + 1))[0]? =some (AM x a):=λk=>by
   induction k with
   | zero=>rfl
   | succ k eR=>
    rw [vT]
    split
    .rw [Yt (by
      rw [Nat.lt_iff_add_one_le]
      have h0:=(Xg.1 eR).1
      omega),eR]
    .exact eR
  exact this _
theorem cell_later {w ah:World} {b o:Nat} (aB:Below w w ah) (h:w.cell? ⟨b,o,none⟩ =some v):ah.cell? ⟨b,o,none⟩ =some v:=(aB.cell (p:=⟨b,o,none⟩) (World.block_lt_of_cell? w _ h)).trans h
theorem aAB (h:oE x t= false):nX x t= []:=by unfold nX;rw [h];rfl
theorem awR (A:QR) (c:Nat) (cs:List UInt8) (w:World) (bB:aX 1 Ac w A cs) (bX:ob w) (fh:Cg w):
 Rd 5 #[A cs c] w λe ah=>e= .returned true/\Below w w ah:=by
 by_cases zk:65536 < cs.length
 .go_in
  go_wp2_with fail
  refine (KF _ (Xh zk) _).mono ?_
  rintro e w0 ⟨rfl,h0⟩
  rw [h0]
  clear h0 w0
  go_wp2
  go_ret
  exact⟨rfl,Wt _ _⟩
 have cK:cs:=KK
 have KX:=I (Xe zk);replace bB:=I bB;replace bX:=I bX;replace fh:=I fh;clear zk
 go_in
 go_wp2_with fail
 refine (KF _ KX.o _).mono ?_
 rintro e w0 ⟨rfl,h0⟩
 rw [h0]
 clear h0 w0
 go_wp2_with fail
 refine (acX A c cs cK _ bB.o).mono ?_
 rintro e bm ⟨x,y,bN,d0,bZ,d1,aU,d2,bd,d3,bI,d4,rfl,bz,hy,aV,bD⟩
 have U:=I bz;have iu:=I (bz.uN aV);have DG:=I aV.rd;have yB:=I (bX.o.ad bD);have DP:=I (fh.o.ad bD);have s1:=bD.size;clear bz aV bX fh;have kA:=I (λW (h1:eF W bN bZ aU bd bI x.bT x.ch x.cz x.cC x.bQ) (h2:ob W)=>afR x iu.o U.o.tJ y KK h1 h2);have fL:=I (λW (h1:eF W bN bZ aU bd bI x.bT x.ch x.cz x.cC x.bQ)=>aAo x bN bZ aU bd bI d0 d1 d2 d3 d4 iu.o U.o.tJ y KK W h1)
 have DL:=I (λ(h:oE x y= false)=>aAB h);have TG:=I (λ(aP:oE x y= true) (a:VU) (r:List ByteArray) (h:hj 10 y= a ::r)=>aAz aP h (HU (by rw [h];simp)));have asc:=aAA x y
 obtain⟨L,br⟩ :∃L,nX x y= L:=⟨_,rfl⟩
 obtain⟨b,aB⟩ :∃b,oE x y= b:=⟨_,rfl⟩
 simp only [br,aB] at kA fL DL TG asc
 clear br aB
 go_upto_region 4 with fail
 refine zR λaI aQ aR=>?_
 obtain⟨DD,Mx⟩ :∃b,b= bm.heap.size:=⟨_,rfl⟩
 rw [<- Mx] at aR ⊢
 clear Mx;have ts:=I aR;have Ay:=I (ai bD aQ);have FJ:=I (DG.o.ad aQ);have tY:=I (yB.o.ad aQ);have As:=I (DP.o.ad aQ);have bE:=aR.ca;have ko:=aR.lt;clear aR bD aQ DG yB DP
 go_wp2_with fail
 refine (kA.o aI FJ.o tY.o).mono ?_
 clear bE ko
 rintro e bw ⟨aCy,cG,rfl,kC,bG⟩
 have oh:=I (ts.o.ad bG ts.o.lt);have Az:=I (ai Ay.o bG);have Ij:=I (FJ.o.ad bG);have pL:=I (tY.o.ad bG);have DQ:=I (As.o.ad bG);have Ie:=I kC;have bE:=oh.o.ca;have ko:=oh.o.lt;clear kC bG ts Ay FJ tY As kA
 go_wp2_with fail
 refine (fL.o bw Ij.o).mono ?_
 clear bE ko
 rintro e bH ⟨kQ,ho,rfl,ef,db⟩
 have Ca:=I (oh.o.ad db oh.o.lt);have AA:=I (ai Az.o db);have Ik:=I (Ij.o.ad db);have qw:=I (pL.o.ad db);have abh:=I (DQ.o.ad db);have KT:=I (Ie.o.aK db);replace ef:=I ef;clear db oh Az Ij pL DQ Ie fL
 have bK:(!(b == b))= false:=Wn
 have nl:(!((L.length:Int) == (L.length:Int)))= false:=Wn
 go_upto_region 8 with fail
 clear bK nl
 go_wp2
 go_loopw [9] (λv wr=>∃k:Nat,k<=L.length/\v= .int .i64 (k:Int)/\Below bH bH wr) (λv _=>L.length - (intOf v).toNat)
 case atStart=>exact⟨0,Xd _,rfl,Wt _ _⟩
 case round=>
  obtain⟨k,ax,rfl,vw⟩:=hrel
  by_cases bC:k < L.length
  .obtain⟨ab,Ci,a,Wa,_,de,uE⟩:=(KT.o.ej (hf:=KA)).at_ vw bC
   obtain⟨bb,aCI,a2,asl,_,AV,AX⟩:=(ef.o.ej (hf:=KA)).at_ vw bC
   obtain rfl:a= a2:=Wx (de.symm.trans AV)
   subst Wa;subst asl
   have f0:=uE 0 _ rfl;have f1:=AX 0 _ rfl
   simp only [Xw,XW] at f0 f1
   have aCn:(!(a.s.toList == a.s.toList))= false:=Wn
   clear de AV uE AX
   go_wp2
   refine eQ PV PV ?_
   repeat (go_big_quiet_step ((fail)))
   refine VF ?_
   intro K
   go_wp2
   go_roundw
   case rel=>exact⟨k + 1,by omega,by go_num,ai vw K.ad⟩
   case measure=>simp [intOf];omega
  .have aaq:=I (KT.o.aK vw);have Gc:=I (Ca.o.ad vw Ca.o.lt);have AB:=I (ai AA.o vw);have DH:=I (Ik.o.ad vw);have oI:=I (qw.o.ad vw);have abj:=I (abh.o.ad vw)
   clear KT ef Ca AA Ik qw abh
   go_wp2_with fail
   refine (ajx y KK wr).mono ?_
   rintro e dk ⟨abU,t0,rfl,Gg,iH⟩
   have e4:decide (y.size<=4000)= true:=Xh KK;have kJ:Ab y= hj 10 y:=XX KK;have ew:hj 10 y≠[]:=OT 10 y
   rw [e4]
   rw [kJ] at Gg ⊢
   have NG:∀a ∈ hj 10 y,a.size<=y.size:=λa h=>HU h
   have TH:=TG
   obtain⟨ls,mO⟩ :∃l,hj 10 y= l:=⟨_,rfl⟩
   simp only [mO] at TH Gg ew NG ⊢
   clear e4 kJ mO TG;have aaK:=TH;clear TH;have aoJ:=I Gg;have aar:=I (aaq.o.aK iH);have wo:=I (Gc.o.ad iH Gc.o.lt);have tr:=I (ai AB.o iH);have Lc:=I (DH.o.ad iH);have pM:=I (oI.o.ad iH);have abk:=I (abj.o.ad iH);replace NG:=I NG;clear Gg iH aaq Gc AB DH oI abj vw bC ax
   cases b
   .have adZ:=DL.o rfl
    subst adZ
    go_wp2
    go_ret
    exact⟨rfl,tr.o⟩
   by_cases h2:ls.length < 2
   .have rU:decide ((ls.length:Int) < 2)= true:=Xh KK
    go_wp2
    go_ret
    exact⟨rfl,tr.o⟩
   have rU:decide ((ls.length:Int) < 2)= false:=Xe KK
   obtain⟨a,r,zt⟩ :∃a r,ls= a ::r:=by
    cases ls with
    | nil=>simp at h2
    | cons a r=>exact⟨a,r,rfl⟩
   have aeK:=aaK.o rfl a r zt;have afp:=NG.o a (by rw [zt];simp)
   obtain⟨ab,Ci,a2,Wf,_,AV,uE⟩:=(aoJ.o.ej (hf:=jP)).at_ (Wt _ _) (k:=0) KK
   obtain rfl:a= a2:=by rw [zt] at AV;exact Wx AV
   subst Wf
   have f0:=uE 0 _ rfl
   simp only [Xy,XW] at f0
   have Iw:=I zt;have yE:=I aeK;have yD:=I f0
   have zx:0 < ls.length:=KK
   have aEr:decide ((0:Int) < (ls.length:Int))= true:=Xh KK;clear zt aeK AV uE f0 ew h2 DL aaK NG;have kA:=I (λW (h1:eF W bN bZ aU bd bI x.bT x.ch x.cz x.cC x.bQ) (h2:ob W)=>afR x iu.o U.o.tJ a KK h1 h2)
   obtain⟨M,aC⟩ :∃L,nX x a= L:=⟨_,rfl⟩
   have VT:M= [AM x a]:=by rw [<- aC];exact yE.o.2.1
   simp only [aC,yE.o.1] at kA
   have MP:M.length= 1:=by rw [VT];rfl
   have gi:=I (And.intro VT aC);replace MP:=I MP;clear aC VT
   obtain⟨dx,et⟩ :∃C:World->Prop,∀V,C V↔(ay V DD 46 #[bN x.bT d0,bZ x.ch d1,x.dw,x.dp,x.dF,aU x.cz d2,bd x.cC d3,bI x.bQ d4,x.bY,x.bW,x.bM]/\V.cell? ⟨ab,Ci,none⟩ =some (.string a)):=⟨_,λ_=>Xt⟩
   replace et:=I et;have yY:dx dk.drew:=(et.o _).2 ⟨wo.o.ad (Wt _ _).drew wo.o.lt,yD.o ⟨dk.drew,(Wt _ _).drew⟩⟩
   go_upto_region 16 with fail
   haveI:Nonempty (cM dx):=⟨⟨dk.drew,yY⟩⟩
   haveI:Nonempty (cM (λ_=>True)):=⟨⟨dk,trivial⟩⟩
   have bE:=ay.pS (λK:cM dx=>((et.o _).1 K.holds).1)
   have kO:=λK:cM dx=>((et.o _).1 K.holds).2
   refine tV dx [([0,1,2,3],[],4,false)] [] [5,6,7,8,9] PV PV yY ?_
   have lY:Below dk dk dk.drew:=(Wt _ _).drew;have we:=I (aar.o.aK lY);have Gd:=I (wo.o.ad lY wo.o.lt);have vn:=I (ai tr.o lY);have Il:=I (Lc.o.ad lY);have nH:=I (pM.o.ad lY);have abm:=I (abk.o.ad lY);have DI:Hid (dk.drew.cell? ⟨ab,Ci,none⟩ =some (.string a)):=I (yD.o ⟨dk.drew,(Wt _ _).drew⟩)
   clear lY aar wo tr Lc pM abk yD yY
   generalize dk.drew= wd at *
   refine jj λhE eu=>?_
   refine Yo ?_
   repeat go_big_quiet_step (fail)
   refine VF ?_
   refine VF ?_
   refine XV ?_
   go_wp2_with fail
   refine (kA.o wd Il.o nH.o).mono ?_
   rintro e fS ⟨lA,f0,rfl,OF,gv⟩
   have KU:=I (we.o.aK gv);have yI:=I (Gd.o.ad gv Gd.o.lt);have BZ:=I (ai vn.o gv);have tZ:=I (Il.o.ad gv);have lV:=I (nH.o.ad gv);have abl:=I (abm.o.ad gv);have aev:fS.cell? ⟨ab,Ci,none⟩ =some (.string a):=(cell_later gv DI.o);replace OF:=I OF;clear gv we Gd vn Il nH abm DI kA
   go_wp2
   refine nK ((et.o _).2 ⟨yI.o,aev⟩) (eu _ _ ?_)
   refine qu ?_
   refine VF ?_
   refine Yp ?_
   repeat go_big_quiet_step (fail)
   refine VF ?_
   clear bE kO et aev
   obtain⟨v,az⟩ :∃v,wK x= v:=⟨_,rfl⟩
   obtain⟨adE,oN,atf⟩ :∃s b,v= .tuple #[.string s,.bool b]:=by rw [<- az];exact arz x
   replace az:=I az;have bE:=yI.o.ca;have ko:=yI.o.lt
   go_wp2_with fail
   refine (avb x bN bZ aU bd bI d0 d1 d2 d3 d4 U.o.i0 U.o.i1 U.o.i2 U.o.i3 U.o.i4 U.o.tJ _ az.o fS tZ.o.fC tZ.o.dM tZ.o.r2 tZ.o.gS tZ.o.ll iu.o.ev iu.o.eU iu.o.cL iu.o.dS iu.o.hl lV.o.t abl.o).mono ?_
   rintro e du ⟨rfl,pU⟩
   subst atf
   have Ig:=I (KU.o.aK pU);have Le:=I (OF.o.aK pU);have DX:=I (yI.o.ad pU yI.o.lt);have DV:=I (ai BZ.o pU);have vg:=I (tZ.o.ad pU);clear pU KU yI BZ tZ lV abl OF;replace bE:=DX.o.ca;replace ko:=DX.o.lt
   go_wp2_with fail
   refine (azU x bN bZ aU bd bI d0 d1 d2 d3 d4 U.o.i0 U.o.i1 U.o.i2 U.o.i3 U.o.i4 U.o.tJ _ az.o du vg.o.fC vg.o.dM vg.o.r2 vg.o.gS vg.o.ll iu.o.ev iu.o.eU iu.o.cL iu.o.dS iu.o.hl).mono ?_
   rintro e eB ⟨rfl,eJ⟩
   have KW:=I (Ig.o.aK eJ);have Lf:=I (Le.o.aK eJ);have AD:=I (ai DV.o eJ);clear bE ko eJ Ig DX DV vg Le;have vz:L[0]? =some (AM x a):=yE.o.2.2;have asd:0 < L.length:=(Xg.1 vz).1
   have asg:0 < M.length:=by rw [MP.o];decide
   obtain⟨lx,aEC,gC,Wa,_,Rm,Nx⟩:=(KW.o.ej (hf:=KA)).at_ (Wt _ _) asd
   obtain rfl:gC= AM x a:=Wx (Rm.symm.trans vz)
   obtain⟨jK,aED,m0,arS,_,afd,afe⟩:=(Lf.o.ej (hf:=KA)).at_ (Wt _ _) asg
   obtain rfl:m0= AM x a:=Wx (afd.symm.trans (by rw [gi.o.1];rfl))
   subst Wa;subst arS
   have f1:=Nx 0 _ rfl;have f2:=afe 0 _ rfl
   simp only [Xy,XW] at f1 f2
   obtain⟨rs,zz⟩ :∃s,(AM x a).s= s:=⟨_,rfl⟩
   rw [zz] at f1 f2
   have ki:=MP.o
   have Pk:(rs.toList == rs.toList)= true:=Wn
   have aFi:(adE.toList == adE.toList)= true:=Wn
   have akn:(oN == oN)= true:=Wn
   have adZ:decide ((0:Int) < (L.length:Int))= true:=Xh KK;clear Nx afe Rm afd vz zz yE gi MP
   go_upto_region 19 with fail
   refine eQ PV PV ?_
   repeat (go_big_quiet_step ((fail)))
   refine VF ?_
   intro K
   go_wp2
   go_ret
   exact⟨rfl,ai AD.o K.ad⟩
set_option maxHeartbeats 4000000
theorem aBp {H:Type} {enc:TypeId×Value->H} {P:Program} {w:World} {base:Nat} {sp:Nat->Bool} {held:Bool} {fuel:Nat} {t e:TypeId} {n:Nat} {cs:List Value} {cR:List (List UInt8)} {p:List MemPlace}
 (cJ:P.underlying t= some (.array n e)) (he:P.underlying e= some .string) (asM:P.cellsOf e= 1) (Rb:P.cellsOf t= n)
 (h:DataW.trod enc P w base sp held fuel t cs= some (.agg (cR.map λs=> .lit (.string s)),p)):∀(i:Nat) (s:List UInt8),cR[i]? =some s->cs[i]? =some (.string ⟨s.toArray⟩):=by
 cases fuel with
 | zero=>simp [DataW.trod] at h
 | succ fuel=>
  simp only [DataW.trod,cJ,asM,Rb,Xw] at h
  split at h
  .rename_i aT
   obtain⟨xs,hm,av⟩:=Option.map_eq_some_iff.1 h
   have Bi:xs.map (·.1)= cR.map λs=>(DataW.lit (.string s):DataW H):=by
    have:=Xc Prod.fst av
    simpa using this
   have sS:xs.length= n:=by simpa using Lib.mapM_length hm
   have vJ:cR.length= n:=by
    have:=Xc List.length Bi
    simp at this
    omega
   intro i s aP
   have bo:i < n:=by have:=(Xg.1 aP).1;omega
   obtain⟨b,aB,hf⟩:=Lib.mapM_at hm i i (by simp [bo])
   obtain⟨z,aN,rfl,_⟩:=DataW.trod_string he hf
   have h1:cs[i]? =some (.string z):=by
    have:=Xc (·[0]?) aN
    simpa [Yb,List.getElem?_drop] using this
   have h2:(xs.map (·.1))[i]? =some (DataW.lit (.string z.data.toList):DataW H):=by simp [aB]
   rw [Bi] at h2
   simp [aP] at h2
   rw [h1,h2]
  .cases h
theorem awM:(Rows.laid_loop_example_g00909_impl_needWords:DataW Unit)= .agg ([[],((⟨#[109,97,106,111,114,105,116,121]⟩ :VU)).data.toList,((⟨#[116,119,111,45,116,104,105,114,100,115]⟩ :VU)).data.toList,((⟨#[97,108,108]⟩ :VU)).data.toList].map λs=> .lit (.string s)):=rfl
theorem axX {laid:List (String×DataW Unit)} {W:World} (hf:laid.filter (λx=>x.1 == "loop.example/g00909/impl.needWords")= [("loop.example/g00909/impl.needWords",Rows.laid_loop_example_g00909_impl_needWords)]) (h:laidMetH Tryz.prog laid W):Cg W:=by
 have h1:=h.filter (λx=>x.1 == "loop.example/g00909/impl.needWords")
 rw [hf,awM] at h1
 obtain⟨ps,⟨bS,gr,cs,fuel,p,q,GJ,NI,NJ,cr,_,_⟩,_⟩:=(show laidMet Tryz.prog _ W from h1)
 have cy:Tryz.prog.globalNamed "loop.example/g00909/impl.needWords" =some 0:=PV
 obtain rfl:=Wx (cy.symm.trans GJ)
 obtain rfl:=Wx ((show (Tryz.prog.globals[0]?).map (·.type)= some 224 by kernel_rfl).symm.trans NI)
 have aP:=aBp Tryz.underlying224 Tryz.underlying9 PV PV cr
 have aN:∀(i:Nat) (s:List UInt8),[[],((⟨#[109,97,106,111,114,105,116,121]⟩ :VU)).data.toList,((⟨#[116,119,111,45,116,104,105,114,100,115]⟩ :VU)).data.toList,((⟨#[97,108,108]⟩ :VU)).data.toList][i]? =some s->W.cell? ⟨0,i,none⟩ =some (.string ⟨s.toArray⟩):=λi s bo=>by
  have h2:=World.var?_cell cy NJ i;have h3:=aP i s bo
  rw [h2]
  simpa using h3
 refine⟨World.block_lt_of_cell? W _ (aN 0 _ rfl),λi s bo=>?_⟩
 match i,bo with
 | 0,bo=>simp at bo;subst bo;exact aN 0 _ rfl
 | 1,bo=>simp at bo;subst bo;exact aN 1 _ rfl
 | 2,bo=>simp at bo;subst bo;exact aN 2 _ rfl
 | 3,bo=>simp at bo;subst bo;exact aN 3 _ rfl
set_option maxHeartbeats 4000000
theorem aAK (os:Os) {H:Type} (enc:TypeId×Value->H):∃places,DataW.whole enc Tryz.prog ((World.laidAll Tryz.prog os Rows.fnScriptRow.laid).forCall (λ_ _=>0) ⟨#[],#[()],[]⟩).memory Tryz.f5.params.toList Rows.fnScriptSpec.vars false (#[()]:Array Value).toList 8= some ([.nil],[Rows.laid_loop_example_g00909_impl_needWords],places):=
 aGg PV
theorem aAI (os:Os):laidMet Tryz.prog Rows.fnScriptRow.laid ((World.laidAll Tryz.prog os Rows.fnScriptRow.laid).forCall (λ_ _=>0) ⟨#[],#[()],[]⟩).memory:=
 laidMet_laidAll _ PV PV
theorem aAF (os:Os) (started:os.Started) (H:Type) (enc:TypeId×Value->H) (F:Stop.Interp):
  ReturnsInHanded {} Tryz.checked os 5 .any ((OpenSpec.ofChange Rows.fnScriptSpec).preRow enc Tryz.prog Tryz.f5 Rows.fnScriptRow.domain false Rows.fnScriptRow.laid) (((OpenSpec.ofChange Rows.fnScriptSpec).at F).post enc Tryz.prog Tryz.f5 false true false false):=by
 obtain⟨places,av⟩:=aAK os enc
 refine Vd (C:=Tryz.checked) (rt:=4) aHP started PV Tryz.func5
  (witness_row_atRef (enc:=enc) (C:=Tryz.checked) false (World.laidAll Tryz.prog os Rows.fnScriptRow.laid) #[()] (World.laidAll_os _ _ _) PV PV PV (OpenSpec.preRow_of_cond 8 av PV (λk ax=>by cases ax) PV (aAI os)))
  aHO (by rw [Tryz.params5];intro t cJ;simp at cJ;rcases cJ with rfl;all_goals exact⟨by kernel_rfl,of_decide_eq_true PV⟩) rfl Tryz.underlying4 PV
  (by rw [Tryz.params5];intro l g aT cy;match l,g,aT,cy with | [d0],[g0],_,_=>rfl) ?_
 intro W base args pg p br lM px bl
 rw [Tryz.params5] at bl px
 obtain⟨v0,d0,rfl,rfl,h0⟩:=trodAll_one bl
 obtain⟨abX,agC,acy,rfl⟩:=okWide_slice Tryz.underlying35 (px 0 35 v0 rfl rfl)
 obtain⟨adF,MA⟩:=h0
 obtain⟨aal,acx,cs,Ei,agx,Md⟩:=aGb Ac 1 WG Tryz.underlying35 UX (λ_ _ _ h=>aGc h) MA
 simp [Value.cells] at Ei
 obtain⟨rfl,rfl,rfl⟩:=Ei
 exact awR _ _ cs W Md ⟨aId rfl br,Vk rfl br,aHA lM⟩ (axX rfl br)
set_option maxHeartbeats 4000000
theorem aAC:joinedFacts Tryz.pinned.checked.prog 5 Tryz.f5 (OpenSpec.ofChange Rows.fnScriptSpec).bare Rows.fnScriptRow= true:=by
 unfold joinedFacts
 iterate 23 (refine (Xa _ _).mpr ⟨?_,?_⟩)
 all_goals as_aux_lemma=>kernel_rfl
theorem ajc:Tryz.pinned.checked.prog.funcNamed Rows.fnScriptRow.func= some 5:=PV
theorem aAE:Tryz.f5.isInstance Tryz.pinned.checked.prog Rows.fnScriptRow.origin Rows.fnScriptRow.targs:=of_decide_eq_true (by as_aux_lemma=>kernel_rfl)
theorem aAN:Tryz.f5.isWrapper Tryz.pinned.checked.prog Rows.fnScriptRow.wrapper Rows.fnScriptRow.mainSum:=by unfold Func.isWrapper;first | (rw [XX ZY];kernel_rfl) | (rw [XU ZY];exact⟨rfl,rfl⟩)
theorem aAL:Rows.FnScriptSaid:=
 OpenClaim.holds_of_cond 5 Tryz.f5 rfl rfl rfl rfl rfl rfl rfl ⟨rfl,rfl,rfl,rfl,rfl⟩ rfl rfl rfl rfl rfl ajc Tryz.func5 aAC
  aAE aAN
  (λos started H enc _ F=>by rw [OpenClaim.pre_eq_preRow];exact aAF os started H enc F)
theorem aAG:Rows.fnScriptCard.stood.looks= Tryz.pinned.checked.prog.looks []:=PV
theorem aAJ (f:FuncId) (fn:Func) (hf:Tryz.pinned.checked.prog.funcNamed Rows.fnScriptRow.func= some f) (GI:Tryz.pinned.checked.prog.funcs[f]? =some fn):
  Rows.fnScriptCard.stood.looks= Tryz.pinned.checked.prog.looks []/\∀(j:Nat) t,fn.params[j]? =some t->Tryz.pinned.checked.prog.wantsStandIn t= false:=by
 obtain rfl:f= 5:=Wx (ajc.symm.trans hf) |>.symm
 obtain rfl:fn= Tryz.f5:=(Wx (Tryz.func5.symm.trans GI)).symm
 refine⟨aAG,λj t cJ=>?_⟩
 have my:Tryz.f5.params.toList.all (λt=>!Tryz.prog.wantsStandIn t)= true:=by as_aux_lemma=>kernel_rfl
 have hm:=YN.1 my t (Array.mem_toList_iff.2 (Array.mem_of_getElem? cJ))
 exact (YJ _).mp hm
theorem aAM:Rows.fnScriptRow.wfByText (OpenSpec.ofChange Rows.fnScriptSpec)= true:=PV
theorem aAH:Tryz.pinned.checked.prog.mainIs= some (Rows.fnScriptCard.stood.harness.1,Rows.fnScriptCard.stood.harness.2.toList):=PV
theorem aAD:false= Rows.fnScriptRow.goesBy Tryz.pinned.checked.prog:=PV
theorem script_holds:Rows.FnScriptCardSaid:=
 Claim7.holds_tied_plain_at .later [] _ _ _ _ aAL (λ_ h=>by cases h) aAM (λ_ h=>by cases h) fnScript_row_tie rfl ⟨rfl,rfl⟩ aAH rfl aAJ aAD
#print axioms script_holds
end Go.Proofs.YtlaaemmmbodaaaaGreatDoor
