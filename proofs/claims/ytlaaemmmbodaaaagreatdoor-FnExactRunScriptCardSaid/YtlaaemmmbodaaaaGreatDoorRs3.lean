/- Parts. -/
import Derived.Test.YtlaaemmmbodaaaaGreatDoorRs2
set_option maxHeartbeats 16000000
set_option maxRecDepth 100000
set_option linter.unnecessarySimpa false
set_option linter.unusedSimpArgs false
set_option linter.unusedVariables false
namespace Go.Proofs.YtlaaemmmbodaaaaGreatDoor
open Go.RowKit Go.G9
def ym (f:eD) (k:Nat):eD:={f with ws:=f.ws.take k ++ f.ws.drop (k + 1) }
theorem XP {t:Int→Int} {xs:List Int} {x:Int} (h:x ∈ ik (sj t) xs xs.length):x ∈ xs:=by
 have h2:=(HK (t:=t) (xs:=xs) xs.length (Nat.le_refl _)).2 (t x)
 rw [List.take_length] at h2
 have h3:x ∈ (ik (sj t) xs xs.length).filter (fun z=>t z == t x):=List.mem_filter.2 ⟨h,by simp⟩
 rw [h2] at h3
 exact (List.mem_filter.1 h3).1
theorem aqJ {f:eD} (h:f.ws.length= 0):kF f= []:=List.length_eq_zero_iff.1 ((DA f).trans h)
theorem aqK (f:eD) (h:0 < f.ws.length):∃m,f.ws[ko f f.ws.length]? =some m∧kF f= m ::kF (ym f (ko f f.ws.length)):=by
 obtain⟨m,h1,h2,h3⟩:=PG f f.ws.length h (Nat.le_refl _)
 refine⟨m,h1,?_⟩
 generalize ko f f.ws.length= k at *
 obtain⟨s1,s2⟩:=HK (t:=iX f) (xs:=f.ws) f.ws.length (Nat.le_refl _)
 obtain⟨dz,r2⟩:=HK (t:=iX f) (xs:=(ym f k).ws) (ym f k).ws.length (Nat.le_refl _)
 have ax:k < f.ws.length:=(List.getElem?_eq_some_iff.1 h1).1
 have hw:f.ws= f.ws.take k ++ m ::f.ws.drop (k + 1):=by
  have e:=List.take_append_drop k f.ws
  rw [List.drop_eq_getElem_cons ax,(List.getElem?_eq_some_iff.1 h1).2] at e
  exact e.symm
 have sq:∀x ∈ f.ws,iX f m≤iX f x:=fun x ay=>by
  obtain⟨i,hi⟩:=List.mem_iff_getElem?.1 ay
  exact h2 i x (List.getElem?_eq_some_iff.1 hi).1 hi
 have sr:∀x ∈ f.ws.take k,iX f m < iX f x:=fun x ay=>by
  obtain⟨i,hi⟩:=List.mem_iff_getElem?.1 ay
  have bn:i < k:=by have:=(List.getElem?_eq_some_iff.1 hi).1;rw [List.length_take] at this;omega
  rw [List.getElem?_take_of_lt bn] at hi
  exact h3 i x bn hi
 rw [List.take_length] at s2 r2
 refine ZU (t:=iX f) s1 (List.pairwise_cons.2 ⟨fun x ay=>?_,dz⟩) fun v=>?_
 ·have hm:=XP (t:=iX f) ay
  refine sq x ?_
  rw [hw]
  simp only [ym,List.mem_append,List.mem_cons] at hm ⊢
  rcases hm with hm | hm
  ·exact .inl hm
  ·exact .inr (.inr hm)
 ·have e1:=s2 v
  have e2:=r2 v;have e3:kF (ym f k)= ik (sj (iX f)) (ym f k).ws (ym f k).ws.length:=rfl;have e0:kF f= ik (sj (iX f)) f.ws f.ws.length:=rfl
  rw [e0,e1,List.filter_cons,e3,e2]
  conv=>lhs;rw [hw]
  simp only [ym,List.filter_append,List.filter_cons]
  by_cases az:(iX f m == v)= true
  ·have e4:(f.ws.take k).filter (fun z=>iX f z == v)= []:=by
    rw [List.filter_eq_nil_iff]
    intro x ay
    have:=sr x ay;have:=beq_iff_eq.1 az
    simp;omega
   rw [e4,if_pos az,if_pos az];rfl
  ·rw [if_neg az,if_neg az]
open Go.RowKit Go.G9
theorem Fm (b off c k:Nat) (xs:List Int) (n:Int) (ax:k≤xs.length) (bd:xs.length≤1048576) (v:Bool) (az:hasB (xs.take k) n= v) (w:World) (bN:aJ 1 bU w (some ⟨b,off,none⟩) xs):
 Calls Tryz.prog 199 #[.slice (some ⟨b,off,none⟩) k c,n] w fun e ah=>e= .returned v∧Below w w ah:=by
 have qO:(xs.take k).length= k:=by rw [List.length_take];omega
 have h:=Ac (some ⟨b,off,none⟩) c (xs.take k) n (by omega) v az w (Qf bN k)
 rw [qO] at h;exact h
theorem CX (b off c k:Nat) (xs:List Int) (n:Int) (ax:k≤xs.length) (bd:xs.length≤1048576) (v:Bool) (az:hasB (xs.take k) n= v) (w:World) (bN:aJ 1 bU w (some ⟨b,off,none⟩) xs):
 Calls Tryz.prog 265 #[.slice (some ⟨b,off,none⟩) k c,n] w fun e ah=>e= .returned v∧Below w w ah:=by
 have qO:(xs.take k).length= k:=by rw [List.length_take];omega
 have h:=zk (some ⟨b,off,none⟩) c (xs.take k) n (by omega) v az w (Qf bN k)
 rw [qO] at h;exact h
theorem ahH {ag af sp:Int} {ws:List Int} {ad:List aK} (h:fc ag 1 3= false):gl ag af sp ws ad= false:=by rw [gl,h];simp
theorem ahI {ag af sp:Int} {ws:List Int} {ad:List aK} (h:fc af 1 3600= false):gl ag af sp ws ad= false:=by rw [gl,h];simp
theorem Um {ag af sp:Int} {ws:List Int} {ad:List aK} (h0:sp≠0) (h:eH sp= false):gl ag af sp ws ad= false:=by rw [gl,h,beq_eq_false_iff_ne.2 h0];simp
theorem Un {ag af sp:Int} {ws:List Int} {ad:List aK} (h:¬ws.length≤10):gl ag af sp ws ad= false:=by rw [gl,decide_eq_false h];simp
theorem ahJ {ag af:Int} {ws:List Int} {ad:List aK} (h1:fc ag 1 3= true) (h2:fc af 1 3600= true) (h4:ws.length≤10) (h5:sO ag af ad= true) (h6:hI (tJ ag af 0 ws ad) ws.length= true):gl ag af 0 ws ad= true:=by
 rw [gl,h1,h2,decide_eq_true h4,h5,h6];rfl
theorem Uo {ag af sp:Int} {ws:List Int} {ad:List aK} (h1:fc ag 1 3= true) (h2:fc af 1 3600= true) (h0:sp≠0) (h3:eH sp= true) (h4:ws.length≤10) (h5:sO ag af ad= true) (h6:hI (tJ ag af sp ws ad) ws.length= true):gl ag af sp ws ad= decide ((eB ad sp).de < ag):=by
 rw [gl,h1,h2,h3,decide_eq_true h4,h5,h6,Qv,beq_eq_false_iff_ne.2 h0];simp
theorem aaJ {p:Prop} (h:p:=by
 obtain⟨b,off,x,rfl,dU,ay,bq⟩:=bO.at_ (Below.refl _ _) bn
 obtain⟨dZ,iG,xs⟩:=x
 have f4:=(aj.cell 4).trans (show _= some (.slice (some ⟨b,off,none⟩) ad eY) from rfl);have cy:=bq 0 _ rfl;have dD:=bq 1 _ rfl;have di:=bq 2 _ rfl
 simp only [Nat.add_zero] at cy
 have g0:=cy (aB.self _);have g1:=dD (aB.self _);have g2:=di (aB.self _)
 simp only [aB.self] at g0
 simp only [aB.self] at g1
 simp only [aB.self] at g2
 have cg:=J ay;clear ay bq
 go_upto_region 6 with fail
 clear f4
 refine cR fun aH ao aO=>?_
 replace bO:=bO.U ao;replace bK:=bK.U ao;replace I:=ai I ao;have bG:=aO.cK;replace aj:=aj.to ao
 obtain⟨f0,f1,f2,f3,f4⟩:=aj.aS
 clear cy dD di g0 g1 g2
 cases h1:eH dZ
 ·have H1:=J h1;clear h1
  clear bG;have bG:=aC.jN (fun K:aB aH.heap.size aH=>(aO.U K.U aO.lt));clear f0 f1 f2 f3 f4
  obtain⟨f0,f1,f2,f3,f4⟩:=aC.kz (fun K:aB aH.heap.size aH=>(aj.U K.U aj.lt))
  refine eC (by kernel_rfl) (by kernel_rfl) ?_
  repeat (go_big_quiet_step (fail))
  go_big_quiet_step ((go_at_call 123;exact aB.same _ (iN dZ _ H1.out _)))
  repeat (go_big_quiet_step (fail))
  refine wpQuiet_nil ?_
  intro K
  go_wp2
  go_ret
  exact⟨ep (FA (zx bn (by cases k with | zero=>(rw [zw cg.out,kE];simp only [H1.out];simp) | succ j=>(have hy:ad[j]? =some ad[j]:=List.getElem?_eq_getElem (by omega);rw [wB hy cg.out,kE];simp only [H1.out];simp)))).symm,ai I K.U⟩
 have H1:=J h1;clear h1
 cases h2:fc iG 0 ag
 ·have gb:=J h2;clear h2
  clear bG;have bG:=aC.jN (fun K:aB aH.heap.size aH=>(aO.U K.U aO.lt));clear f0 f1 f2 f3 f4
  obtain⟨f0,f1,f2,f3,f4⟩:=aC.kz (fun K:aB aH.heap.size aH=>(aj.U K.U aj.lt))
  refine eC (by kernel_rfl) (by kernel_rfl) ?_
  repeat (go_big_quiet_step (fail))
  go_big_quiet_step ((go_at_call 123;exact aB.same _ (iN dZ _ H1.out _)))
  repeat (go_big_quiet_step (fail))
  go_big_quiet_step ((go_at_call 79;exact aB.same _ (je iG 0 ag _ gb.out _)))
  repeat (go_big_quiet_step (fail))
  refine wpQuiet_nil ?_
  intro K
  go_wp2
  go_ret
  exact⟨ep (FA (zx bn (by cases k with | zero=>(rw [zw cg.out,kE];simp only [H1.out,gb.out];simp) | succ j=>(have hy:ad[j]? =some ad[j]:=List.getElem?_eq_getElem (by omega);rw [wB hy cg.out,kE];simp only [H1.out,gb.out];simp)))).symm,ai I K.U⟩
 have gb:=J h2;clear h2
 cases h3:fc xs 0 af
 ·have hr:=J h3;clear h3
  clear bG;have bG:=aC.jN (fun K:aB aH.heap.size aH=>(aO.U K.U aO.lt));clear f0 f1 f2 f3 f4
  obtain⟨f0,f1,f2,f3,f4⟩:=aC.kz (fun K:aB aH.heap.size aH=>(aj.U K.U aj.lt))
  refine eC (by kernel_rfl) (by kernel_rfl) ?_
  repeat (go_big_quiet_step (fail))
  go_big_quiet_step ((go_at_call 123;exact aB.same _ (iN dZ _ H1.out _)))
  repeat (go_big_quiet_step (fail))
  go_big_quiet_step ((go_at_call 79;exact aB.same _ (je iG 0 ag _ gb.out _)))
  repeat (go_big_quiet_step (fail))
  go_big_quiet_step ((go_at_call 79;exact aB.same _ (je xs 0 af _ hr.out _)))
  repeat (go_big_quiet_step (fail))
  refine wpQuiet_nil ?_
  intro K
  go_wp2
  go_ret
  exact⟨ep (FA (zx bn (by cases k with | zero=>(rw [zw cg.out,kE];simp only [H1.out,gb.out,hr.out];simp) | succ j=>(have hy:ad[j]? =some ad[j]:=List.getElem?_eq_getElem (by omega);rw [wB hy cg.out,kE];simp only [H1.out,gb.out,hr.out];simp)))).symm,ai I K.U⟩
 have hr:=J h3;clear h3;have dp:Hid (kE ag af ⟨dZ,iG,xs⟩ =true):=J (by rw [kE];simp only [H1.out,gb.out,hr.out];rfl)
 cases k with
 | zero=>
  clear bG;have bG:=aC.jN (fun K:aB aH.heap.size aH=>(aO.U K.U aO.lt));clear f0 f1 f2 f3 f4
  obtain⟨f0,f1,f2,f3,f4⟩:=aC.kz (fun K:aB aH.heap.size aH=>(aj.U K.U aj.lt))
  refine eC (by kernel_rfl) (by kernel_rfl) ?_
  repeat (go_big_quiet_step (fail))
  go_big_quiet_step ((go_at_call 123;exact aB.same _ (iN dZ _ H1.out _)))
  repeat (go_big_quiet_step (fail))
  go_big_quiet_step ((go_at_call 79;exact aB.same _ (je iG 0 ag _ gb.out _)))
  repeat (go_big_quiet_step (fail))
  go_big_quiet_step ((go_at_call 79;exact aB.same _ (je xs 0 af _ hr.out _)))
  repeat (go_big_quiet_step (fail))
  refine wpQuiet_nil ?_
  intro K
  go_wp2
  go_roundw
  case rel=>exact⟨1,by omega,by go_num,np cJ.out (by rw [zw cg.out];exact dp.out),ai I K.U,aj.U K.U aj.lt⟩
  case measure=>simp [intOf];omega
 | succ j=>
  obtain⟨cE,rO,y,gy,_,hy,dh⟩:=bO.at_ (Below.refl _ _) (k:=j) (by omega)
  simp only [Option.some.injEq,Addr.mk.injEq,and_true] at gy
  obtain⟨rfl,rfl⟩:=gy
  obtain⟨ot,po,ys⟩:=y
  have iB:=dh 0 _ rfl
  simp only [Nat.add_zero] at iB
  have iv:=J hy;clear hy dh
  by_cases za:ot < dZ
  ·have hle:decide (dZ≤ot)= false:=decide_eq_false (by omega)
   clear bG;have bG:=aC.jN (fun K:aB aH.heap.size aH=>(aO.U K.U aO.lt));clear f0 f1 f2 f3 f4
   obtain⟨f0,f1,f2,f3,f4⟩:=aC.kz (fun K:aB aH.heap.size aH=>(aj.U K.U aj.lt))
   refine eC (by kernel_rfl) (by kernel_rfl) ?_
   repeat (go_big_quiet_step (fail))
   go_big_quiet_step ((go_at_call 123;exact aB.same _ (iN dZ _ H1.out _)))
   repeat (go_big_quiet_step (fail))
   go_big_quiet_step ((go_at_call 79;exact aB.same _ (je iG 0 ag _ gb.out _)))
   repeat (go_big_quiet_step (fail))
   go_big_quiet_step ((go_at_call 79;exact aB.same _ (je xs 0 af _ hr.out _)))
   repeat (go_big_quiet_step (fail))
   refine wpQuiet_nil ?_
   intro K
   go_wp2
   go_roundw
   case rel=>exact⟨j + 1 + 1,by omega,by go_num,np cJ.out (by rw [wB iv.out cg.out,dp.out,decide_eq_true (show (aK.mem ⟨ot,po,ys⟩) < (aK.mem ⟨dZ,iG,xs⟩) from za)];rfl),ai I K.U,aj.U K.U aj.lt⟩
   case measure=>simp [intOf];omega
  ·have hle:decide (dZ≤ot)= true:=decide_eq_true (by omega)
   clear bG;have bG:=aC.jN (fun K:aB aH.heap.size aH=>(aO.U K.U aO.lt));clear f0 f1 f2 f3 f4
   obtain⟨f0,f1,f2,f3,f4⟩:=aC.kz (fun K:aB aH.heap.size aH=>(aj.U K.U aj.lt))
   refine eC (by kernel_rfl) (by kernel_rfl) ?_
   repeat (go_big_quiet_step (fail))
   go_big_quiet_step ((go_at_call 123;exact aB.same _ (iN dZ _ H1.out _)))
   repeat (go_big_quiet_step (fail))
   go_big_quiet_step ((go_at_call 79;exact aB.same _ (je iG 0 ag _ gb.out _)))
   repeat (go_big_quiet_step (fail))
   go_big_quiet_step ((go_at_call 79;exact aB.same _ (je xs 0 af _ hr.out _)))
   repeat (go_big_quiet_step (fail))
   refine wpQuiet_nil ?_
   intro K
   go_wp2
   go_ret
   exact⟨ep (FA (zx bn (by rw [wB iv.out cg.out,dp.out,decide_eq_false (show¬(aK.mem ⟨ot,po,ys⟩) < (aK.mem ⟨dZ,iG,xs⟩) from by show¬ot < dZ;omega)];rfl))).symm,ai I K.U⟩):p:=h
theorem adX {p:Prop} (h:p:=by
 have hG:=J h1;clear h1
 go_wp2_with fail
 refine (iN m _ hG.out _).mono ?_
 rintro e w0 ⟨rfl,h0⟩
 rw [h0]
 clear h0 w0
 go_wp2
 go_ret
 exact⟨ep (yJ bn (by rw [wI cg.out];simp only [hG.out];simp)).symm,(ai I aw)⟩):p:=h
theorem adZ {p:Prop} (h:p:=by
 have mi:=J h2
 go_wp2_with fail
 refine (iN m _ hG.out _).mono ?_
 rintro e w0 ⟨rfl,h0⟩
 rw [h0]
 clear h0 w0
 go_wp2
 go_ret
 exact⟨ep (yJ bn (by rw [wI cg.out];simp only [hG.out,mi.out];simp)).symm,(ai I aw)⟩):p:=h
theorem acP {p:Prop} (h:p:=by
 have mj:=J h3;clear h3
 go_wp2_with fail
 refine (iN m _ hG.out _).mono ?_
 rintro e w0 ⟨rfl,h0⟩
 rw [h0]
 clear h0 w0
 go_wp2_with fail
 refine (Fm b off _ k ws m (by omega) hw _ mj.out _ (bK.U aw)).mono ?_
 rintro e aQ ⟨rfl,aP⟩
 have ao:=be wr aP;replace I:=ai I ao;replace bO:=bO.U ao;replace bK:=bK.U ao;replace aj:=aj.to ao;clear f0 f1 f2 f3 f4
 obtain⟨f0,f1,f2,f3,f4⟩:=aj.aS
 go_wp2
 go_ret
 exact⟨ep (yJ bn (by rw [wI cg.out];simp only [hG.out,mi.out,mj.out];simp)).symm,(ai I aw)⟩):p:=h
theorem ady {p:Prop} (h:p:=by
 rintro e bA ⟨rfl,bC⟩
 have aL:=be aQ bC;replace I:=ai I aL;replace bO:=bO.U aL;replace bK:=bK.U aL;replace aj:=aj.to aL;clear f0 f1 f2 f3 f4
 obtain⟨f0,f1,f2,f3,f4⟩:=aj.aS
 go_wp2
 go_ret
 exact⟨ep (yJ bn (by rw [wI cg.out];simp only [hG.out,mi.out,mj.out,ox.out];simp)).symm,(ai I aw)⟩):p:=h
theorem adl {p:Prop} (h:p:=by
 rintro e bA ⟨rfl,bC⟩
 have aL:=be aQ bC;replace I:=ai I aL;replace bO:=bO.U aL;replace bK:=bK.U aL;replace aj:=aj.to aL;clear f0 f1 f2 f3 f4
 obtain⟨f0,f1,f2,f3,f4⟩:=aj.aS
 go_wp2
 go_roundw
 case rel=>exact⟨k + 1,by omega,by go_num,np cJ.out (by rw [wI cg.out];simp only [hG.out,mi.out,mj.out,ox.out];rfl),I,aj⟩
 case measure=>simp [intOf];omega):p:=h
theorem aaU {p:Prop} (h:p:=by
 refine eC (by kernel_rfl) (by kernel_rfl) ?_
 repeat (go_big_quiet_step (fail))
 refine wpQuiet_nil ?_
 intro K
 go_wp2
 go_ret
 exact⟨ep (ahJ H1.out gb.out h4 lW.out cJ.out).symm,ai I K.U⟩):p:=h
theorem akS (ag af:Int) (W:Option Addr) (ws:List Int) (wc:Nat) (S:Option Addr) (eY:Nat) (ad:List aK) (hw:ws.length≤1048576) (bd:ad.length≤1048576) (aG:ws.length≤wc) (h1:fc ag 1 3= true) (h2:fc af 1 3600= true) (h4:ws.length≤10) (w:World) (bK:aJ 1 bU w W ws) (bO:aJ 3 aK.cells w S ad):
 Calls Tryz.prog 119 #[.agg #[ag,af,(0:Int),.slice W ws wc,.slice S ad eY]] w fun e ah=>e= .returned (.bool (gl ag af 0 ws ad))∧Below w w ah:=by
 have H1:=J h1;have gb:=J h2;clear h1 h2
 skip
 go_in
 have uz:=J bO;have xt:=J bK
 go_upto_region 1 with fail
 refine cR fun aH av aj=>?_
 replace bO:=bO.U av;replace bK:=bK.U av;have I:=av
 obtain⟨f0,f1,f2,f3,f4⟩:=aj.aS
 go_wp2_with fail
 refine (je ag 1 3 _ H1.out _).mono ?_
 rintro e w0 ⟨rfl,h0⟩
 rw [h0]
 clear h0 w0
 go_wp2_with fail
 refine (je af 1 3600 _ gb.out _).mono ?_
 rintro e w0 ⟨rfl,h0⟩
 rw [h0]
 clear h0 w0
 skip
 go_wp2
 go_loopw [37] (fun i wr=>∃k:Nat,k≤ad.length∧i= .int .i64 k∧hI (rV ag af ad) k= true∧Below w w wr∧aC wr w.heap.size 41 #[ag,af,(0:Int),.slice W ws wc,.slice S ad eY]) (fun i _=>ad.length - (intOf i).toNat)
 case atStart=>exact⟨0,Nat.zero_le _,rfl,rfl,I,aj⟩
 case round=>
  clear bO bK I f0 f1 f2 f3 f4 aj
  obtain⟨k,ax,rfl,aT,aE,aj⟩:=hrel
  have cJ:=J aT;clear aT;have bO:=uz.out;have bK:=xt.out;have av:=be w aE;have I:Below w w wr:=av;replace bO:=bO.U av;replace bK:=bK.U av
  by_cases bn:k < ad.length
  ·exact aaJ
  ·obtain⟨f0,f1,f2,f3,f4⟩:=aj.aS
   obtain rfl:k= ad.length:=by omega
   have lW:Hid (sO ag af ad= true):=J cJ.out;clear cJ
   go_upto_region 9 with fail
   go_wp2
   clear f0 f1 f2 f3 f4
   go_loopw [82] (fun i wr=>∃k:Nat,k≤ws.length∧i= .int .i64 k∧hI (tJ ag af 0 ws ad) k= true∧Below w w wr∧aC wr w.heap.size 41 #[ag,af,(0:Int),.slice W ws wc,.slice S ad eY]) (fun i _=>ws.length - (intOf i).toNat)
   case atStart=>exact⟨0,Nat.zero_le _,rfl,rfl,I,aj⟩
   case round=>
    clear bO bK I aj
    obtain⟨k,ax,rfl,aT,aE,aj⟩:=hrel
    have cJ:=J aT;clear aT;have bO:=uz.out;have bK:=xt.out;have av:=be w aE;have I:Below w w wr:=av;replace bO:=bO.U av;replace bK:=bK.U av
    by_cases bn:k < ws.length
    ·obtain⟨b,off,m,rfl,dU,ay,bq⟩:=bK.at_ (Below.refl _ _) bn
     have cy:=bq 0 _ rfl
     simp only [Nat.mul_one,Nat.add_zero] at cy
     have g0:=cy (aB.self _)
     simp only [aB.self] at g0
     have cg:=J ay;clear ay bq cy
     obtain⟨f0,f1,f2,f3,f4⟩:=aj.aS
     have Ap:(k:Int)≤(wc:Int):=by omega
     go_upto_region 12 with fail
     clear g0
     cases h1:eH m
     ·exact adX
     have hG:=J h1;clear h1
     by_cases h2:(m == 0)= true
     ·exact adZ
     replace h2:=Bool.eq_false_iff.2 h2;have mi:=J h2
     by_cases h3:hasB (ws.take k) m= true
     ·exact acP
     replace h3:=Bool.eq_false_iff.2 h3;have mj:=J h3;clear h3
     cases h4:oD ag af (eB ad m)
     ·have ox:=J h4;clear h4
      go_wp2_with fail
      refine (iN m _ hG.out _).mono ?_
      rintro e w0 ⟨rfl,h0⟩
      rw [h0]
      clear h0 w0
      go_wp2_with fail
      refine (Fm b off _ k ws m (by omega) hw _ mj.out _ (bK.U aw)).mono ?_
      rintro e aQ ⟨rfl,aP⟩
      have ao:=be wr aP;replace I:=ai I ao;replace bO:=bO.U ao;replace bK:=bK.U ao;replace aj:=aj.to ao;clear f0 f1 f2 f3 f4
      obtain⟨f0,f1,f2,f3,f4⟩:=aj.aS
      go_wp2_with fail
      refine (AM ag af 0 (some ⟨b,off,none⟩) ws.length wc S eY ad bd m _ ox.out _ (bO.U aw)).mono ?_
      exact ady
     ·have ox:=J h4;clear h4
      go_wp2_with fail
      refine (iN m _ hG.out _).mono ?_
      rintro e w0 ⟨rfl,h0⟩
      rw [h0]
      clear h0 w0
      go_wp2_with fail
      refine (Fm b off _ k ws m (by omega) hw _ mj.out _ (bK.U aw)).mono ?_
      rintro e aQ ⟨rfl,aP⟩
      have ao:=be wr aP;replace I:=ai I ao;replace bO:=bO.U ao;replace bK:=bK.U ao;replace aj:=aj.to ao;clear f0 f1 f2 f3 f4
      obtain⟨f0,f1,f2,f3,f4⟩:=aj.aS
      go_wp2_with fail
      refine (AM ag af 0 (some ⟨b,off,none⟩) ws.length wc S eY ad bd m _ ox.out _ (bO.U aw)).mono ?_
      exact adl
    ·obtain rfl:k= ws.length:=by omega
     obtain⟨f0,f1,f2,f3,f4⟩:=aj.aS
     go_upto_region 15 with fail
     clear f0 f1 f2 f3 f4
     obtain⟨f0,f1,f2,f3,f4⟩:=aC.kz (fun K:aB wr.heap.size wr=>(aj.U K.U aj.lt))
     exact aaU
theorem aea {p:Prop} (h:p:=by
 repeat (go_big_quiet_step (fail))
 refine wpQuiet_nil ?_
 intro K
 go_wp2
 go_ret
 exact⟨ep (by rw [Uo H1.out gb.out h0 hr.out h4 lW.out cJ.out,dW.out,decide_eq_true (show (aK.de ⟨sm,st,cx⟩) < ag from iM)]),ai I K.U⟩):p:=h
theorem adQ {p:Prop} (h:p:=by
 repeat (go_big_quiet_step (fail))
 refine wpQuiet_nil ?_
 intro K
 go_wp2
 go_ret
 exact⟨ep (by rw [Uo H1.out gb.out h0 hr.out h4 lW.out cJ.out,dW.out,decide_eq_false (show¬(aK.de ⟨sm,st,cx⟩) < ag from by show¬st < ag;omega)]),ai I K.U⟩):p:=h
theorem akR (ag af sp:Int) (W:Option Addr) (ws:List Int) (wc:Nat) (S:Option Addr) (eY:Nat) (ad:List aK) (hw:ws.length≤1048576) (bd:ad.length≤1048576) (aG:ws.length≤wc) (h1:fc ag 1 3= true) (h2:fc af 1 3600= true) (h0:sp≠0) (h3:eH sp= true) (h4:ws.length≤10) (w:World) (bK:aJ 1 bU w W ws) (bO:aJ 3 aK.cells w S ad):
 Calls Tryz.prog 119 #[.agg #[ag,af,sp,.slice W ws wc,.slice S ad eY]] w fun e ah=>e= .returned (.bool (gl ag af sp ws ad))∧Below w w ah:=by
 have H1:=J h1;have gb:=J h2;clear h1 h2;have hr:=J h3;clear h3
 go_in
 have uz:=J bO;have xt:=J bK
 go_upto_region 1 with fail
 refine cR fun aH av aj=>?_
 replace bO:=bO.U av;replace bK:=bK.U av;have I:=av
 obtain⟨f0,f1,f2,f3,f4⟩:=aj.aS
 go_wp2_with fail
 refine (je ag 1 3 _ H1.out _).mono ?_
 rintro e w0 ⟨rfl,h0⟩
 rw [h0]
 clear h0 w0
 go_wp2_with fail
 refine (je af 1 3600 _ gb.out _).mono ?_
 rintro e w0 ⟨rfl,h0⟩
 rw [h0]
 clear h0 w0
 go_wp2_with fail
 refine (iN sp _ hr.out _).mono ?_
 rintro e w0 ⟨rfl,h0⟩
 rw [h0]
 clear h0 w0
 go_wp2
 go_loopw [37] (fun i wr=>∃k:Nat,k≤ad.length∧i= .int .i64 k∧hI (rV ag af ad) k= true∧Below w w wr∧aC wr w.heap.size 41 #[ag,af,sp,.slice W ws wc,.slice S ad eY]) (fun i _=>ad.length - (intOf i).toNat)
 case atStart=>exact⟨0,Nat.zero_le _,rfl,rfl,I,aj⟩
 case round=>
  clear bO bK I f0 f1 f2 f3 f4 aj
  obtain⟨k,ax,rfl,aT,aE,aj⟩:=hrel
  have cJ:=J aT;clear aT;have bO:=uz.out;have bK:=xt.out;have av:=be w aE;have I:Below w w wr:=av;replace bO:=bO.U av;replace bK:=bK.U av
  by_cases bn:k < ad.length
  ·exact aaJ
  ·obtain⟨f0,f1,f2,f3,f4⟩:=aj.aS
   obtain rfl:k= ad.length:=by omega
   have lW:Hid (sO ag af ad= true):=J cJ.out;clear cJ
   go_upto_region 9 with fail
   go_wp2
   clear f0 f1 f2 f3 f4
   go_loopw [82] (fun i wr=>∃k:Nat,k≤ws.length∧i= .int .i64 k∧hI (tJ ag af sp ws ad) k= true∧Below w w wr∧aC wr w.heap.size 41 #[ag,af,sp,.slice W ws wc,.slice S ad eY]) (fun i _=>ws.length - (intOf i).toNat)
   case atStart=>exact⟨0,Nat.zero_le _,rfl,rfl,I,aj⟩
   case round=>
    clear bO bK I aj
    obtain⟨k,ax,rfl,aT,aE,aj⟩:=hrel
    have cJ:=J aT;clear aT;have bO:=uz.out;have bK:=xt.out;have av:=be w aE;have I:Below w w wr:=av;replace bO:=bO.U av;replace bK:=bK.U av
    by_cases bn:k < ws.length
    ·obtain⟨b,off,m,rfl,dU,ay,bq⟩:=bK.at_ (Below.refl _ _) bn
     have cy:=bq 0 _ rfl
     simp only [Nat.mul_one,Nat.add_zero] at cy
     have g0:=cy (aB.self _)
     simp only [aB.self] at g0
     have cg:=J ay;clear ay bq cy
     obtain⟨f0,f1,f2,f3,f4⟩:=aj.aS
     have Ap:(k:Int)≤(wc:Int):=by omega
     go_upto_region 12 with fail
     clear g0
     cases h1:eH m
     ·exact adX
     have hG:=J h1;clear h1
     by_cases h2:(m == sp)= true
     ·exact adZ
     replace h2:=Bool.eq_false_iff.2 h2;have mi:=J h2
     by_cases h3:hasB (ws.take k) m= true
     ·exact acP
     replace h3:=Bool.eq_false_iff.2 h3;have mj:=J h3;clear h3
     cases h4:oD ag af (eB ad m)
     ·have ox:=J h4;clear h4
      go_wp2_with fail
      refine (iN m _ hG.out _).mono ?_
      rintro e w0 ⟨rfl,h0⟩
      rw [h0]
      clear h0 w0
      go_wp2_with fail
      refine (Fm b off _ k ws m (by omega) hw _ mj.out _ (bK.U aw)).mono ?_
      rintro e aQ ⟨rfl,aP⟩
      have ao:=be wr aP;replace I:=ai I ao;replace bO:=bO.U ao;replace bK:=bK.U ao;replace aj:=aj.to ao;clear f0 f1 f2 f3 f4
      obtain⟨f0,f1,f2,f3,f4⟩:=aj.aS
      go_wp2_with fail
      refine (AM ag af sp (some ⟨b,off,none⟩) ws.length wc S eY ad bd m _ ox.out _ (bO.U aw)).mono ?_
      exact ady
     ·have ox:=J h4;clear h4
      go_wp2_with fail
      refine (iN m _ hG.out _).mono ?_
      rintro e w0 ⟨rfl,h0⟩
      rw [h0]
      clear h0 w0
      go_wp2_with fail
      refine (Fm b off _ k ws m (by omega) hw _ mj.out _ (bK.U aw)).mono ?_
      rintro e aQ ⟨rfl,aP⟩
      have ao:=be wr aP;replace I:=ai I ao;replace bO:=bO.U ao;replace bK:=bK.U ao;replace aj:=aj.to ao;clear f0 f1 f2 f3 f4
      obtain⟨f0,f1,f2,f3,f4⟩:=aj.aS
      go_wp2_with fail
      refine (AM ag af sp (some ⟨b,off,none⟩) ws.length wc S eY ad bd m _ ox.out _ (bO.U aw)).mono ?_
      exact adl
    ·obtain rfl:k= ws.length:=by omega
     obtain⟨f0,f1,f2,f3,f4⟩:=aj.aS
     go_upto_region 15 with fail
     have dk:(sp == 0)= false:=beq_eq_false_iff_ne.2 h0;have ET:=J bO
     obtain⟨s,aZ⟩ :∃s,eB ad sp= s:=⟨_,rfl⟩
     have dW:=J aZ;clear aZ
     obtain⟨sm,st,cx⟩:=s
     have sx:∀W:World,(Instr.field 214 (.agg #[sm,st,cx]) 1).run Tryz.prog W= .ok (.int .i64 st) W:=fun _=>by kernel_rfl
     by_cases iM:st < ag
     ·have NY:decide (st < ag)= true:=decide_eq_true iM
      clear f0 f1 f2 f3 f4
      obtain⟨f0,f1,f2,f3,f4⟩:=aC.kz (fun K:aB wr.heap.size wr=>(aj.U K.U aj.lt))
      refine eC (by kernel_rfl) (by kernel_rfl) ?_
      repeat (go_big_quiet_step (fail))
      go_big_quiet_step ((go_at_call 201;exact aB.call _ (by first | exact Nat.le_refl _ | omega) (yi ag af sp W ws.length wc S eY ad bd sp _ dW.out _ (ET.out.U (aB.U _)))))
      exact aea
     ·have NY:decide (st < ag)= false:=decide_eq_false iM
      clear f0 f1 f2 f3 f4
      obtain⟨f0,f1,f2,f3,f4⟩:=aC.kz (fun K:aB wr.heap.size wr=>(aj.U K.U aj.lt))
      refine eC (by kernel_rfl) (by kernel_rfl) ?_
      repeat (go_big_quiet_step (fail))
      go_big_quiet_step ((go_at_call 201;exact aB.call _ (by first | exact Nat.le_refl _ | omega) (yi ag af sp W ws.length wc S eY ad bd sp _ dW.out _ (ET.out.U (aB.U _)))))
      exact adQ
theorem abY {p:Prop} (h:p:=by
 rintro e w0 ⟨rfl,h0⟩
 rw [h0]
 clear h0 w0
 go_wp2
 go_ret
 exact⟨ep (ahH H1.out).symm,(ai I aw)⟩):p:=h
theorem abZ {p:Prop} (h:p:=by
 rintro e w0 ⟨rfl,h0⟩
 rw [h0]
 clear h0 w0
 go_wp2
 go_ret
 exact⟨ep (ahI gb.out).symm,(ai I aw)⟩):p:=h
theorem ace {p:Prop} (h:p:=by
 rintro e w0 ⟨rfl,h0⟩
 rw [h0]
 clear h0 w0
 go_wp2
 go_ret
 exact⟨ep (Un h4).symm,(ai I aw)⟩):p:=h
theorem mH (ag af sp:Int) (W:Option Addr) (ws:List Int) (wc:Nat) (S:Option Addr) (eY:Nat) (ad:List aK) (hw:ws.length≤1048576) (bd:ad.length≤1048576) (aG:ws.length≤wc) (v:Bool) (az:gl ag af sp ws ad= v) (w:World) (bK:aJ 1 bU w W ws) (bO:aJ 3 aK.cells w S ad):
 Calls Tryz.prog 119 #[.agg #[ag,af,sp,.slice W ws wc,.slice S ad eY]] w fun e ah=>e= .returned v∧Below w w ah:=by
 subst az
 cases h1:fc ag 1 3
 ·have H1:=J h1
  go_in
  go_upto_region 1 with fail
  refine cR fun aH av aj=>?_
  replace bO:=bO.U av;have I:=av;have aF:=aj.aS
  go_wp2_with fail
  refine (je ag 1 3 _ H1.out _).mono ?_
  exact abY
 cases h2:fc af 1 3600
 ·have H1:=J h1
  have gb:=J h2
  go_in
  go_upto_region 1 with fail
  refine cR fun aH av aj=>?_
  replace bO:=bO.U av;have I:=av;have aF:=aj.aS
  go_wp2_with fail
  refine (je ag 1 3 _ H1.out _).mono ?_
  rintro e w0 ⟨rfl,h0⟩
  rw [h0]
  clear h0 w0
  go_wp2_with fail
  refine (je af 1 3600 _ gb.out _).mono ?_
  exact abZ
 by_cases h0:sp= 0
 ·subst h0
  by_cases h4:ws.length≤10
  ·exact akS ag af W ws wc S eY ad hw bd aG h1 h2 h4 w bK bO
  ·have H1:=J h1
   have gb:=J h2
   go_in
   go_upto_region 1 with fail
   refine cR fun aH av aj=>?_
   replace bO:=bO.U av;have I:=av;have aF:=aj.aS
   go_wp2_with fail
   refine (je ag 1 3 _ H1.out _).mono ?_
   rintro e w0 ⟨rfl,h0⟩
   rw [h0]
   clear h0 w0
   go_wp2_with fail
   refine (je af 1 3600 _ gb.out _).mono ?_
   exact ace
 cases h3:eH sp
 ·have H1:=J h1
  have gb:=J h2;have hr:=J h3
  have eg:(sp != 0)= true:=by simp [h0]
  go_in
  go_upto_region 1 with fail
  refine cR fun aH av aj=>?_
  replace bO:=bO.U av;have I:=av;have aF:=aj.aS
  go_wp2_with fail
  refine (je ag 1 3 _ H1.out _).mono ?_
  rintro e w0 ⟨rfl,h0⟩
  rw [h0]
  clear h0 w0
  go_wp2_with fail
  refine (je af 1 3600 _ gb.out _).mono ?_
  rintro e w0 ⟨rfl,h0⟩
  rw [h0]
  clear h0 w0
  go_wp2_with fail
  refine (iN sp _ hr.out _).mono ?_
  rintro e w0 ⟨rfl,h0⟩
  rw [h0]
  clear h0 w0
  go_wp2
  go_ret
  exact⟨ep (Um h0 hr.out).symm,(ai I aw)⟩
 by_cases h4:ws.length≤10
 ·exact akR ag af sp W ws wc S eY ad hw bd aG h1 h2 h0 h3 h4 w bK bO
 ·have H1:=J h1
  have gb:=J h2;have hr:=J h3
  have eg:(sp != 0)= true:=by simp [h0]
  go_in
  go_upto_region 1 with fail
  refine cR fun aH av aj=>?_
  replace bO:=bO.U av;have I:=av;have aF:=aj.aS
  go_wp2_with fail
  refine (je ag 1 3 _ H1.out _).mono ?_
  rintro e w0 ⟨rfl,h0⟩
  rw [h0]
  clear h0 w0
  go_wp2_with fail
  refine (je af 1 3600 _ gb.out _).mono ?_
  rintro e w0 ⟨rfl,h0⟩
  rw [h0]
  clear h0 w0
  go_wp2_with fail
  refine (iN sp _ hr.out _).mono ?_
  exact ace
theorem adY {p:Prop} (h:p:=by
 have hG:=J h1;clear h1
 go_wp2_with fail
 refine (iA m _ hG.out _).mono ?_
 rintro e w0 ⟨rfl,h0⟩
 rw [h0]
 clear h0 w0
 go_wp2
 go_ret
 exact⟨ep (yJ bn (by rw [wI cg.out];simp only [hG.out];simp)).symm,(ai I aw)⟩):p:=h
theorem acZ {p:Prop} (h:p:=by
 have mj:=J h3;clear h3
 go_wp2_with fail
 refine (iA m _ hG.out _).mono ?_
 rintro e w0 ⟨rfl,h0⟩
 rw [h0]
 clear h0 w0
 go_wp2_with fail
 refine (CX b off _ k ws m (by omega) hw _ mj.out _ (bK.U aw)).mono ?_
 rintro e aQ ⟨rfl,aP⟩
 have ao:=be wr aP;replace I:=ai I ao;replace bO:=bO.U ao;replace bK:=bK.U ao;replace aj:=aj.to ao;clear aF;have aF:=aj.aS
 go_wp2
 go_ret
 exact⟨ep (yJ bn (by rw [wI cg.out];simp only [hG.out,mj.out];simp)).symm,(ai I aw)⟩):p:=h
theorem ada {p:Prop} (h:p:=by
 have mi:=J h2
 go_wp2_with fail
 refine (iA m _ hG.out _).mono ?_
 rintro e w0 ⟨rfl,h0⟩
 rw [h0]
 clear h0 w0
 go_wp2_with fail
 refine (CX b off _ k ws m (by omega) hw _ mj.out _ (bK.U aw)).mono ?_
 rintro e aQ ⟨rfl,aP⟩
 have ao:=be wr aP;replace I:=ai I ao;replace bO:=bO.U ao;replace bK:=bK.U ao;replace aj:=aj.to ao;clear aF;have aF:=aj.aS
 go_wp2
 go_ret
 exact⟨ep (yJ bn (by rw [wI cg.out];simp only [hG.out,mi.out,mj.out];simp)).symm,(ai I aw)⟩):p:=h
theorem adK {p:Prop} (h:p:=by
 rintro e bA ⟨rfl,bC⟩
 have aL:=be aQ bC;replace I:=ai I aL;replace bO:=bO.U aL;replace bK:=bK.U aL;replace aj:=aj.to aL;clear aF;have aF:=aj.aS
 go_wp2
 go_ret
 exact⟨ep (yJ bn (by rw [wI cg.out];simp only [hG.out,mi.out,mj.out,ox.out];simp)).symm,(ai I aw)⟩):p:=h
theorem adt {p:Prop} (h:p:=by
 rintro e bA ⟨rfl,bC⟩
 have aL:=be aQ bC;replace I:=ai I aL;replace bO:=bO.U aL;replace bK:=bK.U aL;replace aj:=aj.to aL;clear aF;have aF:=aj.aS
 go_wp2
 go_roundw
 case rel=>exact⟨k + 1,by omega,by go_num,np cJ.out (by rw [wI cg.out];simp only [hG.out,mi.out,mj.out,ox.out];rfl),I,aj⟩
 case measure=>simp [intOf];omega):p:=h
theorem apQ (ag af:Int) (W:Option Addr) (ws:List Int) (wc:Nat) (S:Option Addr) (eY:Nat) (ad:List aK) (hw:ws.length≤1048576) (bd:ad.length≤1048576) (aG:ws.length≤wc) (h1:fc ag 1 3= true) (h2:fc af 1 3600= true) (h4:ws.length≤10) (h5:sO ag af ad= true) (w:World) (bK:aJ 1 bU w W ws) (bO:aJ 3 aK.cells w S ad):
 Calls Tryz.prog 184 #[.agg #[ag,af,(0:Int),.slice W ws wc,.slice S ad eY]] w fun e ah=>e= .returned (.bool (gl ag af 0 ws ad))∧Below w w ah:=by
 have H1:=J h1;have gb:=J h2;have lW:=J h5;clear h1 h2 h5
 go_in
 have uz:=J bO;have xt:=J bK
 go_upto_region 1 with fail
 refine cR fun aH av aj=>?_
 replace bO:=bO.U av;replace bK:=bK.U av;have I:=av;have aF:=aj.aS
 go_wp2_with fail
 refine (jv ag 1 3 _ H1.out _).mono ?_
 rintro e w0 ⟨rfl,h0⟩
 rw [h0]
 clear h0 w0
 go_wp2_with fail
 refine (jv af 1 3600 _ gb.out _).mono ?_
 rintro e w0 ⟨rfl,h0⟩
 rw [h0]
 clear h0 w0
 go_wp2_with fail
 refine (JV ag af 0 W ws wc S eY ad hw bd _ lW.out _ (bK.U aw) (bO.U aw)).mono ?_
 rintro e aQ ⟨rfl,aP⟩
 have ao:=be aH aP;replace I:=ai I ao;replace bO:=bO.U ao;replace bK:=bK.U ao;replace aj:=aj.to ao;clear aF;have aF:=aj.aS
 go_wp2
 clear aF
 go_loopw [3] (fun i wr=>∃k:Nat,k≤ws.length∧i= .int .i64 k∧hI (tJ ag af 0 ws ad) k= true∧Below w w wr∧aC wr w.heap.size 41 #[ag,af,(0:Int),.slice W ws wc,.slice S ad eY]) (fun i _=>ws.length - (intOf i).toNat)
 case atStart=>exact⟨0,Nat.zero_le _,rfl,rfl,I,aj⟩
 case round=>
  clear bO bK I aj
  obtain⟨k,ax,rfl,aT,aE,aj⟩:=hrel
  have cJ:=J aT;clear aT;have bO:=uz.out;have bK:=xt.out;have av:=be w aE;have I:Below w w wr:=av;replace bO:=bO.U av;replace bK:=bK.U av
  by_cases bn:k < ws.length
  ·obtain⟨b,off,m,rfl,dU,ay,bq⟩:=bK.at_ (Below.refl _ _) bn
   have cy:=bq 0 _ rfl
   simp only [Nat.mul_one,Nat.add_zero] at cy
   have g0:=cy (aB.self _)
   simp only [aB.self] at g0
   have cg:=J ay;clear ay bq cy;have aF:=aj.aS
   have Ap:(k:Int)≤(wc:Int):=by omega
   go_upto_region 7 with fail
   clear g0
   cases h1:eH m
   ·exact adY
   have hG:=J h1;clear h1
   by_cases h3:hasB (ws.take k) m= true
   ·exact acZ
   replace h3:=Bool.eq_false_iff.2 h3;have mj:=J h3;clear h3
   by_cases h2:(m == 0)= true
   ·exact ada
   replace h2:=Bool.eq_false_iff.2 h2;have mi:=J h2
   cases h4:oD ag af (eB ad m)
   ·have ox:=J h4;clear h4
    go_wp2_with fail
    refine (iA m _ hG.out _).mono ?_
    rintro e w0 ⟨rfl,h0⟩
    rw [h0]
    clear h0 w0
    go_wp2_with fail
    refine (CX b off _ k ws m (by omega) hw _ mj.out _ (bK.U aw)).mono ?_
    rintro e aQ ⟨rfl,aP⟩
    have ao:=be wr aP;replace I:=ai I ao;replace bO:=bO.U ao;replace bK:=bK.U ao;replace aj:=aj.to ao;clear aF;have aF:=aj.aS
    go_wp2_with fail
    refine (AR ag af 0 (some ⟨b,off,none⟩) ws.length wc S eY ad bd m _ ox.out _ (bO.U aw)).mono ?_
    exact adK
   ·have ox:=J h4;clear h4
    go_wp2_with fail
    refine (iA m _ hG.out _).mono ?_
    rintro e w0 ⟨rfl,h0⟩
    rw [h0]
    clear h0 w0
    go_wp2_with fail
    refine (CX b off _ k ws m (by omega) hw _ mj.out _ (bK.U aw)).mono ?_
    rintro e aQ ⟨rfl,aP⟩
    have ao:=be wr aP;replace I:=ai I ao;replace bO:=bO.U ao;replace bK:=bK.U ao;replace aj:=aj.to ao;clear aF;have aF:=aj.aS
    go_wp2_with fail
    refine (AR ag af 0 (some ⟨b,off,none⟩) ws.length wc S eY ad bd m _ ox.out _ (bO.U aw)).mono ?_
    exact adt
  ·obtain rfl:k= ws.length:=by omega
   have aF:=aj.aS
   go_upto_region 9 with fail
   clear aF;have aF:=aC.kz (fun K:aB wr.heap.size wr=>(aj.U K.U aj.lt))
   exact aaU
theorem apP (ag af sp:Int) (W:Option Addr) (ws:List Int) (wc:Nat) (S:Option Addr) (eY:Nat) (ad:List aK) (hw:ws.length≤1048576) (bd:ad.length≤1048576) (aG:ws.length≤wc) (h1:fc ag 1 3= true) (h2:fc af 1 3600= true) (h0:sp≠0) (h4:ws.length≤10) (h5:sO ag af ad= true) (w:World) (bK:aJ 1 bU w W ws) (bO:aJ 3 aK.cells w S ad):
 Calls Tryz.prog 184 #[.agg #[ag,af,sp,.slice W ws wc,.slice S ad eY]] w fun e ah=>e= .returned (.bool (gl ag af sp ws ad))∧Below w w ah:=by
 have H1:=J h1;have gb:=J h2;have lW:=J h5;clear h1 h2 h5
 go_in
 have uz:=J bO;have xt:=J bK
 go_upto_region 1 with fail
 refine cR fun aH av aj=>?_
 replace bO:=bO.U av;replace bK:=bK.U av;have I:=av;have aF:=aj.aS
 go_wp2_with fail
 refine (jv ag 1 3 _ H1.out _).mono ?_
 rintro e w0 ⟨rfl,h0⟩
 rw [h0]
 clear h0 w0
 go_wp2_with fail
 refine (jv af 1 3600 _ gb.out _).mono ?_
 rintro e w0 ⟨rfl,h0⟩
 rw [h0]
 clear h0 w0
 go_wp2_with fail
 refine (JV ag af sp W ws wc S eY ad hw bd _ lW.out _ (bK.U aw) (bO.U aw)).mono ?_
 rintro e aQ ⟨rfl,aP⟩
 have ao:=be aH aP;replace I:=ai I ao;replace bO:=bO.U ao;replace bK:=bK.U ao;replace aj:=aj.to ao;clear aF;have aF:=aj.aS
 go_wp2
 clear aF
 go_loopw [3] (fun i wr=>∃k:Nat,k≤ws.length∧i= .int .i64 k∧hI (tJ ag af sp ws ad) k= true∧Below w w wr∧aC wr w.heap.size 41 #[ag,af,sp,.slice W ws wc,.slice S ad eY]) (fun i _=>ws.length - (intOf i).toNat)
 case atStart=>exact⟨0,Nat.zero_le _,rfl,rfl,I,aj⟩
 case round=>
  clear bO bK I aj
  obtain⟨k,ax,rfl,aT,aE,aj⟩:=hrel
  have cJ:=J aT;clear aT;have bO:=uz.out;have bK:=xt.out;have av:=be w aE;have I:Below w w wr:=av;replace bO:=bO.U av;replace bK:=bK.U av
  by_cases bn:k < ws.length
  ·obtain⟨b,off,m,rfl,dU,ay,bq⟩:=bK.at_ (Below.refl _ _) bn
   have cy:=bq 0 _ rfl
   simp only [Nat.mul_one,Nat.add_zero] at cy
   have g0:=cy (aB.self _)
   simp only [aB.self] at g0
   have cg:=J ay;clear ay bq cy;have aF:=aj.aS
   have Ap:(k:Int)≤(wc:Int):=by omega
   go_upto_region 7 with fail
   clear g0
   cases h1:eH m
   ·exact adY
   have hG:=J h1;clear h1
   by_cases h3:hasB (ws.take k) m= true
   ·exact acZ
   replace h3:=Bool.eq_false_iff.2 h3;have mj:=J h3;clear h3
   by_cases h2:(m == sp)= true
   ·exact ada
   replace h2:=Bool.eq_false_iff.2 h2;have mi:=J h2
   cases h4:oD ag af (eB ad m)
   ·have ox:=J h4;clear h4
    go_wp2_with fail
    refine (iA m _ hG.out _).mono ?_
    rintro e w0 ⟨rfl,h0⟩
    rw [h0]
    clear h0 w0
    go_wp2_with fail
    refine (CX b off _ k ws m (by omega) hw _ mj.out _ (bK.U aw)).mono ?_
    rintro e aQ ⟨rfl,aP⟩
    have ao:=be wr aP;replace I:=ai I ao;replace bO:=bO.U ao;replace bK:=bK.U ao;replace aj:=aj.to ao;clear aF;have aF:=aj.aS
    go_wp2_with fail
    refine (AR ag af sp (some ⟨b,off,none⟩) ws.length wc S eY ad bd m _ ox.out _ (bO.U aw)).mono ?_
    exact adK
   ·have ox:=J h4;clear h4
    go_wp2_with fail
    refine (iA m _ hG.out _).mono ?_
    rintro e w0 ⟨rfl,h0⟩
    rw [h0]
    clear h0 w0
    go_wp2_with fail
    refine (CX b off _ k ws m (by omega) hw _ mj.out _ (bK.U aw)).mono ?_
    rintro e aQ ⟨rfl,aP⟩
    have ao:=be wr aP;replace I:=ai I ao;replace bO:=bO.U ao;replace bK:=bK.U ao;replace aj:=aj.to ao;clear aF;have aF:=aj.aS
    go_wp2_with fail
    refine (AR ag af sp (some ⟨b,off,none⟩) ws.length wc S eY ad bd m _ ox.out _ (bO.U aw)).mono ?_
    exact adt
  ·obtain rfl:k= ws.length:=by omega
   have aF:=aj.aS
   go_upto_region 9 with fail
   have dk:(sp == 0)= false:=beq_eq_false_iff_ne.2 h0;have ET:=J bO
   obtain⟨s,aZ⟩ :∃s,eB ad sp= s:=⟨_,rfl⟩
   have dW:=J aZ;clear aZ
   obtain⟨sm,st,cx⟩:=s
   have sx:∀W:World,(Instr.field 214 (.agg #[sm,st,cx]) 1).run Tryz.prog W= .ok (.int .i64 st) W:=fun _=>by kernel_rfl
   cases h3:eH sp
   ·have hr:=J h3;clear h3
    clear aF;have aF:=aC.kz (fun K:aB wr.heap.size wr=>(aj.U K.U aj.lt))
    refine eC (by kernel_rfl) (by kernel_rfl) ?_
    repeat (go_big_quiet_step (fail))
    go_big_quiet_step ((go_at_call 162;exact aB.same _ (iA sp _ hr.out _)))
    repeat (go_big_quiet_step (fail))
    refine wpQuiet_nil ?_
    intro K
    go_wp2
    go_ret
    exact⟨ep (Um h0 hr.out).symm,ai I K.U⟩
   have hr:=J h3;clear h3
   by_cases iM:st < ag
   ·have NY:decide (st < ag)= true:=decide_eq_true iM
    clear aF;have aF:=aC.kz (fun K:aB wr.heap.size wr=>(aj.U K.U aj.lt))
    refine eC (by kernel_rfl) (by kernel_rfl) ?_
    repeat (go_big_quiet_step (fail))
    go_big_quiet_step ((go_at_call 162;exact aB.same _ (iA sp _ hr.out _)))
    repeat (go_big_quiet_step (fail))
    go_big_quiet_step ((go_at_call 267;exact aB.call _ (by first | exact Nat.le_refl _ | omega) (vh ag af sp W ws.length wc S eY ad bd sp _ dW.out _ (ET.out.U (aB.U _)))))
    exact aea
   ·have NY:decide (st < ag)= false:=decide_eq_false iM
    clear aF;have aF:=aC.kz (fun K:aB wr.heap.size wr=>(aj.U K.U aj.lt))
    refine eC (by kernel_rfl) (by kernel_rfl) ?_
    repeat (go_big_quiet_step (fail))
    go_big_quiet_step ((go_at_call 162;exact aB.same _ (iA sp _ hr.out _)))
    repeat (go_big_quiet_step (fail))
    go_big_quiet_step ((go_at_call 267;exact aB.call _ (by first | exact Nat.le_refl _ | omega) (vh ag af sp W ws.length wc S eY ad bd sp _ dW.out _ (ET.out.U (aB.U _)))))
    exact adQ
theorem mI (ag af sp:Int) (W:Option Addr) (ws:List Int) (wc:Nat) (S:Option Addr) (eY:Nat) (ad:List aK) (hw:ws.length≤1048576) (bd:ad.length≤1048576) (aG:ws.length≤wc) (v:Bool) (az:gl ag af sp ws ad= v) (w:World) (bK:aJ 1 bU w W ws) (bO:aJ 3 aK.cells w S ad):
 Calls Tryz.prog 184 #[.agg #[ag,af,sp,.slice W ws wc,.slice S ad eY]] w fun e ah=>e= .returned v∧Below w w ah:=by
 subst az
 cases h1:fc ag 1 3
 ·have H1:=J h1
  go_in
  go_upto_region 1 with fail
  refine cR fun aH av aj=>?_
  replace bO:=bO.U av;replace bK:=bK.U av;have I:=av;have aF:=aj.aS
  go_wp2_with fail
  refine (jv ag 1 3 _ H1.out _).mono ?_
  exact abY
 cases h2:fc af 1 3600
 ·have H1:=J h1
  have gb:=J h2
  go_in
  go_upto_region 1 with fail
  refine cR fun aH av aj=>?_
  replace bO:=bO.U av;replace bK:=bK.U av;have I:=av;have aF:=aj.aS
  go_wp2_with fail
  refine (jv ag 1 3 _ H1.out _).mono ?_
  rintro e w0 ⟨rfl,h0⟩
  rw [h0]
  clear h0 w0
  go_wp2_with fail
  refine (jv af 1 3600 _ gb.out _).mono ?_
  exact abZ
 cases h5:sO ag af ad
 ·have H1:=J h1
  have gb:=J h2;have Ia:=J h5
  go_in
  go_upto_region 1 with fail
  refine cR fun aH av aj=>?_
  replace bO:=bO.U av;replace bK:=bK.U av;have I:=av;have aF:=aj.aS
  go_wp2_with fail
  refine (jv ag 1 3 _ H1.out _).mono ?_
  rintro e w0 ⟨rfl,h0⟩
  rw [h0]
  clear h0 w0
  go_wp2_with fail
  refine (jv af 1 3600 _ gb.out _).mono ?_
  rintro e w0 ⟨rfl,h0⟩
  rw [h0]
  clear h0 w0
  go_wp2_with fail
  refine (JV ag af sp W ws wc S eY ad hw bd _ Ia.out _ (bK.U aw) (bO.U aw)).mono ?_
  rintro e aQ ⟨rfl,aP⟩
  have ao:=be aH aP;replace I:=ai I ao;replace bO:=bO.U ao;replace bK:=bK.U ao;replace aj:=aj.to ao;clear aF;have aF:=aj.aS
  go_wp2
  go_ret
  exact⟨ep (FA Ia.out).symm,(ai I aw)⟩
 by_cases h4:ws.length≤10
 case neg=>
  have H1:=J h1;have gb:=J h2;have Ia:=J h5
  go_in
  go_upto_region 1 with fail
  refine cR fun aH av aj=>?_
  replace bO:=bO.U av;replace bK:=bK.U av;have I:=av;have aF:=aj.aS
  go_wp2_with fail
  refine (jv ag 1 3 _ H1.out _).mono ?_
  rintro e w0 ⟨rfl,h0⟩
  rw [h0]
  clear h0 w0
  go_wp2_with fail
  refine (jv af 1 3600 _ gb.out _).mono ?_
  rintro e w0 ⟨rfl,h0⟩
  rw [h0]
  clear h0 w0
  go_wp2_with fail
  refine (JV ag af sp W ws wc S eY ad hw bd _ Ia.out _ (bK.U aw) (bO.U aw)).mono ?_
  rintro e aQ ⟨rfl,aP⟩
  have ao:=be aH aP;replace I:=ai I ao;replace bO:=bO.U ao;replace bK:=bK.U ao;replace aj:=aj.to ao;clear aF;have aF:=aj.aS
  go_wp2
  go_ret
  exact⟨ep (Un h4).symm,(ai I aw)⟩
 by_cases h0:sp= 0
 ·subst h0
  exact apQ ag af W ws wc S eY ad hw bd aG h1 h2 h4 h5 w bK bO
 ·exact apP ag af sp W ws wc S eY ad hw bd aG h1 h2 h0 h4 h5 w bK bO
open Go.RowKit Go.G9
structure cF where
 bx:List aM
 bH:List aN
 de:Int
 cU:Int
 dH:Int
 bJ:List Int
 bM:List aK
 bt:List Out
def hk (rs:List aM) (qs:List aN):Bool:=match qs[qs.length - 1]? with
 | some q=>(match hA rs q.fU with | some r=>!kn r q && r.lN | none=>false)
 | none=>false
def ql (rs:List aM) (o:Out):Bool:=(hA rs o.fU).isSome && eH o.mover
def Dp (sp:Int) (ws:List Int):Bool:=(sp == 0) && decide (ws.length= 0)
def rK (rs:List aM) (qs:List aN) (ag af sp:Int) (ws:List Int) (ad:List aK) (os:List Out):Bool:=
 dF rs qs && (gl ag af sp ws ad && (decide (os.length≤12) && (!os.any (fun o=>!ql rs o) && (hk rs qs || Dp sp ws))))
def pL (m:cF):Bool:=rK m.bx m.bH m.de m.cU m.dH m.bJ m.bM m.bt
theorem TN {rs:List aM} {qs:List aN} (h:qs.length= 0):hk rs qs= false:=by
 obtain rfl:=List.length_eq_zero_iff.1 h;rfl
theorem TL {rs:List aM} {qs:List aN} {j:Nat} {q:aN} {r:aM} (aT:qs.length= j + 1) (bf:qs[j]? =some q) (bz:hA rs q.fU= some r):hk rs qs= (!kn r q && r.lN):=by
 have:qs.length - 1= j:=by omega
 simp only [hk,this,bf,bz]
theorem abJ {p:Prop} (h:p:=by
 repeat (go_big_quiet_step (fail))
 refine wpQuiet_nil ?_
 intro K
 go_wp2
 go_ret
 exact⟨ep (by rw [cJ.out];rfl),ai I K.U⟩):p:=h
theorem CQ (rs:List aM) (qs:List aN) (ag af sp:Int) (ws:List Int) (ad:List aK) (os:List Out) (an ar ak al aA:Option Addr) (c0 au c2 c3 c4:Nat) (h0:rs.length≤1048576) (h1:qs.length≤1048576) (h2:ws.length≤1048576) (h3:ad.length≤1048576) (h4:os.length≤1048576) (aR:dF rs qs= true) (v:Bool) (az:hk rs qs= v) (w:World) (aW:aJ 7 aM.cells w an rs) (aV:aJ 3 aN.cells w ar qs) (bm:aJ 1 bU w ak ws) (bl:aJ 3 aK.cells w al ad) (bZ:aJ 3 Out.cells w aA os):
 Calls Tryz.prog 124 #[.agg #[.slice an rs c0,.slice ar qs au,ag,af,sp,.slice ak ws c2,.slice al ad c3,.slice aA os c4]] w fun e ah=>e= .returned v∧Below w w ah:=by
 subst az
 rcases Nat.eq_zero_or_pos qs.length with cb | cb
 ·rw [cb]
  have bj:=J cb;clear cb
  go_in
  go_upto_region 1 with fail
  refine cR fun aH av aY=>?_
  replace aW:=aW.U av;replace aV:=aV.U av;have I:=av;have cE:=aY.aI
  go_upto_region 2 with fail
  clear cE;have cE:=aC.qb (fun K:aB aH.heap.size aH=>(aY.U K.U aY.lt))
  refine eC (by kernel_rfl) (by kernel_rfl) ?_
  repeat (go_big_quiet_step (fail))
  refine wpQuiet_nil ?_
  intro K
  go_wp2
  go_ret
  exact⟨ep (TN bj.out).symm,ai I K.U⟩
 ·obtain⟨j,bI⟩ :∃j,qs.length= j + 1:=⟨qs.length - 1,by omega⟩
  have ie:j < qs.length:=by omega
  have ajg:j≤1048576:=by omega
  have wa:decide ((0:Int)≤(j:Int))= true:=decide_eq_true (by omega)
  obtain⟨q,bf⟩ :∃q,qs[j]? =some q:=⟨qs[j],List.getElem?_eq_getElem ie⟩
  obtain⟨r,bz⟩:=oi aR bf
  have bS:=TL bI bf bz
  rw [bS,bI]
  have dc:=J bf;have bL:=J bz;have tU:=J ie;clear aR bS bz bf cb bI ie
  obtain⟨id,nm,rk,yg,fy,am,ee,aZ⟩:=r
  obtain⟨qr,cp,rQ⟩:=q
  go_in
  go_upto_region 1 with fail
  refine cR fun aH av aY=>?_
  replace aW:=aW.U av;replace aV:=aV.U av;have I:=av;have cE:=aY.aI
  go_upto_region 2 with fail
  obtain⟨ey,gN,fA,rfl,dU,ay,bq⟩:=aV.at_ (Below.refl _ _) tU.out
  obtain rfl:=Option.some.inj (dc.out.symm.trans ay)
  clear cE;have cE:=aY.aI;have cy:=bq 0 _ rfl;have dD:=bq 1 _ rfl;have di:=bq 2 _ rfl
  simp only [Nat.add_zero] at cy
  clear ay bq;have jo:=J aW
  have sx:∀W:World,(Instr.field 89 (.agg #[id,nm,rk,yg,fy,am,ee]) 4).run Tryz.prog W= .ok (.bool fy) W:=fun _=>by kernel_rfl
  cases aT:kn ⟨id,nm,rk,yg,fy,am,ee,aZ⟩ ⟨qr,cp,rQ⟩
  ·have cJ:=J aT;clear aT
   clear cE;have cE:=aC.qb (fun K:aB aH.heap.size aH=>(aY.U K.U aY.lt))
   refine eC (by kernel_rfl) (by kernel_rfl) ?_
   repeat (go_big_quiet_step (fail))
   go_big_quiet_step ((go_at_call 198;exact aB.call _ (by first | exact Nat.le_refl _ | omega) (vi an c0 rs h0 ⟨qr,cp,rQ⟩ ⟨id,nm,rk,yg,fy,am,ee,aZ⟩ bL.out _ cJ.out _ (jo.out.U (aB.U _)))))
   repeat (go_big_quiet_step (fail))
   go_big_quiet_step ((go_at_call 69;exact aB.call _ (by first | exact Nat.le_refl _ | omega) (qY an c0 rs h0 ⟨qr,cp,rQ⟩ ⟨id,nm,rk,yg,fy,am,ee,aZ⟩ bL.out _ (jo.out.U (aB.U _)))))
   exact abJ
  ·have cJ:=J aT;clear aT
   clear cE;have cE:=aC.qb (fun K:aB aH.heap.size aH=>(aY.U K.U aY.lt))
   refine eC (by kernel_rfl) (by kernel_rfl) ?_
   repeat (go_big_quiet_step (fail))
   go_big_quiet_step ((go_at_call 198;exact aB.call _ (by first | exact Nat.le_refl _ | omega) (vi an c0 rs h0 ⟨qr,cp,rQ⟩ ⟨id,nm,rk,yg,fy,am,ee,aZ⟩ bL.out _ cJ.out _ (jo.out.U (aB.U _)))))
   exact abJ
theorem AO (rs:List aM) (qs:List aN) (an ar:Option Addr) (c0 au:Nat) (h0:rs.length≤1048576) (h1:qs.length≤1048576) (aR:dF rs qs= true) (v:Bool) (az:hk rs qs= v) (w:World) (aW:aJ 7 aM.cells w an rs) (aV:aJ 3 aN.cells w ar qs):
 Calls Tryz.prog 185 #[.slice an rs c0,.slice ar qs au] w fun e ah=>e= .returned v∧Below w w ah:=by
 subst az
 rcases Nat.eq_zero_or_pos qs.length with cb | cb
 ·rw [cb]
  have bj:=J cb;clear cb
  go_in
  go_wp2
  go_ret
  exact⟨ep (TN bj.out).symm,Below.refl _ _⟩
 ·obtain⟨j,bI⟩ :∃j,qs.length= j + 1:=⟨qs.length - 1,by omega⟩
  have ie:j < qs.length:=by omega
  have ajg:j≤1048576:=by omega
  have wa:decide ((0:Int)≤(j:Int))= true:=decide_eq_true (by omega)
  obtain⟨q,bf⟩ :∃q,qs[j]? =some q:=⟨qs[j],List.getElem?_eq_getElem ie⟩
  obtain⟨r,bz⟩:=oi aR bf
  have bS:=TL bI bf bz
  obtain⟨m,hm,uP⟩:=rG bz
  have ju:m < rs.length:=(List.getElem?_eq_some_iff.1 uP).1
  rw [bS,bI]
  have dc:=J bf;have bL:=J bz;have tU:=J ie;have dQ:=J hm;have aeF:=J uP;have Im:=J ju;clear aR bS bz bf cb bI ie hm uP ju
  obtain⟨id,nm,rk,yg,fy,am,ee,aZ⟩:=r
  obtain⟨qr,cp,rQ⟩:=q
  obtain⟨ey,gN,fA,rfl,dU,ay,bq⟩:=aV.at_ (Below.refl _ _) tU.out
  obtain rfl:=Option.some.inj (dc.out.symm.trans ay)
  have cy:=bq 0 _ rfl;have dD:=bq 1 _ rfl;have di:=bq 2 _ rfl
  simp only [Nat.add_zero] at cy
  have g0:=cy (aB.self _);have g1:=dD (aB.self _);have g2:=di (aB.self _)
  simp only [aB.self] at g0
  simp only [aB.self] at g1
  simp only [aB.self] at g2
  clear ay bq
  cases aT:kn ⟨id,nm,rk,yg,fy,am,ee,aZ⟩ ⟨qr,cp,rQ⟩
  ·have cJ:=J aT;clear aT
   go_in
   go_wp2_with fail
   refine (pK an c0 rs h0 ⟨qr,cp,rQ⟩ ⟨id,nm,rk,yg,fy,am,ee,aZ⟩ bL.out _ cJ.out _ aW).mono ?_
   rintro e bg ⟨rfl,bE⟩
   obtain⟨du,fg,fS,rfl,uC,Wv,Vs⟩:=aW.at_ bE Im.out
   obtain rfl:=Option.some.inj (aeF.out.symm.trans Wv)
   obtain⟨ew,fF,nf,e3,atG,Ww,Vt⟩:=aV.at_ bE tU.out
   simp only [Option.some.injEq,Addr.mk.injEq,and_true] at e3
   obtain⟨rfl,rfl⟩:=e3
   obtain rfl:=Option.some.inj (dc.out.symm.trans Ww)
   have Ld:=Vs 4 _ rfl (aB.self _);have kK:=Vt 0 _ rfl (aB.self _)
   simp only [Nat.add_zero,aB.self] at Ld kK
   clear Wv Vs Ww Vt cy dD di g0 g1 g2
   go_wp2_with fail
   refine (vg _ c0 rs h0 qr _ dQ.out _ (aW.U bE)).mono ?_
   rintro e w0 ⟨rfl,Gq⟩
   rw [Gq]
   clear Gq w0
   go_wp2
   go_ret
   exact⟨rfl,bE⟩
  ·have cJ:=J aT;clear aT
   go_in
   go_wp2_with fail
   refine (pK an c0 rs h0 ⟨qr,cp,rQ⟩ ⟨id,nm,rk,yg,fy,am,ee,aZ⟩ bL.out _ cJ.out _ aW).mono ?_
   rintro e bg ⟨rfl,bE⟩
   go_wp2
   go_ret
   exact⟨rfl,bE⟩
theorem alG (A:Option Addr) (c:Nat) (xs:List Out) (bd:xs.length≤1048576) (f:FuncId) (qd:Array Value) (Cy:∀args W,(callFunc f args).run Tryz.prog W= .ok (.enter f args) W) (p:Out→Bool) (v:Int) (az:oJ p xs= v) (w:World) (bN:aJ 3 Out.cells w A xs)
  (hf:∀x,x ∈ xs→∀W,Below w w W→Calls Tryz.prog f (#[.agg #[.int .i64 x.fU,.int .i64 x.mover,.bool x.hz]] ++ qd) W fun e ah=>e= .returned (.bool (p x))∧Below W W ah):
 Calls Tryz.prog 202 #[.slice A xs c,.func (.func f) #[] qd] w fun e ah=>e= .returned v∧Below w w ah:=by
 subst az
 have cD:=J hf;clear hf
 go_in
 go_wp2
 go_loopw [8] (fun i wr=>∃k:Nat,k≤xs.length∧i= .int .i64 k∧hI (fun i=>!jg p xs i) k= true∧Below w w wr) (fun i _=>xs.length - (intOf i).toNat)
 case atStart=>exact⟨0,Nat.zero_le _,rfl,rfl,Below.refl _ _⟩
 case round=>
  obtain⟨k,ax,rfl,aT,aE⟩:=hrel
  have cJ:=J aT;clear aT
  by_cases bn:k < xs.length
  ·obtain⟨b,off,x,rfl,dU,ay,bq⟩:=bN.at_ aE bn
   have DX:=J (cD.out x (List.mem_of_getElem? ay))
   obtain⟨or,anA,PI⟩:=x
   have f0:=bq 0 _ rfl;have f1:=bq 1 _ rfl;have f2:=bq 2 _ rfl
   simp only [Nat.add_zero] at f0
   have g0:=f0 (aB.self _);have g1:=f1 (aB.self _);have g2:=f2 (aB.self _)
   simp only [aB.self] at g0
   simp only [aB.self] at g1
   simp only [aB.self] at g2
   have cg:=J ay;clear ay bq
   go_wp2_with fail
   refine (DX.out _ aE).mono ?_
   rintro e ah ⟨rfl,eZ⟩
   cases aR:p ⟨or,anA,PI⟩
   ·exact Ri
   ·exact Rl
  ·exact Li
theorem agp (A:Option Addr) (c:Nat) (xs:List Out) (bd:xs.length≤1048576) (f:FuncId) (qd:Array Value) (Cy:∀args W,(callFunc f args).run Tryz.prog W= .ok (.enter f args) W) (p:Out→Bool) (v:Bool) (az:xs.any p= v) (w:World) (bN:aJ 3 Out.cells w A xs)
  (hf:∀x,x ∈ xs→∀W,Below w w W→Calls Tryz.prog f (#[.agg #[.int .i64 x.fU,.int .i64 x.mover,.bool x.hz]] ++ qd) W fun e ah=>e= .returned (.bool (p x))∧Below W W ah):
 Calls Tryz.prog 120 #[.slice A xs c,.func (.func f) #[] qd] w fun e ah=>e= .returned v∧Below w w ah:=by
 subst az
 have cD:=J hf;clear hf;have ck:=JN p xs;have hx:=J ck;clear ck
 go_in
 go_wp2_with fail
 refine (alG A c xs bd f qd Cy p _ rfl _ bN cD.out).mono ?_
 rintro e ah ⟨rfl,aE⟩
 go_wp2
 go_ret
 exact⟨ep hx.out,aE⟩
theorem Ym {rs:List aM} {o:Out} (h:hA rs o.fU= none):ql rs o= false:=by simp [ql,h]
theorem PM {rs:List aM} {o:Out} {r:aM} (h:hA rs o.fU= some r):ql rs o= eH o.mover:=by simp [ql,h]
theorem anB (rs:List aM) (an:Option Addr) (c0:Nat) (h0:rs.length≤1048576) (g:Nat) (x:Out) (W:World) (ck:W.cell? ⟨g,0,none⟩ =some (.slice an rs c0)) (aT:g < W.heap.size) (aW:aJ 7 aM.cells W an rs):
 Calls Tryz.prog 121 (#[.agg #[x.fU,x.mover,x.hz]] ++ #[.pointer (some ⟨g,0,none⟩)]) W fun e ah=>e= .returned (.bool (!ql rs x))∧Below W W ah:=by
 obtain⟨ha,dZ,jn⟩:=x
 cases hf:hA rs ha with
 | none=>
  have cD:=J hf;clear hf
  rw [Ym (o:=⟨ha,dZ,jn⟩) cD.out]
  go_in
  go_wp2_with fail
  refine (Ds an c0 rs h0 ha _ (CP cD.out) _ (aW.U (ca _ _))).mono ?_
  rintro e bg ⟨rfl,bE⟩
  go_wp2
  go_ret
  exact⟨rfl,ai (ca _ _) bE⟩
 | some r=>
  obtain⟨m,hm,_⟩:=rG hf
  have dQ:=J hm;clear hm
  rw [PM (o:=⟨ha,dZ,jn⟩) hf]
  have ju:=alE (fun r:aM=>r.id == ha) rs;clear ju
  cases aE:eH dZ
  all_goals
   have mS:=J aE
   go_in
   go_wp2_with fail
   refine (Ds an c0 rs h0 ha _ dQ.out _ (aW.U (ca _ _))).mono ?_
   rintro e bg ⟨rfl,bE⟩
   have aO:=(aC.new W 163 #[ha,dZ,jn]).U bE (by simp);have dY:=(aO.cell 1).trans (show _= some (.int .i64 dZ) from rfl);have Vc:=aO.lt
   go_wp2_with fail
   refine (iN dZ _ mS.out _).mono ?_
   rintro e w0 ⟨rfl,Gq⟩
   rw [Gq]
   clear Gq w0
   go_wp2
   go_ret
   exact⟨rfl,ai (ca _ _) bE⟩
theorem amS {rs:List aM} {qs:List aN} {ag af sp:Int} {ws:List Int} {ad:List aK} {os:List Out} (h:dF rs qs= false):rK rs qs ag af sp ws ad os= false:=by rw [rK,h];rfl
theorem amT {rs:List aM} {qs:List aN} {ag af sp:Int} {ws:List Int} {ad:List aK} {os:List Out} (h:gl ag af sp ws ad= false):rK rs qs ag af sp ws ad os= false:=by rw [rK,h];simp
theorem amU {rs:List aM} {qs:List aN} {ag af sp:Int} {ws:List Int} {ad:List aK} {os:List Out} (h:¬os.length≤12):rK rs qs ag af sp ws ad os= false:=by rw [rK,decide_eq_false h];simp
theorem PB {rs:List aM} {qs:List aN} {ag af sp:Int} {ws:List Int} {ad:List aK} {os:List Out} (h:os.any (fun o=>!ql rs o)= true):rK rs qs ag af sp ws ad os= false:=by rw [rK,h];simp
theorem Kb {rs:List aM} {qs:List aN} {ag af sp:Int} {ws:List Int} {ad:List aK} {os:List Out} (h1:dF rs qs= true) (h2:gl ag af sp ws ad= true) (h3:os.length≤12) (h4:os.any (fun o=>!ql rs o)= false):rK rs qs ag af sp ws ad os= (hk rs qs || Dp sp ws):=by rw [rK,h1,h2,h4,decide_eq_true h3];simp
theorem adH {p:Prop} (h:p:=by
 rintro e aQ ⟨rfl,aP⟩
 have ao:=be aH aP;replace I:=ai I ao;replace aW:=aW.U ao;replace aV:=aV.U ao;replace bm:=bm.U ao;replace bl:=bl.U ao;replace bZ:=bZ.U ao;replace aY:=aY.to ao;clear cE;have cE:=aY.aI
 go_wp2
 go_ret
 exact⟨ep (amS hG.out).symm,(ai I aw)⟩):p:=h
theorem adJ {p:Prop} (h:p:=by
 rintro e bA ⟨rfl,bC⟩
 have aL:=be aQ bC;replace I:=ai I aL;replace aW:=aW.U aL;replace aV:=aV.U aL;replace bm:=bm.U aL;replace bl:=bl.U aL;replace bZ:=bZ.U aL;replace aY:=aY.to aL;clear cE;have cE:=aY.aI
 go_wp2
 go_ret
 exact⟨ep (amT mi.out).symm,(ai I aw)⟩):p:=h
theorem adL {p:Prop} (h:p:=by
 rintro e bA ⟨rfl,bC⟩
 have aL:=be aQ bC;replace I:=ai I aL;replace aW:=aW.U aL;replace aV:=aV.U aL;replace bm:=bm.U aL;replace bl:=bl.U aL;replace bZ:=bZ.U aL;replace aY:=aY.to aL;clear cE;have cE:=aY.aI
 go_wp2
 go_ret
 exact⟨ep (amU sr).symm,(ai I aw)⟩):p:=h
theorem adM {p:Prop} (h:p:=by
 replace I:=ai I cG;replace aW:=aW.U cG;replace aV:=aV.U cG;replace bm:=bm.U cG;replace bl:=bl.U cG;replace bZ:=bZ.U cG;replace aY:=aY.to cG;clear cE;have cE:=aY.aI
 go_wp2
 go_ret
 exact⟨ep (by rw [Kb H1.out gb.out hr.out wQ.out,fD.out];rfl),(ai I aw)⟩):p:=h
theorem adB {p:Prop} (h:p:=by
 replace I:=ai I cG;replace aW:=aW.U cG;replace aV:=aV.U cG;replace bm:=bm.U cG;replace bl:=bl.U cG;replace bZ:=bZ.U cG;replace aY:=aY.to cG;clear cE;have cE:=aY.aI
 go_wp2
 go_ret
 exact⟨ep (by rw [Kb H1.out gb.out hr.out wQ.out,fD.out,Dp,BL.out,decide_eq_true nB.out];rfl),(ai I aw)⟩):p:=h
theorem adA {p:Prop} (h:p:=by
 replace I:=ai I cG;replace aW:=aW.U cG;replace aV:=aV.U cG;replace bm:=bm.U cG;replace bl:=bl.U cG;replace bZ:=bZ.U cG;replace aY:=aY.to cG;clear cE;have cE:=aY.aI
 go_wp2
 go_ret
 exact⟨ep (by rw [Kb H1.out gb.out hr.out wQ.out,fD.out,Dp,BL.out,decide_eq_false nB.out];rfl),(ai I aw)⟩):p:=h
theorem adF {p:Prop} (h:p:=by
 replace I:=ai I cG;replace aW:=aW.U cG;replace aV:=aV.U cG;replace bm:=bm.U cG;replace bl:=bl.U cG;replace bZ:=bZ.U cG;replace aY:=aY.to cG;clear cE;have cE:=aY.aI
 go_wp2
 go_ret
 exact⟨ep (by rw [Kb H1.out gb.out hr.out wQ.out,fD.out,Dp,BL.out];rfl),(ai I aw)⟩):p:=h
theorem akX (rs:List aM) (qs:List aN) (ag af sp:Int) (ws:List Int) (ad:List aK) (os:List Out) (an ar ak al aA:Option Addr) (c0 au c2 c3 c4:Nat) (h0:rs.length≤1048576) (h1:qs.length≤1048576) (h2:ws.length≤1048576) (h3:ad.length≤1048576) (h4:os.length≤1048576) (v:Bool) (az:rK rs qs ag af sp ws ad os= v) (w:World) (aW:aJ 7 aM.cells w an rs) (aV:aJ 3 aN.cells w ar qs) (bm:aJ 1 bU w ak ws) (bl:aJ 3 aK.cells w al ad) (bZ:aJ 3 Out.cells w aA os) (dP:rs.length≤c0) (cm:ws.length≤c2):
 Calls Tryz.prog 63 #[.agg #[.slice an rs c0,.slice ar qs au,ag,af,sp,.slice ak ws c2,.slice al ad c3,.slice aA os c4]] w fun e ah=>e= .returned v∧Below w w ah:=by
 subst az
 cases qf:dF rs qs
 ·have hG:=J qf;clear qf
  go_in
  go_upto_region 1 with fail
  refine cR fun aH av aY=>?_
  replace aW:=aW.U av;replace aV:=aV.U av;replace bm:=bm.U av;replace bl:=bl.U av;replace bZ:=bZ.U av;have I:=av;have cE:=aY.aI
  go_wp2_with fail
  refine (nr an c0 rs h0 dP ar au qs h1 _ hG.out _ (aW.U aw) (aV.U aw)).mono ?_
  exact adH
 have H1:=J qf;have hG:=J qf;clear qf
 cases sq:gl ag af sp ws ad
 ·have mi:=J sq;clear sq
  go_in
  go_upto_region 1 with fail
  refine cR fun aH av aY=>?_
  replace aW:=aW.U av;replace aV:=aV.U av;replace bm:=bm.U av;replace bl:=bl.U av;replace bZ:=bZ.U av;have I:=av;have cE:=aY.aI
  go_wp2_with fail
  refine (nr an c0 rs h0 dP ar au qs h1 _ hG.out _ (aW.U aw) (aV.U aw)).mono ?_
  rintro e aQ ⟨rfl,aP⟩
  have ao:=be aH aP;replace I:=ai I ao;replace aW:=aW.U ao;replace aV:=aV.U ao;replace bm:=bm.U ao;replace bl:=bl.U ao;replace bZ:=bZ.U ao;replace aY:=aY.to ao;clear cE;have cE:=aY.aI
  go_wp2_with fail
  refine (mH ag af sp ak ws c2 al c3 ad h2 h3 cm _ mi.out _ (bm.U aw) (bl.U aw)).mono ?_
  exact adJ
 have gb:=J sq;have mi:=J sq;clear sq
 by_cases sr:os.length≤12
 case neg=>
  go_in
  go_upto_region 1 with fail
  refine cR fun aH av aY=>?_
  replace aW:=aW.U av;replace aV:=aV.U av;replace bm:=bm.U av;replace bl:=bl.U av;replace bZ:=bZ.U av;have I:=av;have cE:=aY.aI
  go_wp2_with fail
  refine (nr an c0 rs h0 dP ar au qs h1 _ hG.out _ (aW.U aw) (aV.U aw)).mono ?_
  rintro e aQ ⟨rfl,aP⟩
  have ao:=be aH aP;replace I:=ai I ao;replace aW:=aW.U ao;replace aV:=aV.U ao;replace bm:=bm.U ao;replace bl:=bl.U ao;replace bZ:=bZ.U ao;replace aY:=aY.to ao;clear cE;have cE:=aY.aI
  go_wp2_with fail
  refine (mH ag af sp ak ws c2 al c3 ad h2 h3 cm _ mi.out _ (bm.U aw) (bl.U aw)).mono ?_
  exact adL
 have hr:=J sr
 go_in
 go_upto_region 1 with fail
 refine cR fun aH av aY=>?_
 replace aW:=aW.U av;replace aV:=aV.U av;replace bm:=bm.U av;replace bl:=bl.U av;replace bZ:=bZ.U av;have I:=av;have cE:=aY.aI
 go_wp2_with fail
 refine (nr an c0 rs h0 dP ar au qs h1 _ hG.out _ (aW.U aw) (aV.U aw)).mono ?_
 rintro e aQ ⟨rfl,aP⟩
 have ao:=be aH aP;replace I:=ai I ao;replace aW:=aW.U ao;replace aV:=aV.U ao;replace bm:=bm.U ao;replace bl:=bl.U ao;replace bZ:=bZ.U ao;replace aY:=aY.to ao;clear cE;have cE:=aY.aI
 go_wp2_with fail
 refine (mH ag af sp ak ws c2 al c3 ad h2 h3 cm _ mi.out _ (bm.U aw) (bl.U aw)).mono ?_
 rintro e bA ⟨rfl,bC⟩
 have aL:=be aQ bC;replace I:=ai I aL;replace aW:=aW.U aL;replace aV:=aV.U aL;replace bm:=bm.U aL;replace bl:=bl.U aL;replace bZ:=bZ.U aL;replace aY:=aY.to aL;clear cE;have cE:=aY.aI
 have zQ:Hid (∀d,os.any (fun o=>!ql rs o)= d→Calls Tryz.prog 120 #[.slice aA os c4,.func (.func 121) #[] #[.pointer (some ⟨w.heap.size,0,none⟩)]] bA fun e ah=>e= .returned (.bool d)∧Below bA bA ah):=J fun d bS=>
  agp aA c4 os h4 121 #[.pointer (some ⟨w.heap.size,0,none⟩)] (Bp Tryz.func121 (by kernel_rfl) (by kernel_rfl)) (fun o=>!ql rs o) d bS bA bZ (fun x _ V ic=>anB rs an c0 h0 w.heap.size x V ((aY.to ic).cell 0) (aY.to ic).lt (aW.U ic))
 by_cases xm:os.any (fun o=>!ql rs o)= true
 ·have wQ:=J xm;clear xm
  go_wp2_with fail
  refine (zQ.out _ wQ.out).mono ?_
  rintro e cf ⟨rfl,cZ⟩
  have bV:=be bA cZ;replace I:=ai I bV;replace aW:=aW.U bV;replace aV:=aV.U bV;replace bm:=bm.U bV;replace bl:=bl.U bV;replace bZ:=bZ.U bV;replace aY:=aY.to bV;clear cE;have cE:=aY.aI
  go_wp2
  go_ret
  exact⟨ep (PB wQ.out).symm,(ai I aw)⟩
 replace xm:=Bool.eq_false_iff.2 xm;have wQ:=J xm;clear xm
 go_wp2_with fail
 refine (zQ.out _ wQ.out).mono ?_
 rintro e cf ⟨rfl,cZ⟩
 have bV:=be bA cZ;replace I:=ai I bV;replace aW:=aW.U bV;replace aV:=aV.U bV;replace bm:=bm.U bV;replace bl:=bl.U bV;replace bZ:=bZ.U bV;replace aY:=aY.to bV;clear cE;have cE:=aY.aI
 by_cases bS:hk rs qs= true
 ·have fD:=J bS;clear bS
  go_wp2_with fail
  refine (CQ rs qs ag af sp ws ad os an ar ak al aA c0 au c2 c3 c4 h0 h1 h2 h3 h4 H1.out _ fD.out _ (aW.U aw) (aV.U aw) (bm.U aw) (bl.U aw) (bZ.U aw)).mono ?_
  rintro e dE ⟨rfl,ek⟩
  have cG:=be cf ek
  exact adM
 replace bS:=Bool.eq_false_iff.2 bS;have fD:=J bS;clear bS
 by_cases aZ:sp= 0
 ·have uS:(sp == 0)= true:=beq_iff_eq.2 aZ
  have BL:=J uS;clear aZ
  by_cases hw:ws.length= 0
  ·have xE:((ws.length:Int) == 0)= true:=by simp [hw]
   have nB:=J hw;clear hw
   go_wp2_with fail
   refine (CQ rs qs ag af sp ws ad os an ar ak al aA c0 au c2 c3 c4 h0 h1 h2 h3 h4 H1.out _ fD.out _ (aW.U aw) (aV.U aw) (bm.U aw) (bl.U aw) (bZ.U aw)).mono ?_
   rintro e dE ⟨rfl,ek⟩
   have cG:=be cf ek
   exact adB
  ·have xE:((ws.length:Int) == 0)= false:=by simpa using hw
   have nB:=J hw;clear hw
   go_wp2_with fail
   refine (CQ rs qs ag af sp ws ad os an ar ak al aA c0 au c2 c3 c4 h0 h1 h2 h3 h4 H1.out _ fD.out _ (aW.U aw) (aV.U aw) (bm.U aw) (bl.U aw) (bZ.U aw)).mono ?_
   rintro e dE ⟨rfl,ek⟩
   have cG:=be cf ek
   exact adA
 ·have uS:(sp == 0)= false:=beq_eq_false_iff_ne.2 aZ
  have BL:=J uS;clear aZ
  go_wp2_with fail
  refine (CQ rs qs ag af sp ws ad os an ar ak al aA c0 au c2 c3 c4 h0 h1 h2 h3 h4 H1.out _ fD.out _ (aW.U aw) (aV.U aw) (bm.U aw) (bl.U aw) (bZ.U aw)).mono ?_
  rintro e dE ⟨rfl,ek⟩
  have cG:=be cf ek
  exact adF
theorem apU (rs:List aM) (qs:List aN) (ag af sp:Int) (ws:List Int) (ad:List aK) (os:List Out) (an ar ak al aA:Option Addr) (c0 au c2 c3 c4:Nat) (h0:rs.length≤1048576) (h1:qs.length≤1048576) (h2:ws.length≤1048576) (h3:ad.length≤1048576) (h4:os.length≤1048576) (v:Bool) (az:rK rs qs ag af sp ws ad os= v) (w:World) (aW:aJ 7 aM.cells w an rs) (aV:aJ 3 aN.cells w ar qs) (bm:aJ 1 bU w ak ws) (bl:aJ 3 aK.cells w al ad) (bZ:aJ 3 Out.cells w aA os) (dP:rs.length≤c0) (cm:ws.length≤c2):
 Calls Tryz.prog 107 #[.agg #[.slice an rs c0,.slice ar qs au,ag,af,sp,.slice ak ws c2,.slice al ad c3,.slice aA os c4]] w fun e ah=>e= .returned v∧Below w w ah:=by
 subst az
 cases qf:dF rs qs
 ·have hG:=J qf;clear qf
  go_in
  go_upto_region 1 with fail
  refine cR fun aH av aY=>?_
  replace aW:=aW.U av;replace aV:=aV.U av;replace bm:=bm.U av;replace bl:=bl.U av;replace bZ:=bZ.U av;have I:=av;have cE:=aY.aI
  go_wp2_with fail
  refine (oe an c0 rs h0 ar au qs h1 _ hG.out _ (aW.U aw) (aV.U aw)).mono ?_
  exact adH
 have H1:=J qf;have hG:=J qf;clear qf
 cases sq:gl ag af sp ws ad
 ·have mi:=J sq;clear sq
  go_in
  go_upto_region 1 with fail
  refine cR fun aH av aY=>?_
  replace aW:=aW.U av;replace aV:=aV.U av;replace bm:=bm.U av;replace bl:=bl.U av;replace bZ:=bZ.U av;have I:=av;have cE:=aY.aI
  go_wp2_with fail
  refine (oe an c0 rs h0 ar au qs h1 _ hG.out _ (aW.U aw) (aV.U aw)).mono ?_
  rintro e aQ ⟨rfl,aP⟩
  have ao:=be aH aP;replace I:=ai I ao;replace aW:=aW.U ao;replace aV:=aV.U ao;replace bm:=bm.U ao;replace bl:=bl.U ao;replace bZ:=bZ.U ao;replace aY:=aY.to ao;clear cE;have cE:=aY.aI
  go_wp2_with fail
  refine (mI ag af sp ak ws c2 al c3 ad h2 h3 cm _ mi.out _ (bm.U aw) (bl.U aw)).mono ?_
  exact adJ
 have gb:=J sq;have mi:=J sq;clear sq
 by_cases sr:os.length≤12
 case neg=>
  go_in
  go_upto_region 1 with fail
  refine cR fun aH av aY=>?_
  replace aW:=aW.U av;replace aV:=aV.U av;replace bm:=bm.U av;replace bl:=bl.U av;replace bZ:=bZ.U av;have I:=av;have cE:=aY.aI
  go_wp2_with fail
  refine (oe an c0 rs h0 ar au qs h1 _ hG.out _ (aW.U aw) (aV.U aw)).mono ?_
  rintro e aQ ⟨rfl,aP⟩
  have ao:=be aH aP;replace I:=ai I ao;replace aW:=aW.U ao;replace aV:=aV.U ao;replace bm:=bm.U ao;replace bl:=bl.U ao;replace bZ:=bZ.U ao;replace aY:=aY.to ao;clear cE;have cE:=aY.aI
  go_wp2_with fail
  refine (mI ag af sp ak ws c2 al c3 ad h2 h3 cm _ mi.out _ (bm.U aw) (bl.U aw)).mono ?_
  exact adL
 have hr:=J sr
 go_in
 go_upto_region 1 with fail
 refine cR fun aH av aY=>?_
 replace aW:=aW.U av;replace aV:=aV.U av;replace bm:=bm.U av;replace bl:=bl.U av;replace bZ:=bZ.U av;have I:=av;have cE:=aY.aI
 go_wp2_with fail
 refine (oe an c0 rs h0 ar au qs h1 _ hG.out _ (aW.U aw) (aV.U aw)).mono ?_
 rintro e aQ ⟨rfl,aP⟩
 have ao:=be aH aP;replace I:=ai I ao;replace aW:=aW.U ao;replace aV:=aV.U ao;replace bm:=bm.U ao;replace bl:=bl.U ao;replace bZ:=bZ.U ao;replace aY:=aY.to ao;clear cE;have cE:=aY.aI
 go_wp2_with fail
 refine (mI ag af sp ak ws c2 al c3 ad h2 h3 cm _ mi.out _ (bm.U aw) (bl.U aw)).mono ?_
 rintro e bA ⟨rfl,bC⟩
 have aL:=be aQ bC;replace I:=ai I aL;replace aW:=aW.U aL;replace aV:=aV.U aL;replace bm:=bm.U aL;replace bl:=bl.U aL;replace bZ:=bZ.U aL;replace aY:=aY.to aL;clear cE;have cE:=aY.aI
 go_wp2
 have dQ:=J aY;have Mq:=J aW;have Mr:=J aV;have EW:=J bm;have EX:=J bl;have EY:=J bZ;clear cE
 go_loopw [3] (fun i wr=>∃k:Nat,k≤os.length∧i= .int .i64 k∧hI (jg (ql rs) os) k= true∧Below w w wr∧Below bA bA wr) (fun i _=>os.length - (intOf i).toNat)
 case atStart=>exact⟨0,Nat.zero_le _,rfl,rfl,I,Below.refl _ _⟩
 case round=>
  obtain⟨k,ax,rfl,aT,vY,aE⟩:=hrel
  have cJ:=J aT;clear aT aW aV bm bl bZ aY;have aW:=Mq.out;have aV:=Mr.out;have bm:=EW.out;have bl:=EX.out;have bZ:=EY.out;have aY:=dQ.out;have bV:=be bA aE;replace I:=ai I bV;replace aW:=aW.U bV;replace aV:=aV.U bV;replace bm:=bm.U bV;replace bl:=bl.U bV;replace bZ:=bZ.U bV;replace aY:=aY.to aE;have cE:=aY.aI
  by_cases bn:k < os.length
  ·obtain⟨ey,gN,x,rfl,dU,ay,bq⟩:=bZ.at_ (Below.refl _ _) bn
   obtain⟨ha,dZ,jn⟩:=x
   clear cE;have cE:=aY.aI;have cy:=bq 0 _ rfl;have dD:=bq 1 _ rfl
   simp only [Nat.add_zero] at cy
   have cg:=J ay;clear ay bq;have jo:=J aW
   cases hf:hA rs ha with
   | none=>
    have cD:=J hf;clear hf
    go_upto_region 6 with fail
    clear cE;have cE:=aC.qb (fun K:aB wr.heap.size wr=>(aY.U K.U aY.lt))
    refine eC (by kernel_rfl) (by kernel_rfl) ?_
    repeat (go_big_quiet_step (fail))
    go_big_quiet_step ((go_at_call 72;exact aB.same _ (vg an c0 rs h0 ha _ (CP cD.out) _ (jo.out.U (aB.U _)))))
    repeat (go_big_quiet_step (fail))
    refine wpQuiet_nil ?_
    intro K
    go_wp2
    go_ret
    exact⟨ep (PB (List.any_eq_true.2 ⟨⟨ha,dZ,jn⟩,List.mem_of_getElem? cg.out,by rw [Ym (o:=⟨ha,dZ,jn⟩) cD.out];rfl⟩)).symm,ai vY K.U⟩
   | some r=>
    have cD:=J hf;clear hf
    obtain⟨m,hm,_⟩:=rG cD.out
    have BF:=J hm;clear hm;have OA:decide ((m:Int) < 0)= false:=decide_eq_false (by omega)
    cases aP:eH dZ
    ·have mS:=J aP;clear aP
     go_upto_region 6 with fail
     clear cE;have cE:=aC.qb (fun K:aB wr.heap.size wr=>(aY.U K.U aY.lt))
     refine eC (by kernel_rfl) (by kernel_rfl) ?_
     repeat (go_big_quiet_step (fail))
     go_big_quiet_step ((go_at_call 72;exact aB.same _ (vg an c0 rs h0 ha _ BF.out _ (jo.out.U (aB.U _)))))
     repeat (go_big_quiet_step (fail))
     go_big_quiet_step ((go_at_call 162;exact aB.same _ (iA dZ _ mS.out _)))
     repeat (go_big_quiet_step (fail))
     refine wpQuiet_nil ?_
     intro K
     go_wp2
     go_ret
     exact⟨ep (PB (List.any_eq_true.2 ⟨⟨ha,dZ,jn⟩,List.mem_of_getElem? cg.out,by rw [PM (o:=⟨ha,dZ,jn⟩) cD.out];simp only [mS.out];rfl⟩)).symm,ai vY K.U⟩
    ·have mS:=J aP;clear aP
     go_upto_region 6 with fail
     clear cE;have cE:=aC.qb (fun K:aB wr.heap.size wr=>(aY.U K.U aY.lt))
     refine eC (by kernel_rfl) (by kernel_rfl) ?_
     repeat (go_big_quiet_step (fail))
     go_big_quiet_step ((go_at_call 72;exact aB.same _ (vg an c0 rs h0 ha _ BF.out _ (jo.out.U (aB.U _)))))
     repeat (go_big_quiet_step (fail))
     go_big_quiet_step ((go_at_call 162;exact aB.same _ (iA dZ _ mS.out _)))
     repeat (go_big_quiet_step (fail))
     refine wpQuiet_nil ?_
     intro K
     go_wp2
     go_roundw
     case rel=>exact⟨k + 1,by omega,by go_num,np cJ.out (by simp only [jg,cg.out];rw [PM (o:=⟨ha,dZ,jn⟩) cD.out];exact mS.out),ai vY K.U,ai aE K.U⟩
     case measure=>simp [intOf];omega
  ·obtain rfl:k= os.length:=by omega
   have wQ:Hid (os.any (fun o=>!ql rs o)= false):=J (by
    rw [Bool.eq_false_iff]
    intro aG
    obtain⟨x,ay,aR⟩:=List.any_eq_true.1 aG
    obtain⟨i,hi⟩:=List.mem_iff_getElem?.1 ay
    have:=oV.1 cJ.out i (List.getElem?_eq_some_iff.1 hi).1
    simp only [jg,hi] at this
    rw [this] at aR;cases aR)
   by_cases bS:hk rs qs= true
   ·have fD:=J bS;clear bS
    go_wp2_with fail
    refine (AO rs qs an ar c0 au h0 h1 H1.out _ fD.out _ (aW.U aw) (aV.U aw)).mono ?_
    rintro e dE ⟨rfl,ek⟩
    have cG:=be wr ek
    exact adM
   replace bS:=Bool.eq_false_iff.2 bS;have fD:=J bS;clear bS
   by_cases aZ:sp= 0
   ·have uS:(sp == 0)= true:=beq_iff_eq.2 aZ
    have BL:=J uS;clear aZ
    by_cases hw:ws.length= 0
    ·have xE:((ws.length:Int) == 0)= true:=by simp [hw]
     have nB:=J hw;clear hw
     go_wp2_with fail
     refine (AO rs qs an ar c0 au h0 h1 H1.out _ fD.out _ (aW.U aw) (aV.U aw)).mono ?_
     rintro e dE ⟨rfl,ek⟩
     have cG:=be wr ek
     exact adB
    ·have xE:((ws.length:Int) == 0)= false:=by simpa using hw
     have nB:=J hw;clear hw
     go_wp2_with fail
     refine (AO rs qs an ar c0 au h0 h1 H1.out _ fD.out _ (aW.U aw) (aV.U aw)).mono ?_
     rintro e dE ⟨rfl,ek⟩
     have cG:=be wr ek
     exact adA
   ·have uS:(sp == 0)= false:=beq_eq_false_iff_ne.2 aZ
    have BL:=J uS;clear aZ
    go_wp2_with fail
    refine (AO rs qs an ar c0 au h0 h1 H1.out _ fD.out _ (aW.U aw) (aV.U aw)).mono ?_
    rintro e dE ⟨rfl,ek⟩
    have cG:=be wr ek
    exact adF
open Go.RowKit Go.G9
structure ou where
 kind:Int
 mem:Int
 val:Int
 yes:Int
 no:Int
 bB:Int
def cF.gz (m:cF):eD:=⟨m.de,m.cU,m.dH,m.bJ,m.bM⟩
def cF.KZ (m:cF) (qs:List aN):cF:={m with bH:=qs,dH:=0,bJ:=[],bM:=[]}
def cF.HN (m:cF) (f:eD):cF:={m with de:=f.ag,cU:=f.af,dH:=f.sp,bJ:=f.ws,bM:=f.ad}
def cF.arU (m:cF) (qs:List aN):cF:={m with bH:=qs}
def cF.DE (m:cF) (qs:List aN) (o:Out):cF:={m with bH:=qs,dH:=0,bJ:=[],bM:=[],bt:=m.bt ++ [o]}
def tw (rs:List aM) (q:aN):Int:=match hA rs q.fU with | some r=>r.hv | none=>0
def pk (m:cF) (a:ou):Option cF:=match rv m.bx m.bH with
 | some (ps,q)=>if tG a.yes a.no a.bB && !decide (m.bt.length= 12) then some (m.DE ps ⟨q.fU,q.mover,pA (tw m.bx q) a.yes a.no⟩) else none
 | none=>none
def tf (m:cF) (a:ou):Option cF:=
 if a.kind= 3 then if nP m.gz a.mem && hk m.bx m.bH then some (m.HN (qw m.gz a.mem)) else none
 else if a.kind= 4 then if mK m.gz && hk m.bx m.bH then (sI m.gz).map (fun p=>m.HN (rM m.gz p)) else none
 else if a.kind= 5 then if oj m.gz a.val && hk m.bx m.bH then some (m.HN (jw m.gz a.val)) else none
 else if a.kind= 6 then if mh m.gz && hk m.bx m.bH then some (m.HN (mR m.gz)) else none
 else none
def gE (m:cF) (a:ou):Option cF:=
 if a.kind= 1 then if m.dH == 0 then (jD m.bx m.bH a.val a.mem).map m.KZ else none
 else if a.kind= 2 then (jS m.bx m.bH a.mem).map m.arU
 else if a.kind= 7 then if m.dH == 0 then pk m a else none
 else if a.kind= 8 then if m.dH == 0 then (ks m.bx m.bH a.mem).map m.KZ else none
 else if a.kind= 9 then if (m.dH == 0) && (dF m.bx m.bH && jC m.bx m.bH) then some (m.KZ (vT m.bx m.bH)) else none
 else tf m a
structure gP (m:cF):Prop where
 ho:dF m.bx m.bH= true
 gz:m.gz.ok= true
 ol:m.bt.length≤12
 Hp:∀o,o ∈ m.bt→ql m.bx o= true
 Jb:hk m.bx m.bH= true∨(m.dH= 0∧m.bJ= [])
theorem Dc {m:cF}:pL m= true↔gP m:=by
 unfold pL rK Dp
 simp only [Bool.and_eq_true,Bool.or_eq_true,beq_iff_eq,decide_eq_true_eq,Bool.not_eq_true',List.length_eq_zero_iff]
 constructor
 ·rintro ⟨h1,h2,h3,h4,h5⟩
  refine⟨h1,h2,h3,fun o dd=>?_,h5⟩
  rw [List.any_eq_false] at h4
  have:=h4 o dd
  simpa using this
 ·rintro ⟨h1,h2,h3,h4,h5⟩
  refine⟨h1,h2,h3,?_,h5⟩
  rw [List.any_eq_false]
  intro o dd
  simp [h4 o dd]
theorem Up {ag af:Int} (h1:1≤ag∧ag≤3) (h2:1≤af∧af≤3600):gl ag af 0 [] []= true:=
 Jh.2 ⟨h1,h2,Or.inl rfl,by simp,by simp,List.Pairwise.nil,by simp,List.Pairwise.nil,Or.inl rfl⟩
theorem QM {m:cF} {qs:List aN} (h:gP m) (aR:dF m.bx qs= true):gP (m.KZ qs):=by
 have H:=lg.1 h.gz
 exact⟨aR,Up H.t H.s,h.ol,h.Hp,Or.inr ⟨rfl,rfl⟩⟩
theorem KY {m:cF} {f:eD} (h:gP m) (hf:f.ok= true) (bS:hk m.bx m.bH= true):gP (m.HN f):=by
 exact⟨h.ho,hf,h.ol,h.Hp,Or.inl bS⟩
theorem TM {rs:List aM} {qs:List aN} (h:jC rs qs= true):hk rs qs= false:=by
 unfold jC at h;unfold hk
 cases bf:qs[qs.length - 1]? with
 | none=>rfl
 | some q=>
  rw [bf] at h
  dsimp only at h ⊢
  cases bz:hA rs q.fU with
  | none=>rfl
  | some r=>rw [bz] at h;dsimp only at h ⊢;rw [h];rfl
theorem KV {m n:cF} {a:ou} (h:pk m a= some n):∃ps q,rv m.bx m.bH= some (ps,q)∧tG a.yes a.no a.bB= true∧m.bt.length≠12∧n= m.DE ps ⟨q.fU,q.mover,pA (tw m.bx q) a.yes a.no⟩:=by
 unfold pk at h
 split at h
 ·rename_i ps q bS
  split at h
  ·rename_i aG
   simp only [Bool.and_eq_true,Bool.not_eq_true',decide_eq_false_iff_not] at aG
   cases h
   exact⟨ps,q,bS,aG.1,aG.2,rfl⟩
  ·cases h
 ·cases h
theorem arL {m n:cF} {a:ou} (h:gP m) (az:pk m a= some n):gP n:=by
 obtain⟨ps,q,bS,cA,dd,rfl⟩:=KV az
 obtain⟨h1,h2,j,bI,bf,rfl⟩:=TT bS
 have H:=lg.1 h.gz
 obtain⟨r,bz⟩:=oi h.ho bf
 refine⟨h1,Up H.t H.s,?_,?_,Or.inr ⟨rfl,rfl⟩⟩
 ·have:=h.ol;simp only [cF.DE,List.length_append,List.length_cons,List.length_nil];omega
 ·intro o hm
  simp only [cF.DE,List.mem_append,List.mem_cons,List.not_mem_nil,or_false] at hm
  rcases hm with hm | rfl
  ·exact h.Hp o hm
  ·simp only [ql,cF.DE,bz,Option.isSome_some,Bool.true_and]
   exact Yt h.ho bf
theorem ahG {m n:cF} {a:ou} (h:gP m) (az:tf m a= some n):gP n:=by
 unfold tf at az
 split at az
 ·split at az
  ·rename_i aG;simp only [Bool.and_eq_true] at aG
   cases az;exact KY h (afC aG.1) aG.2
  ·cases az
 split at az
 ·split at az
  ·rename_i aG;simp only [Bool.and_eq_true] at aG
   cases hm:sI m.gz with
   | none=>rw [hm] at az;cases az
   | some p=>
    rw [hm] at az;cases az
    exact KY h (anv aG.1 (List.mem_of_getElem? hm)) aG.2
  ·cases az
 split at az
 ·split at az
  ·rename_i aG;simp only [Bool.and_eq_true] at aG
   cases az;exact KY h (aqG aG.1) aG.2
  ·cases az
 split at az
 ·split at az
  ·rename_i aG;simp only [Bool.and_eq_true] at aG
   cases az;exact KY h (aaI aG.1) aG.2
  ·cases az
 ·cases az
theorem Kc {m n:cF} {a:ou} (h:gP m) (az:gE m a= some n):gP n:=by
 unfold gE at az
 split at az
 ·split at az
  ·cases bf:jD m.bx m.bH a.val a.mem with
   | none=>rw [bf] at az;cases az
   | some qs=>rw [bf] at az;cases az;exact QM h (anh bf)
  ·cases az
 split at az
 ·cases bf:jS m.bx m.bH a.mem with
  | none=>rw [bf] at az;cases az
  | some qs=>
   rw [bf] at az;cases az
   have aT:jC m.bx m.bH= true:=by
    unfold jS at bf
    split at bf
    ·rename_i aG;simp only [Bool.and_eq_true] at aG;exact aG.2.1
    ·cases bf
   refine⟨aqz bf,h.gz,h.ol,h.Hp,Or.inr (h.Jb.resolve_left ?_)⟩
   rw [TM aT];simp
 split at az
 ·split at az
  ·exact arL h az
  ·cases az
 split at az
 ·split at az
  ·cases bf:ks m.bx m.bH a.mem with
   | none=>rw [bf] at az;cases az
   | some qs=>rw [bf] at az;cases az;exact QM h (arT bf)
  ·cases az
 split at az
 ·split at az
  ·rename_i aG;simp only [Bool.and_eq_true] at aG
   cases az
   exact QM h (agz (show lB m.bx m.bH= some _ by rw [lB,if_pos aG.2.1]))
  ·cases az
 ·exact ahG h az
theorem agv {m:cF} (h:gP m) (hw:0 < m.bJ.length):hk m.bx m.bH= true:=by
 rcases h.Jb with h1 | h1
 ·exact h1
 ·rw [h1.2] at hw;simp at hw
theorem TO {m:cF} (h:gP m) (hw:m.dH≠0):hk m.bx m.bH= true:=by
 rcases h.Jb with h1 | h1
 ·exact h1
 ·exact absurd h1.1 hw
theorem aqM {m:cF} (h:gP m) (aT:jC m.bx m.bH= true):m.dH= 0:=by
 rcases h.Jb with h1 | h1
 ·rw [TM aT] at h1;cases h1
 ·exact h1.1
theorem Pw {N:Nat}:∀{xs:List aK} {lo:Int},xs.Pairwise (fun a b=>a.mem < b.mem)→(∀x,x ∈ xs→lo < x.mem∧x.mem≤lo + N)→xs.length≤N
 | [],_,_,_=>by simp
 | x ::xs,lo,h,aE=>by
  obtain⟨h1,h2⟩:=List.pairwise_cons.1 h
  have ay:=aE x List.mem_cons_self
  cases N with
  | zero=>omega
  | succ N=>
   have:=Pw (N:=N) (lo:=lo + 1) h2 (fun y hy=>by
    have a:=h1 y hy;have b:=aE y (List.mem_cons_of_mem _ hy)
    constructor <;> omega)
   simp;omega
theorem tv {m:cF} (h:gP m):m.bx.length≤8∧m.bH.length≤6∧m.bJ.length≤10∧m.bM.length≤99∧m.bt.length≤12:=by
 obtain⟨bz,bf,_⟩:=nd h.ho
 have H:=lg.1 h.gz
 refine⟨?_,bf,H.l,?_,h.ol⟩
 ·unfold kq at bz;simp only [Bool.and_eq_true,decide_eq_true_eq] at bz;exact bz.2
 ·refine Pw (N:=99) (lo:=0) H.ord fun x ay=>?_
  have:=vo.1 (H.ok x ay);have:=rH.1 this.1
  omega
open Go.RowKit Go.G9
theorem ara (ag af sp:Int) (W:Option Addr) (ws:List Int) (wc:Nat) (S:Option Addr) (eY:Nat) (ad:List aK) (hw:ws.length≤maxLen) (bd:ad.length≤maxLen) (l:Int) (km:0≤l) (jR:l≤1048576) (w:World):
 Calls Tryz.prog 137 #[.agg #[ag,af,sp,.slice W ws wc,.slice S ad eY],l] w fun e ah=>∃r:Int,e= .returned r∧-1≤r∧r≤l∧(r < 0∨ws.length≤1048576∧ad.length≤1048576)∧Below w w ah:=by
 go_in
 go_wp2_with fail
 refine (arb W wc ws hw l km jR _).mono ?_
 rintro e bg ⟨r,rfl,a1,a2,a3,rfl⟩
 by_cases bz:r < 0
 ·go_wp2
  go_ret
  exact⟨_,rfl,by omega,by omega,.inl (by omega),ca _ _⟩
 ·have a4:ws.length≤1048576:=by omega
  clear a3
  go_wp2_with fail
  refine (ark S eY ad bd r (by omega) (by omega) _).mono ?_
  rintro e bg ⟨fS,rfl,ds,du,ew,aE⟩
  by_cases pb:fS < 0
  ·go_wp2
   go_ret
   exact⟨_,rfl,by omega,by omega,.inl (by omega),ai (ca _ _) aE⟩
  ·have fm:ad.length≤1048576:=by omega
   clear ew
   go_wp2
   go_ret
   exact⟨_,rfl,by omega,by omega,.inr ⟨a4,fm⟩,ai (ca _ _) aE⟩
theorem agN (ag af sp:Int) (W eF:Option Addr) (ws:List Int) (wc aas:Nat) (S Mp:Option Addr) (eY Zt:Nat) (ad:List aK) (hw:ws.length≤1048576) (bd:ad.length≤1048576) (w:World) (bm:aJ 1 bU w W ws) (bl:aJ 3 aK.cells w S ad) (jJ:aJ 1 bU w eF ws) (jK:aJ 3 aK.cells w Mp ad):
 Calls Tryz.prog 143 #[.agg #[ag,af,sp,.slice W ws wc,.slice S ad eY],.agg #[ag,af,sp,.slice eF ws aas,.slice Mp ad Zt]] w fun e ah=>e= .returned true∧Below w w ah:=by
 go_in
 go_upto_region 1 with fail
 refine fp fun aH av aU bp=>?_
 replace bm:=bm.U av;replace bl:=bl.U av;replace jJ:=jJ.U av;replace jK:=jK.U av;have I:=av;have a':=aU.aS;have cE:=bp.aS
 go_wp2_with fail
 refine (agO W eF wc aas ws hw _ (bm.U aw) (jJ.U aw)).mono ?_
 rintro e aQ ⟨rfl,aP⟩
 have ao:=be aH aP;replace I:=ai I ao;replace bl:=bl.U ao;replace jK:=jK.U ao;replace aU:=aU.to ao;clear a';have a':=aU.aS;replace bp:=bp.to ao;clear cE;have cE:=bp.aS
 go_wp2_with fail
 refine (agY S Mp eY Zt ad bd _ (bl.U aw) (jK.U aw)).mono ?_
 rintro e bA ⟨rfl,bC⟩
 have aL:=be aQ bC;replace I:=ai I aL;clear a';clear cE
 go_wp2
 go_ret
 exact⟨rfl,(ai I aw)⟩
theorem agQ (rs:List aM) (qs:List aN) (ag af sp:Int) (ws:List Int) (ad:List aK) (os:List Out) (an ar ak al aA:Option Addr) (c0 au c2 c3 c4:Nat) (cl cN bk bo cn:Option Addr) (d0 d1 d2 d3 d4:Nat) (h0:rs.length≤1048576) (h1:qs.length≤1048576) (h2:ws.length≤1048576) (h3:ad.length≤1048576) (h4:os.length≤1048576) (w:World) (aW:aJ 7 aM.cells w an rs) (aV:aJ 3 aN.cells w ar qs) (bm:aJ 1 bU w ak ws) (bl:aJ 3 aK.cells w al ad) (bZ:aJ 3 Out.cells w aA os) (ni:aJ 7 aM.cells w cl rs) (lK:aJ 3 aN.cells w cN qs) (jJ:aJ 1 bU w bk ws) (jK:aJ 3 aK.cells w bo ad) (ld:aJ 3 Out.cells w cn os):
 Calls Tryz.prog 82 #[.agg #[.slice an rs c0,.slice ar qs au,ag,af,sp,.slice ak ws c2,.slice al ad c3,.slice aA os c4],.agg #[.slice cl rs d0,.slice cN qs d1,ag,af,sp,.slice bk ws d2,.slice bo ad d3,.slice cn os d4]] w fun e ah=>e= .returned true∧Below w w ah:=by
 go_in
 go_upto_region 1 with fail
 refine fp fun aH av aU bp=>?_
 replace aW:=aW.U av;replace aV:=aV.U av;replace bm:=bm.U av;replace bl:=bl.U av;replace bZ:=bZ.U av;replace ni:=ni.U av;replace lK:=lK.U av;replace jJ:=jJ.U av;replace jK:=jK.U av;replace ld:=ld.U av;have I:=av;have a':=aU.aI;have cE:=bp.aI
 go_wp2_with fail
 refine (agW an cl c0 d0 rs h0 _ (aW.U aw) (ni.U aw)).mono ?_
 rintro e aQ ⟨rfl,aP⟩
 have ao:=be aH aP;replace I:=ai I ao;replace aV:=aV.U ao;replace bm:=bm.U ao;replace bl:=bl.U ao;replace bZ:=bZ.U ao;replace lK:=lK.U ao;replace jJ:=jJ.U ao;replace jK:=jK.U ao;replace ld:=ld.U ao;replace aU:=aU.to ao;clear a';have a':=aU.aI;replace bp:=bp.to ao;clear cE;have cE:=bp.aI
 go_wp2_with fail
 refine (agU ar cN au d1 qs h1 _ (aV.U aw) (lK.U aw)).mono ?_
 rintro e bA ⟨rfl,bC⟩
 have aL:=be aQ bC;replace I:=ai I aL;replace bm:=bm.U aL;replace bl:=bl.U aL;replace bZ:=bZ.U aL;replace jJ:=jJ.U aL;replace jK:=jK.U aL;replace ld:=ld.U aL;replace aU:=aU.to aL;clear a';have a':=aU.aI;replace bp:=bp.to aL;clear cE;have cE:=bp.aI
 go_wp2_with fail
 refine (agN ag af sp ak bk ws c2 d2 al bo c3 d3 ad h2 h3 _ (bm.U aw) (bl.U aw) (jJ.U aw) (jK.U aw)).mono ?_
 rintro e cf ⟨rfl,cZ⟩
 have bV:=be bA cZ;replace I:=ai I bV;replace bZ:=bZ.U bV;replace ld:=ld.U bV;replace aU:=aU.to bV;clear a';have a':=aU.aI;replace bp:=bp.to bV;clear cE;have cE:=bp.aI
 go_wp2_with fail
 refine (agS aA cn c4 d4 os h4 _ (bZ.U aw) (ld.U aw)).mono ?_
 rintro e dE ⟨rfl,ek⟩
 have cG:=be cf ek;replace I:=ai I cG;clear a';clear cE
 go_wp2
 go_ret
 exact⟨rfl,(ai I aw)⟩
theorem ard (rs:List aM) (qs:List aN) (ag af sp:Int) (ws:List Int) (ad:List aK) (os:List Out) (an ar ak al aA:Option Addr) (c0 au c2 c3 c4:Nat) (h0:rs.length≤maxLen) (h1:qs.length≤maxLen) (h2:ws.length≤maxLen) (h3:ad.length≤maxLen) (h4:os.length≤maxLen) (l:Int) (km:0≤l) (jR:l≤1048576) (w:World) (aW:aJ 7 aM.cells w an rs):
 Calls Tryz.prog 80 #[.agg #[.slice an rs c0,.slice ar qs au,ag,af,sp,.slice ak ws c2,.slice al ad c3,.slice aA os c4],l] w fun e ah=>∃r:Int,e= .returned r∧-1≤r∧r≤l∧(r < 0∨rs.length≤1048576∧qs.length≤1048576∧ws.length≤1048576∧ad.length≤1048576∧os.length≤1048576)∧Below w w ah:=by
 go_in
 go_upto_region 1 with fail
 refine cR fun aH av aU=>?_
 replace aW:=aW.U av;have I:=av;have a':=aU.aI
 go_wp2_with fail
 refine (ari an c0 rs h0 l km jR _ (aW.U aw)).mono ?_
 rintro e aQ ⟨dz,rfl,dj,kK,z0,aP⟩
 have ao:=be aH aP;replace I:=ai I ao;replace aU:=aU.to ao;clear a';have a':=aU.aI
 by_cases n0:dz < 0
 ·go_wp2
  go_ret
  exact⟨_,rfl,by omega,by omega,.inl (by omega),(ai I aw)⟩
 go_wp2_with fail
 refine (arh ar au qs h1 dz (by omega) (by omega) _).mono ?_
 rintro e bA ⟨r2,rfl,dY,yn,ch,bC⟩
 have aL:=be aQ bC;replace I:=ai I aL;replace aU:=aU.to aL;clear a';have a':=aU.aI
 by_cases n1:r2 < 0
 ·go_wp2
  go_ret
  exact⟨_,rfl,by omega,by omega,.inl (by omega),(ai I aw)⟩
 go_wp2_with fail
 refine (ara ag af sp ak ws c2 al c3 ad h2 h3 r2 (by omega) (by omega) _).mono ?_
 rintro e cf ⟨gG,rfl,dV,kt,z2,cZ⟩
 have bV:=be bA cZ;replace I:=ai I bV;replace aU:=aU.to bV;clear a';have a':=aU.aI
 by_cases n2:gG < 0
 ·go_wp2
  go_ret
  exact⟨_,rfl,by omega,by omega,.inl (by omega),(ai I aw)⟩
 go_wp2_with fail
 refine (arf aA c4 os h4 gG (by omega) (by omega) _).mono ?_
 rintro e dE ⟨lF,rfl,er,HU,z3,ek⟩
 have cG:=be cf ek;replace I:=ai I cG;clear a'
 by_cases n3:lF < 0
 ·go_wp2
  go_ret
  exact⟨_,rfl,by omega,by omega,.inl (by omega),(ai I aw)⟩
 go_wp2
 go_ret
 exact⟨_,rfl,by omega,by omega,.inr ⟨by omega,by omega,by omega,by omega,by omega⟩,(ai I aw)⟩
theorem ars (ag af sp:Int) (W:Option Addr) (ws:List Int) (wc:Nat) (S:Option Addr) (eY:Nat) (ad:List aK) (hw:ws.length≤1048576) (bd:ad.length≤1048576) (w:World) (bm:aJ 1 bU w W ws) (bl:aJ 3 aK.cells w S ad):
 Calls Tryz.prog 140 #[.agg #[ag,af,sp,.slice W ws wc,.slice S ad eY]] w fun e ah=>∃fw kM,e= .returned (.agg #[ag,af,sp,.slice fw ws ws,.slice kM ad ad])∧aX w 3 1 bU ah (.slice fw ws ws) ws∧aX w 214 3 aK.cells ah (.slice kM ad ad) ad∧(∀k,(Value.slice fw ws ws).ownBlock= some k→some k≠(Value.slice kM ad ad).ownBlock)∧Below w w ah:=by
 have EW:=J bm;have EX:=J bl;clear bm bl
 go_in
 go_upto_region 2 with fail
 refine fv fun aH av aU ae bW=>?_
 have I:=av;have a':=aU.aS;have aq:=ae.aS;have br:=bW.aS;have MS:=bW.frozen 0
 go_upto_region 3 with fail
 clear MS;clear a' aq br
 refine kG 0 fun lM vr=>?_
 replace I:=vr.aG I;replace aU:=vr.dJ aU;replace ae:=vr.dJ ae;replace bW:=vr.anW bW;have a':=aU.aS;have aq:=ae.aS;have br:=bW.aS;have MT:=bW.frozen 1
 go_upto_region 4 with fail
 clear MT;clear a' aq br
 refine kG 1 fun jW lq=>?_
 replace I:=lq.aG I;replace aU:=lq.dJ aU;replace ae:=lq.dJ ae;replace bW:=lq.anY bW;have a':=aU.aS;have aq:=ae.aS;have br:=bW.aS;have MU:=bW.frozen 2
 go_upto_region 5 with fail
 clear MU;clear a' aq br
 refine kG 2 fun wX gJ=>?_
 replace I:=gJ.aG I;replace aU:=gJ.dJ aU;replace ae:=gJ.dJ ae;replace bW:=gJ.Kt bW;have a':=aU.aS;have aq:=ae.aS;have br:=bW.aS;have q1:=bW.lt
 go_wp2_with fail
 refine (art W wc ws hw _ (EW.out.U I)).mono ?_
 rintro e aQ ⟨fw,rfl,bF,aP⟩
 have ao:=be wX aP;replace I:=ai I ao;replace aU:=aU.to ao;clear a';have a':=aU.aS;replace ae:=ae.to ao;clear aq;have aq:=ae.aS;replace bW:=bW.to ao;clear br;have br:=bW.aS;have m2:=bF.lt;have MV:=bW.frozen 3
 go_upto_region 6 with fail
 clear MV;clear a' aq br
 refine kG 3 fun nj eU=>?_
 replace I:=eU.aG I;replace aU:=eU.dJ aU;replace ae:=eU.dJ ae;replace bW:=eU.Dm bW;have auB:=eU.sz;replace bF:=bF.bY eU (fun k ax=>by first | exact en k ax | (have:=bF.lt k ax;omega));have a':=aU.aS;have aq:=ae.aS;have br:=bW.aS
 have gn:=bW.lt
 go_wp2_with fail
 refine (arE S eY ad bd _ (EX.out.U I)).mono ?_
 rintro e bA ⟨kM,rfl,bw,bC⟩
 have aL:=be nj bC;replace I:=ai I aL;replace bF:=bF.bh aL;clear a';replace ae:=ae.to aL;clear aq;have aq:=ae.aS;replace bW:=bW.to aL;clear br;have br:=bW.aS
 have ap:∀k,(Value.slice fw ws ws).ownBlock= some k→some k≠(Value.slice kM ad ad).ownBlock:=fun k ax kR=>by
  have e1:=(m2 k ax).2;have e2:=(bw.lt k kR.symm).1
  omega
 have MW:=bW.frozen 4
 go_upto_region 7 with fail
 clear MW;clear aq br
 refine kG 4 fun ui gf=>?_
 replace I:=gf.aG I;replace ae:=gf.dJ ae;replace bW:=gf.PV bW;replace bF:=bF.bY gf (fun k ax=>by first | exact en k ax | (have:=bF.lt k ax;omega));replace bw:=bw.bY gf (fun k ax=>by first | exact dI k ax | (have:=bw.lt k ax;omega))
 have aq:=ae.aS;have br:=bW.aS;have ez:=ae.jh
 go_wp2
 clear aq br
 refine gT 0 fun cQ aD=>?_
 replace I:=aD.aG I;replace ae:=aD.iK ae;replace bF:=bF.bY aD (fun k ax=>by first | exact en k ax | (have:=bF.lt k ax;omega));replace bw:=bw.bY aD (fun k ax=>by first | exact dI k ax | (have:=bw.lt k ax;omega));have aq:=ae.aS
 exact hc ⟨fw,kM,rfl,bF.base (by omega),bw.base (by omega),ap,I⟩ (by simp [results,Tryz.results140,go_sem,aq])
theorem arv (rs:List aM) (qs:List aN) (ag af sp:Int) (ws:List Int) (ad:List aK) (os:List Out) (an ar ak al aA:Option Addr) (c0 au c2 c3 c4:Nat) (h0:rs.length≤1048576) (h1:qs.length≤1048576) (h2:ws.length≤1048576) (h3:ad.length≤1048576) (h4:os.length≤1048576) (w:World) (aW:aJ 7 aM.cells w an rs) (aV:aJ 3 aN.cells w ar qs) (bm:aJ 1 bU w ak ws) (bl:aJ 3 aK.cells w al ad) (bZ:aJ 3 Out.cells w aA os):
 Calls Tryz.prog 81 #[.agg #[.slice an rs c0,.slice ar qs au,ag,af,sp,.slice ak ws c2,.slice al ad c3,.slice aA os c4]] w fun e ah=>∃nk ff fw kM nn,e= .returned (.agg #[.slice nk rs rs,.slice ff qs qs,ag,af,sp,.slice fw ws ws,.slice kM ad ad,.slice nn os os])∧aX w 89 7 aM.cells ah (.slice nk rs rs) rs∧aX w 115 3 aN.cells ah (.slice ff qs qs) qs∧aX w 3 1 bU ah (.slice fw ws ws) ws∧aX w 214 3 aK.cells ah (.slice kM ad ad) ad∧aX w 163 3 Out.cells ah (.slice nn os os) os∧rY [.slice nk rs rs,.slice ff qs qs,.slice fw ws ws,.slice kM ad ad,.slice nn os os]∧Below w w ah:=by
 have Mq:=J aW;have Mr:=J aV;have EW:=J bm;have EX:=J bl;have EY:=J bZ;clear aW aV bm bl bZ
 go_in
 go_upto_region 2 with fail
 refine fv fun aH av aU ae bW=>?_
 have I:=av;have a':=aU.aI;have aq:=ae.aI;have br:=bW.aI;have iB:=bW.lt
 go_wp2_with fail
 refine (arC an c0 rs h0 _ (Mq.out.U I)).mono ?_
 rintro e aQ ⟨nk,rfl,cq,aP⟩
 have ao:=be aH aP;replace I:=ai I ao;replace aU:=aU.to ao;clear a';have a':=aU.aI;replace ae:=ae.to ao;clear aq;have aq:=ae.aI;replace bW:=bW.to ao;clear br;have br:=bW.aI;have m0:=cq.lt;have MS:=bW.frozen 0
 go_upto_region 3 with fail
 clear MS;clear a' aq br
 refine kG 0 fun lM vr=>?_
 replace I:=vr.aG I;replace aU:=vr.dJ aU;replace ae:=vr.dJ ae;replace bW:=vr.anX bW;have auy:=vr.sz;replace cq:=cq.bY vr (fun k ax=>by first | exact fC k ax | (have:=cq.lt k ax;omega));have a':=aU.aI
 have aq:=ae.aI;have br:=bW.aI;have q1:=bW.lt
 go_wp2_with fail
 refine (arA ar au qs h1 _ (Mr.out.U I)).mono ?_
 rintro e bA ⟨ff,rfl,cv,bC⟩
 have aL:=be lM bC;replace I:=ai I aL;replace cq:=cq.bh aL;replace aU:=aU.to aL;clear a';have a':=aU.aI;replace ae:=ae.to aL;clear aq;have aq:=ae.aI;replace bW:=bW.to aL;clear br;have br:=bW.aI;have m1:=cv.lt;have auV:=aL.size;have MT:=bW.frozen 1
 go_upto_region 4 with fail
 clear MT;clear a' aq br
 refine kG 1 fun jW lq=>?_
 replace I:=lq.aG I;replace aU:=lq.dJ aU;replace ae:=lq.dJ ae;replace bW:=lq.Ht bW;have auz:=lq.sz;replace cq:=cq.bY lq (fun k ax=>by first | exact fC k ax | (have:=cq.lt k ax;omega))
 replace cv:=cv.bY lq (fun k ax=>by first | exact ih k ax | (have:=cv.lt k ax;omega));have a':=aU.aI;have aq:=ae.aI;have br:=bW.aI;have gn:=bW.lt
 go_wp2_with fail
 refine (ars ag af sp ak ws c2 al c3 ad h2 h3 _ (EW.out.U I) (EX.out.U I)).mono ?_
 rintro e cf ⟨fw,kM,rfl,bF,bw,afI,cZ⟩
 have bV:=be jW cZ;replace I:=ai I bV;replace cq:=cq.bh bV;replace cv:=cv.bh bV;replace aU:=aU.to bV;clear a';have a':=aU.aI;replace ae:=ae.to bV;clear aq;have aq:=ae.aI;replace bW:=bW.to bV;clear br;have br:=bW.aI;have m2:=bF.lt;have m3:=bw.lt;have auW:=bV.size;have MU:=bW.frozen 2;have MV:=bW.frozen 3;have MW:=bW.frozen 4
 have ahu:=bW.frozen 5;have ahv:=bW.frozen 6
 go_upto_region 5 with fail
 clear MU MV MW ahu ahv;clear a' aq br
 refine gT 2 fun wX gJ=>?_
 replace I:=gJ.aG I;replace aU:=gJ.dJ aU;replace ae:=gJ.dJ ae;replace bW:=gJ.Dl bW;have auA:=gJ.sz;replace cq:=cq.bY gJ (fun k ax=>by first | exact fC k ax | (have:=cq.lt k ax;omega))
 replace cv:=cv.bY gJ (fun k ax=>by first | exact ih k ax | (have:=cv.lt k ax;omega));replace bF:=bF.bY gJ (fun k ax=>by first | exact en k ax | (have:=bF.lt k ax;omega));replace bw:=bw.bY gJ (fun k ax=>by first | exact dI k ax | (have:=bw.lt k ax;omega));have a':=aU.aI;have aq:=ae.aI;have br:=bW.aI;have Dn:=bW.lt
 go_wp2_with fail
 refine (ary aA c4 os h4 _ (EY.out.U I)).mono ?_
 rintro e dE ⟨nn,rfl,cz,ek⟩
 have cG:=be wX ek;replace I:=ai I cG;replace cq:=cq.bh cG;replace cv:=cv.bh cG;replace bF:=bF.bh cG;replace bw:=bw.bh cG;clear a';replace ae:=ae.to cG;clear aq;have aq:=ae.aI;replace bW:=bW.to cG;clear br;have br:=bW.aI;have m4:=cz.lt
 have ap:rY [.slice nk rs rs,.slice ff qs qs,.slice fw ws ws,.slice kM ad ad,.slice nn os os]:=by
  refine List.Pairwise.cons ?_ (List.Pairwise.cons ?_ (List.Pairwise.cons ?_ (List.Pairwise.cons ?_ (List.Pairwise.cons ?_ List.Pairwise.nil))))
  ·intro v az k ax kR
   have e1:=(m0 k ax).2
   simp only [List.mem_cons,List.not_mem_nil,or_false] at az
   rcases az with rfl | rfl | rfl | rfl
   ·have e2:=(m1 k kR.symm).1;omega
   ·have e2:=(m2 k kR.symm).1;omega
   ·have e2:=(m3 k kR.symm).1;omega
   ·have e2:=(m4 k kR.symm).1;omega
  ·intro v az k ax kR
   have e1:=(m1 k ax).2
   simp only [List.mem_cons,List.not_mem_nil,or_false] at az
   rcases az with rfl | rfl | rfl
   ·have e2:=(m2 k kR.symm).1;omega
   ·have e2:=(m3 k kR.symm).1;omega
   ·have e2:=(m4 k kR.symm).1;omega
  ·intro v az k ax kR
   have e1:=(m2 k ax).2
   simp only [List.mem_cons,List.not_mem_nil,or_false] at az
   rcases az with rfl | rfl
   ·exact afI k ax kR
   ·have e2:=(m4 k kR.symm).1;omega
  ·intro v az k ax kR
   have e1:=(m3 k ax).2
   simp only [List.mem_cons,List.not_mem_nil,or_false] at az
   subst az
   have e2:=(m4 k kR.symm).1
   omega
  ·intro v az;simp at az
 have ahw:=bW.frozen 7
 go_upto_region 6 with fail
 clear ahw;clear aq br
 refine kG 7 fun nj eU=>?_
 replace I:=eU.aG I;replace ae:=eU.dJ ae;replace bW:=eU.PW bW;replace cq:=cq.bY eU (fun k ax=>by first | exact fC k ax | (have:=cq.lt k ax;omega))
 replace cv:=cv.bY eU (fun k ax=>by first | exact ih k ax | (have:=cv.lt k ax;omega));replace bF:=bF.bY eU (fun k ax=>by first | exact en k ax | (have:=bF.lt k ax;omega));replace bw:=bw.bY eU (fun k ax=>by first | exact dI k ax | (have:=bw.lt k ax;omega));replace cz:=cz.bY eU (fun k ax=>by first | exact fH k ax | (have:=cz.lt k ax;omega));have aq:=ae.aI
 have br:=bW.aI;have ez:=ae.jb
 go_wp2
 clear aq br
 refine iE 0 fun cQ aD=>?_
 replace I:=aD.aG I;replace ae:=aD.ja ae;replace cq:=cq.bY aD (fun k ax=>by first | exact fC k ax | (have:=cq.lt k ax;omega));replace cv:=cv.bY aD (fun k ax=>by first | exact ih k ax | (have:=cv.lt k ax;omega));replace bF:=bF.bY aD (fun k ax=>by first | exact en k ax | (have:=bF.lt k ax;omega));replace bw:=bw.bY aD (fun k ax=>by first | exact dI k ax | (have:=bw.lt k ax;omega))
 replace cz:=cz.bY aD (fun k ax=>by first | exact fH k ax | (have:=cz.lt k ax;omega));have aq:=ae.aI
 exact hc ⟨nk,ff,fw,kM,nn,rfl,cq.base (by omega),cv.base (by omega),bF.base (by omega),bw.base (by omega),cz.base (by omega),ap,I⟩ (by simp [results,Tryz.results81,go_sem,aq])
theorem are (m:cF) (an ar ak al aA:Option Addr) (c0 au c2 c3 c4:Nat) (h0:m.bx.length≤maxLen) (h1:m.bH.length≤maxLen) (h2:m.bJ.length≤maxLen) (h3:m.bM.length≤maxLen) (h4:m.bt.length≤maxLen) (l:Int) (km:0≤l) (jR:l≤1048576) (w:World) (aW:aJ 7 aM.cells w an m.bx):
 Calls Tryz.prog 80 #[.agg #[.slice an m.bx c0,.slice ar m.bH au,m.de,m.cU,m.dH,.slice ak m.bJ c2,.slice al m.bM c3,.slice aA m.bt c4],l] w fun e ah=>∃r:Int,e= .returned r∧-1≤r∧r≤l∧(r < 0∨m.bx.length≤1048576∧m.bH.length≤1048576∧m.bJ.length≤1048576∧m.bM.length≤1048576∧m.bt.length≤1048576)∧Below w w ah:=
 ard m.bx m.bH m.de m.cU m.dH m.bJ m.bM m.bt an ar ak al aA c0 au c2 c3 c4 h0 h1 h2 h3 h4 l km jR w aW
theorem agR (m:cF) (an ar ak al aA cl cN bk bo cn:Option Addr) (c0 au c2 c3 c4 d0 d1 d2 d3 d4:Nat) (h0:m.bx.length≤1048576) (h1:m.bH.length≤1048576) (h2:m.bJ.length≤1048576) (h3:m.bM.length≤1048576) (h4:m.bt.length≤1048576) (w:World) (aW:aJ 7 aM.cells w an m.bx) (aV:aJ 3 aN.cells w ar m.bH) (bm:aJ 1 bU w ak m.bJ) (bl:aJ 3 aK.cells w al m.bM) (bZ:aJ 3 Out.cells w aA m.bt) (ni:aJ 7 aM.cells w cl m.bx) (lK:aJ 3 aN.cells w cN m.bH) (jJ:aJ 1 bU w bk m.bJ) (jK:aJ 3 aK.cells w bo m.bM) (ld:aJ 3 Out.cells w cn m.bt):
 Calls Tryz.prog 82 #[.agg #[.slice an m.bx c0,.slice ar m.bH au,m.de,m.cU,m.dH,.slice ak m.bJ c2,.slice al m.bM c3,.slice aA m.bt c4],.agg #[.slice cl m.bx d0,.slice cN m.bH d1,m.de,m.cU,m.dH,.slice bk m.bJ d2,.slice bo m.bM d3,.slice cn m.bt d4]] w fun e ah=>e= .returned true∧Below w w ah:=
 agQ m.bx m.bH m.de m.cU m.dH m.bJ m.bM m.bt an ar ak al aA c0 au c2 c3 c4 cl cN bk bo cn d0 d1 d2 d3 d4 h0 h1 h2 h3 h4 w aW aV bm bl bZ ni lK jJ jK ld
theorem arx (m:cF) (an ar ak al aA:Option Addr) (c0 au c2 c3 c4:Nat) (h0:m.bx.length≤1048576) (h1:m.bH.length≤1048576) (h2:m.bJ.length≤1048576) (h3:m.bM.length≤1048576) (h4:m.bt.length≤1048576) (w:World) (aW:aJ 7 aM.cells w an m.bx) (aV:aJ 3 aN.cells w ar m.bH) (bm:aJ 1 bU w ak m.bJ) (bl:aJ 3 aK.cells w al m.bM) (bZ:aJ 3 Out.cells w aA m.bt):
 Calls Tryz.prog 81 #[.agg #[.slice an m.bx c0,.slice ar m.bH au,m.de,m.cU,m.dH,.slice ak m.bJ c2,.slice al m.bM c3,.slice aA m.bt c4]] w fun e ah=>∃nk ff fw kM nn,e= .returned (.agg #[.slice nk m.bx m.bx,.slice ff m.bH m.bH,m.de,m.cU,m.dH,.slice fw m.bJ m.bJ,.slice kM m.bM m.bM,.slice nn m.bt m.bt])∧aX w 89 7 aM.cells ah (.slice nk m.bx m.bx) m.bx∧aX w 115 3 aN.cells ah (.slice ff m.bH m.bH) m.bH∧aX w 3 1 bU ah (.slice fw m.bJ m.bJ) m.bJ∧aX w 214 3 aK.cells ah (.slice kM m.bM m.bM) m.bM∧aX w 163 3 Out.cells ah (.slice nn m.bt m.bt) m.bt∧rY [.slice nk m.bx m.bx,.slice ff m.bH m.bH,.slice fw m.bJ m.bJ,.slice kM m.bM m.bM,.slice nn m.bt m.bt]∧Below w w ah:=
 arv m.bx m.bH m.de m.cU m.dH m.bJ m.bM m.bt an ar ak al aA c0 au c2 c3 c4 h0 h1 h2 h3 h4 w aW aV bm bl bZ
open Go.RowKit Go.G9
structure aei where
 de:Int
 cU:Int
 dH:Int
 bJ:List Int
 bM:List aK
theorem amY {yp yq:Nat} (x:aei) (an ar:Option Addr) (c0 au:Nat) (zb:x.bJ.length≤1048576) (oa:x.bM.length≤1048576) (m:Int) (h0:0 < m) (h1:m≤20000000) (w:World)
  (cq:aX yp 3 1 bU w (.slice an x.bJ c0) x.bJ) (cv:aX yq 214 3 aK.cells w (.slice ar x.bM au) x.bM) (ap:rY [.slice an x.bJ c0,.slice ar x.bM au]):
 Calls Tryz.prog 147 #[.agg #[x.de,x.cU,x.dH,.slice an x.bJ c0,.slice ar x.bM au],m] w fun e ah=>e= .returned (.int .i64 (m + (x.bJ.length:Int) + 3 * (x.bM.length:Int)))∧aX yp 3 1 zp ah (.slice an x.bJ c0) (gF (m) 1 x.bJ.length)∧aX yq 214 3 zq ah (.slice ar x.bM au) (gF (m + (x.bJ.length:Int)) 3 x.bM.length)∧oQ w ah [.slice an x.bJ c0,.slice ar x.bM au]:=by
 have Fo:=J (ap.at (i:=0) (j:=1) (by decide) rfl rfl)
 go_in
 have km:=J (fun k ax=>(cq.lt k ax).2);replace cq:=cq.alloc (.cells #[x.de,x.cU,x.dH,.slice an x.bJ c0,.slice ar x.bM au] 41);replace cv:=cv.alloc (.cells #[x.de,x.cU,x.dH,.slice an x.bJ c0,.slice ar x.bM au] 41)
 go_wp2_with fail
 refine (amZ _ an c0 x.bJ zb (m) (by omega) (by omega) _ cq).mono ?_
 rintro e w0 ⟨rfl,se,qN⟩
 have vJ:=Cl qN;replace cv:=cv.pJ vJ (fun k ax u hu e=>by simp only [List.mem_singleton] at hu;subst hu;exact Fo.out k e ax.symm);have X:aC w0 w.heap.size 41 #[x.de,x.cU,x.dH,.slice an x.bJ c0,.slice ar x.bM au]:=(vJ.block _ (by simp) (fun u hu e=>by simp only [List.mem_singleton] at hu;subst hu;have:=km.out _ e;omega)).trans (aC.new w 41 #[x.de,x.cU,x.dH,.slice an x.bJ c0,.slice ar x.bM au])
 have a4:=(aC.cell X 4).trans (show _= some (.slice ar x.bM au) from rfl)
 go_wp2_with fail
 refine (anf _ ar au x.bM oa (m + (x.bJ.length:Int)) (by omega) (by omega) _ cv).mono ?_
 rintro e bg ⟨rfl,wV,fY⟩
 have tS:=Cl fY;replace se:=se.pJ tS (fun k ax u hu e=>by simp only [List.mem_singleton] at hu;subst hu;exact Fo.out k ax e.symm);clear a4
 go_wp2
 go_ret
 exact⟨rfl,se,wV,((oQ.PJ (vs:=[]) (ca w (.cells #[x.de,x.cU,x.dH,.slice an x.bJ c0,.slice ar x.bM au] 41))).trans vJ).trans tS⟩
theorem ana {yp yq DO DP DQ:Nat} (x:cF) (an ar ak al aA:Option Addr) (c0 au c2 c3 c4:Nat) (zb:x.bx.length≤1048576) (oa:x.bH.length≤1048576) (sB:x.bJ.length≤1048576) (rE:x.bM.length≤1048576) (Oy:x.bt.length≤1048576) (m:Int) (h0:0 < m) (h1:m≤9000000) (w:World)
  (cq:aX yp 89 7 aM.cells w (.slice an x.bx c0) x.bx) (cv:aX yq 115 3 aN.cells w (.slice ar x.bH au) x.bH) (bF:aX DO 3 1 bU w (.slice ak x.bJ c2) x.bJ) (bw:aX DP 214 3 aK.cells w (.slice al x.bM c3) x.bM) (cz:aX DQ 163 3 Out.cells w (.slice aA x.bt c4) x.bt) (ap:rY [.slice an x.bx c0,.slice ar x.bH au,.slice ak x.bJ c2,.slice al x.bM c3,.slice aA x.bt c4]):
 Calls Tryz.prog 84 #[.agg #[.slice an x.bx c0,.slice ar x.bH au,x.de,x.cU,x.dH,.slice ak x.bJ c2,.slice al x.bM c3,.slice aA x.bt c4],m] w fun e ah=>e= .returned (.int .i64 (m + 7 * (x.bx.length:Int) + 3 * (x.bH.length:Int) + (x.bJ.length:Int) + 3 * (x.bM.length:Int) + 3 * (x.bt.length:Int)))∧aX yp 89 7 Be ah (.slice an x.bx c0) (gF (m) 7 x.bx.length)∧aX yq 115 3 Bd ah (.slice ar x.bH au) (gF (m + 7 * (x.bx.length:Int)) 3 x.bH.length)∧aX DO 3 1 zp ah (.slice ak x.bJ c2) (gF (m + 7 * (x.bx.length:Int) + 3 * (x.bH.length:Int)) 1 x.bJ.length)∧aX DP 214 3 zq ah (.slice al x.bM c3) (gF (m + 7 * (x.bx.length:Int) + 3 * (x.bH.length:Int) + (x.bJ.length:Int)) 3 x.bM.length)∧aX DQ 163 3 Bc ah (.slice aA x.bt c4) (gF (m + 7 * (x.bx.length:Int) + 3 * (x.bH.length:Int) + (x.bJ.length:Int) + 3 * (x.bM.length:Int)) 3 x.bt.length)∧oQ w ah [.slice an x.bx c0,.slice ar x.bH au,.slice ak x.bJ c2,.slice al x.bM c3,.slice aA x.bt c4]:=by
 have Fo:=J (ap.at (i:=0) (j:=1) (by decide) rfl rfl);have TA:=J (ap.at (i:=0) (j:=2) (by decide) rfl rfl);have TB:=J (ap.at (i:=0) (j:=3) (by decide) rfl rfl);have TC:=J (ap.at (i:=0) (j:=4) (by decide) rfl rfl);have TD:=J (ap.at (i:=1) (j:=2) (by decide) rfl rfl);have TE:=J (ap.at (i:=1) (j:=3) (by decide) rfl rfl);have TF:=J (ap.at (i:=1) (j:=4) (by decide) rfl rfl)
 have agt:=J (ap.at (i:=2) (j:=3) (by decide) rfl rfl);have TG:=J (ap.at (i:=2) (j:=4) (by decide) rfl rfl);have TH:=J (ap.at (i:=3) (j:=4) (by decide) rfl rfl)
 go_in
 have km:=J (fun k ax=>(cq.lt k ax).2);have jR:=J (fun k ax=>(cv.lt k ax).2);have oK:=J (fun k ax=>(bF.lt k ax).2);have ts:=J (fun k ax=>(bw.lt k ax).2);replace cq:=cq.alloc (.cells #[.slice an x.bx c0,.slice ar x.bH au,x.de,x.cU,x.dH,.slice ak x.bJ c2,.slice al x.bM c3,.slice aA x.bt c4] 44)
 replace cv:=cv.alloc (.cells #[.slice an x.bx c0,.slice ar x.bH au,x.de,x.cU,x.dH,.slice ak x.bJ c2,.slice al x.bM c3,.slice aA x.bt c4] 44);replace bF:=bF.alloc (.cells #[.slice an x.bx c0,.slice ar x.bH au,x.de,x.cU,x.dH,.slice ak x.bJ c2,.slice al x.bM c3,.slice aA x.bt c4] 44)
 replace bw:=bw.alloc (.cells #[.slice an x.bx c0,.slice ar x.bH au,x.de,x.cU,x.dH,.slice ak x.bJ c2,.slice al x.bM c3,.slice aA x.bt c4] 44);replace cz:=cz.alloc (.cells #[.slice an x.bx c0,.slice ar x.bH au,x.de,x.cU,x.dH,.slice ak x.bJ c2,.slice al x.bM c3,.slice aA x.bt c4] 44)
 go_wp2_with fail
 refine (ane _ an c0 x.bx zb (m) (by omega) (by omega) _ cq).mono ?_
 rintro e w0 ⟨rfl,se,qN⟩
 have vJ:=Cl qN;replace cv:=cv.pJ vJ (fun k ax u hu e=>by simp only [List.mem_cons,List.not_mem_nil,or_false] at hu;subst hu;exact Fo.out k e ax.symm);replace bF:=bF.pJ vJ (fun k ax u hu e=>by simp only [List.mem_cons,List.not_mem_nil,or_false] at hu;subst hu;exact TA.out k e ax.symm);replace bw:=bw.pJ vJ (fun k ax u hu e=>by simp only [List.mem_cons,List.not_mem_nil,or_false] at hu;subst hu;exact TB.out k e ax.symm)
 replace cz:=cz.pJ vJ (fun k ax u hu e=>by simp only [List.mem_cons,List.not_mem_nil,or_false] at hu;subst hu;exact TC.out k e ax.symm);have X:aC w0 w.heap.size 44 #[.slice an x.bx c0,.slice ar x.bH au,x.de,x.cU,x.dH,.slice ak x.bJ c2,.slice al x.bM c3,.slice aA x.bt c4]:=(vJ.block _ (by simp) (fun u hu e=>by simp only [List.mem_cons,List.not_mem_nil,or_false] at hu;subst hu;have:=km.out _ e;omega)).trans (aC.new w 44 #[.slice an x.bx c0,.slice ar x.bH au,x.de,x.cU,x.dH,.slice ak x.bJ c2,.slice al x.bM c3,.slice aA x.bt c4])
 have a1:=(aC.cell X 1).trans (show _= some (.slice ar x.bH au) from rfl);have a2:=(aC.cell X 2).trans (show _= some (.int .i64 x.de) from rfl);have a3:=(aC.cell X 3).trans (show _= some (.int .i64 x.cU) from rfl);have a4:=(aC.cell X 4).trans (show _= some (.int .i64 x.dH) from rfl);have a5:=(aC.cell X 5).trans (show _= some (.slice ak x.bJ c2) from rfl)
 have a6:=(aC.cell X 6).trans (show _= some (.slice al x.bM c3) from rfl);have a7:=(aC.cell X 7).trans (show _= some (.slice aA x.bt c4) from rfl)
 go_wp2_with fail
 refine (anc _ ar au x.bH oa (m + 7 * (x.bx.length:Int)) (by omega) (by omega) _ cv).mono ?_
 rintro e bg ⟨rfl,wV,fY⟩
 have tS:=Cl fY;replace se:=se.pJ tS (fun k ax u hu e=>by simp only [List.mem_cons,List.not_mem_nil,or_false] at hu;subst hu;exact Fo.out k ax e.symm);replace bF:=bF.pJ tS (fun k ax u hu e=>by simp only [List.mem_cons,List.not_mem_nil,or_false] at hu;subst hu;exact TD.out k e ax.symm);replace bw:=bw.pJ tS (fun k ax u hu e=>by simp only [List.mem_cons,List.not_mem_nil,or_false] at hu;subst hu;exact TE.out k e ax.symm)
 replace cz:=cz.pJ tS (fun k ax u hu e=>by simp only [List.mem_cons,List.not_mem_nil,or_false] at hu;subst hu;exact TF.out k e ax.symm);replace X:=(tS.block _ (aC.lt X) (fun u hu e=>by simp only [List.mem_cons,List.not_mem_nil,or_false] at hu;subst hu;have:=jR.out _ e;omega)).trans X;clear a1 a2 a3 a4 a5 a6 a7;have a2:=(aC.cell X 2).trans (show _= some (.int .i64 x.de) from rfl)
 have a3:=(aC.cell X 3).trans (show _= some (.int .i64 x.cU) from rfl);have a4:=(aC.cell X 4).trans (show _= some (.int .i64 x.dH) from rfl);have a5:=(aC.cell X 5).trans (show _= some (.slice ak x.bJ c2) from rfl);have a6:=(aC.cell X 6).trans (show _= some (.slice al x.bM c3) from rfl);have a7:=(aC.cell X 7).trans (show _= some (.slice aA x.bt c4) from rfl)
 go_wp2_with fail
 refine (amY ⟨x.de,x.cU,x.dH,x.bJ,x.bM⟩ ak al c2 c3 sB rE (m + 7 * (x.bx.length:Int) + 3 * (x.bH.length:Int)) (by omega) (by omega) _ bF bw (afK agt.out)).mono ?_
 rintro e aQ ⟨rfl,M2,EC,tT⟩
 replace se:=se.pJ tT (fun k ax u hu e=>by simp only [List.mem_cons,List.not_mem_nil,or_false] at hu;rcases hu with rfl | rfl <;> first | (exact TA.out k ax e.symm) | (exact TB.out k ax e.symm));replace wV:=wV.pJ tT (fun k ax u hu e=>by simp only [List.mem_cons,List.not_mem_nil,or_false] at hu;rcases hu with rfl | rfl <;> first | (exact TD.out k ax e.symm) | (exact TE.out k ax e.symm))
 replace cz:=cz.pJ tT (fun k ax u hu e=>by simp only [List.mem_cons,List.not_mem_nil,or_false] at hu;rcases hu with rfl | rfl <;> first | (exact TG.out k e ax.symm) | (exact TH.out k e ax.symm));replace X:=(tT.block _ (aC.lt X) (fun u hu e=>by simp only [List.mem_cons,List.not_mem_nil,or_false] at hu;rcases hu with rfl | rfl <;> first | (have:=oK.out _ e;omega) | (have:=ts.out _ e;omega))).trans X
 clear a2 a3 a4 a5 a6 a7;have a7:=(aC.cell X 7).trans (show _= some (.slice aA x.bt c4) from rfl)
 go_wp2_with fail
 refine (anb _ aA c4 x.bt Oy (m + 7 * (x.bx.length:Int) + 3 * (x.bH.length:Int) + (x.bJ.length:Int) + 3 * (x.bM.length:Int)) (by omega) (by omega) _ cz).mono ?_
 rintro e bA ⟨rfl,Mg,sy⟩
 have Eb:=Cl sy;replace se:=se.pJ Eb (fun k ax u hu e=>by simp only [List.mem_cons,List.not_mem_nil,or_false] at hu;subst hu;exact TC.out k ax e.symm);replace wV:=wV.pJ Eb (fun k ax u hu e=>by simp only [List.mem_cons,List.not_mem_nil,or_false] at hu;subst hu;exact TF.out k ax e.symm);replace M2:=M2.pJ Eb (fun k ax u hu e=>by simp only [List.mem_cons,List.not_mem_nil,or_false] at hu;subst hu;exact TG.out k ax e.symm)
 replace EC:=EC.pJ Eb (fun k ax u hu e=>by simp only [List.mem_cons,List.not_mem_nil,or_false] at hu;subst hu;exact TH.out k ax e.symm);clear a7
 go_wp2
 go_ret
 exact⟨rfl,se,wV,M2,EC,Mg,((((oQ.PJ (vs:=[]) (ca w (.cells #[.slice an x.bx c0,.slice ar x.bH au,x.de,x.cU,x.dH,.slice ak x.bJ c2,.slice al x.bM c3,.slice aA x.bt c4] 44))).trans vJ).trans tS).trans tT).trans Eb⟩
open Go.RowKit Go.G9
def hD (os:List Out) (n:Int):Nat→Int×Int
 | 0=>(0,0)
 | k + 1=>match os[k]? with | some o=>if o.mover == n then ((hD os n k).1 + 1,(hD os n k).2 + (if o.hz then 1 else 0)) else hD os n k | none=>hD os n k
theorem PE (os:List Out) (n:Int):∀k,0≤(hD os n k).1∧(hD os n k).1≤k∧0≤(hD os n k).2∧(hD os n k).2≤k
 | 0=>by simp [hD]
 | k + 1=>by
  have:=PE os n k
  unfold hD
  split
  ·split
   ·dsimp only;split <;> omega
   ·omega
  ·omega
def wm (m:cF) (n:Int):Value:=if pL m && eH n then .tuple #[.int .i64 (hD m.bt n m.bt.length).1,.int .i64 (hD m.bt n m.bt.length).2,.bool true] else .tuple #[.int .i64 0,.int .i64 0,.bool false]
theorem AK (m:cF) (an ar ak al aA:Option Addr) (c0 au c2 c3 c4:Nat) (h0:m.bx.length≤1048576) (h1:m.bH.length≤1048576) (h2:m.bJ.length≤1048576) (h3:m.bM.length≤1048576) (h4:m.bt.length≤1048576) (v:Bool) (az:pL m= v) (w:World) (aW:aJ 7 aM.cells w an m.bx) (aV:aJ 3 aN.cells w ar m.bH) (bm:aJ 1 bU w ak m.bJ) (bl:aJ 3 aK.cells w al m.bM) (bZ:aJ 3 Out.cells w aA m.bt) (dP:m.bx.length≤c0) (eh:m.bH.length≤au) (cm:m.bJ.length≤c2) (dS:m.bM.length≤c3) (gD:m.bt.length≤c4):
 Calls Tryz.prog 63 #[.agg #[.slice an m.bx c0,.slice ar m.bH au,m.de,m.cU,m.dH,.slice ak m.bJ c2,.slice al m.bM c3,.slice aA m.bt c4]] w fun e ah=>e= .returned v∧Below w w ah:=
 akX m.bx m.bH m.de m.cU m.dH m.bJ m.bM m.bt an ar ak al aA c0 au c2 c3 c4 h0 h1 h2 h3 h4 v az w aW aV bm bl bZ dP cm
theorem AP (m:cF) (an ar ak al aA:Option Addr) (c0 au c2 c3 c4:Nat) (h0:m.bx.length≤1048576) (h1:m.bH.length≤1048576) (h2:m.bJ.length≤1048576) (h3:m.bM.length≤1048576) (h4:m.bt.length≤1048576) (v:Bool) (az:pL m= v) (w:World) (aW:aJ 7 aM.cells w an m.bx) (aV:aJ 3 aN.cells w ar m.bH) (bm:aJ 1 bU w ak m.bJ) (bl:aJ 3 aK.cells w al m.bM) (bZ:aJ 3 Out.cells w aA m.bt) (dP:m.bx.length≤c0) (eh:m.bH.length≤au) (cm:m.bJ.length≤c2) (dS:m.bM.length≤c3) (gD:m.bt.length≤c4):
 Calls Tryz.prog 107 #[.agg #[.slice an m.bx c0,.slice ar m.bH au,m.de,m.cU,m.dH,.slice ak m.bJ c2,.slice al m.bM c3,.slice aA m.bt c4]] w fun e ah=>e= .returned v∧Below w w ah:=
 apU m.bx m.bH m.de m.cU m.dH m.bJ m.bM m.bt an ar ak al aA c0 au c2 c3 c4 h0 h1 h2 h3 h4 v az w aW aV bm bl bZ dP cm
open Go.RowKit Go.G9
theorem XW {os:List Out} {n:Int} {k:Nat} {o:Out} (ay:os[k]? =some o) (h:(o.mover == n)= false):hD os n (k + 1)= hD os n k:=by simp [hD,ay,h]
theorem XX {os:List Out} {n:Int} {k:Nat} {o:Out} (ay:os[k]? =some o) (h:(o.mover == n)= true):hD os n (k + 1)= ((hD os n k).1 + 1,(hD os n k).2 + (if o.hz then 1 else 0)):=by simp [hD,ay,h]
theorem abA {p:Prop} (h:p:=by
 exact bodyPost_ret (v:= .tuple #[(0:Int),(0:Int),false]) (by simp [results,Tryz.results177,go_sem]) rfl ⟨rfl,(ai I aw)⟩):p:=h
theorem abi {p:Prop} (h:p:=by
 go_wp2
 go_roundw
 case rel=>exact⟨k + 1,by omega,by go_num,by rw [dW.out],by rw [dW.out];simp,ai vY (ca _ _),ai aE (ca _ _)⟩
 case measure=>simp [intOf];omega):p:=h
theorem aln (m:cF) (an ar ak al aA:Option Addr) (c0 au c2 c3 c4:Nat) (h0:m.bx.length≤1048576) (h1:m.bH.length≤1048576) (h2:m.bJ.length≤1048576) (h3:m.bM.length≤1048576) (h4:m.bt.length≤1048576) (n:Int) (v:Value) (az:wm m n= v) (w:World) (aW:aJ 7 aM.cells w an m.bx) (aV:aJ 3 aN.cells w ar m.bH) (bm:aJ 1 bU w ak m.bJ) (bl:aJ 3 aK.cells w al m.bM) (bZ:aJ 3 Out.cells w aA m.bt) (dP:m.bx.length≤c0) (eh:m.bH.length≤au) (cm:m.bJ.length≤c2) (dS:m.bM.length≤c3) (gD:m.bt.length≤c4):
 Calls Tryz.prog 177 #[.agg #[.slice an m.bx c0,.slice ar m.bH au,m.de,m.cU,m.dH,.slice ak m.bJ c2,.slice al m.bM c3,.slice aA m.bt c4],n] w fun e ah=>e= .returned (v)∧Below w w ah:=by
 subst az
 cases aE:pL m
 ·have bD:=J aE
  go_in
  go_upto_region 1 with fail
  refine cR fun aH av aY=>?_
  replace aW:=aW.U av;replace aV:=aV.U av;replace bm:=bm.U av;replace bl:=bl.U av;replace bZ:=bZ.U av;have I:=av;have cE:=aY.aI
  go_wp2_with fail
  refine (AK m an ar ak al aA c0 au c2 c3 c4 h0 h1 h2 h3 h4 _ bD.out _ (aW.U aw) (aV.U aw) (bm.U aw) (bl.U aw) (bZ.U aw) dP eh cm dS gD).mono ?_
  rintro e aQ ⟨rfl,aP⟩
  have ao:=be aH aP;replace I:=ai I ao;replace aW:=aW.U ao;replace aV:=aV.U ao;replace bm:=bm.U ao;replace bl:=bl.U ao;replace bZ:=bZ.U ao;replace aY:=aY.to ao;clear cE;have cE:=aY.aI
  go_wp2
  simp only [wm,bD.out]
  exact abA
 have bD:=J aE;clear aE
 cases bd:eH n
 ·have gp:=J bd;clear bd
  go_in
  go_upto_region 1 with fail
  refine cR fun aH av aY=>?_
  replace aW:=aW.U av;replace aV:=aV.U av;replace bm:=bm.U av;replace bl:=bl.U av;replace bZ:=bZ.U av;have I:=av;have cE:=aY.aI
  go_wp2_with fail
  refine (AK m an ar ak al aA c0 au c2 c3 c4 h0 h1 h2 h3 h4 _ bD.out _ (aW.U aw) (aV.U aw) (bm.U aw) (bl.U aw) (bZ.U aw) dP eh cm dS gD).mono ?_
  rintro e aQ ⟨rfl,aP⟩
  have ao:=be aH aP;replace I:=ai I ao;replace aW:=aW.U ao;replace aV:=aV.U ao;replace bm:=bm.U ao;replace bl:=bl.U ao;replace bZ:=bZ.U ao;replace aY:=aY.to ao;clear cE;have cE:=aY.aI
  go_wp2_with fail
  refine (iN n _ gp.out _).mono ?_
  rintro e w0 ⟨rfl,h0⟩
  rw [h0]
  clear h0 w0
  go_wp2
  simp only [wm,bD.out,gp.out]
  exact abA
 have gp:=J bd;clear bd
 go_in
 go_upto_region 1 with fail
 refine cR fun aH av aY=>?_
 replace aW:=aW.U av;replace aV:=aV.U av;replace bm:=bm.U av;replace bl:=bl.U av;replace bZ:=bZ.U av;have I:=av;have cE:=aY.aI
 go_wp2_with fail
 refine (AK m an ar ak al aA c0 au c2 c3 c4 h0 h1 h2 h3 h4 _ bD.out _ (aW.U aw) (aV.U aw) (bm.U aw) (bl.U aw) (bZ.U aw) dP eh cm dS gD).mono ?_
 rintro e aQ ⟨rfl,aP⟩
 have ao:=be aH aP;replace I:=ai I ao;replace aW:=aW.U ao;replace aV:=aV.U ao;replace bm:=bm.U ao;replace bl:=bl.U ao;replace bZ:=bZ.U ao;replace aY:=aY.to ao;clear cE;have cE:=aY.aI
 go_wp2_with fail
 refine (iN n _ gp.out _).mono ?_
 rintro e w0 ⟨rfl,h0⟩
 rw [h0]
 clear h0 w0
 go_wp2
 clear cE
 go_loopw [7,8,22] (fun a b i wr=>∃k:Nat,k≤m.bt.length∧i= .int .i64 k∧a= .int .i64 (hD m.bt n k).1∧b= .int .i64 (hD m.bt n k).2∧Below w w wr∧Below aQ aQ wr) (fun _ _ i _=>m.bt.length - (intOf i).toNat)
 case atStart=>exact⟨0,Nat.zero_le _,rfl,rfl,rfl,I,Below.refl _ _⟩
 case round=>
  obtain⟨k,ax,rfl,rfl,rfl,vY,aE⟩:=hrel
  by_cases bn:k < m.bt.length
  ·obtain⟨ey,gN,x,rfl,dU,ay,bq⟩:=bZ.at_ aE bn
   obtain⟨ha,dZ,jn⟩:=x
   have cy:=bq 0 _ rfl;have dD:=bq 1 _ rfl;have di:=bq 2 _ rfl
   simp only [Nat.add_zero] at cy
   have g0:=cy (aB.self _);have g1:=dD (aB.self _);have g2:=di (aB.self _)
   simp only [aB.self] at g0
   simp only [aB.self] at g1
   simp only [aB.self] at g2
   have cg:=J ay;clear ay bq cy dD di;have rB:=PE m.bt n k
   cases hm:(dZ == n)
   ·have eg:(dZ != n)= true:=by simp [bne,hm]
    have aZ:=XW cg.out hm;have dW:=J aZ;clear aZ
    go_wp2
    go_roundw
    case rel=>exact⟨k + 1,by omega,by go_num,by rw [dW.out],by rw [dW.out],ai vY (ca _ _),ai aE (ca _ _)⟩
    case measure=>simp [intOf];omega
   ·have eg:(dZ != n)= false:=by simp [bne,hm]
    have aZ:=XX cg.out hm;have dW:=J aZ;clear aZ cg
    cases jn
    ·exact abi
    ·exact abi
  ·obtain rfl:k= m.bt.length:=by omega
   go_wp2
   simp only [wm,bD.out,gp.out]
   exact bodyPost_ret (v:= .tuple #[.int .i64 (hD m.bt n m.bt.length).1,.int .i64 (hD m.bt n m.bt.length).2,true]) (by simp [results,Tryz.results177,go_sem]) rfl ⟨rfl,vY⟩
theorem abC {p:Prop} (h:p:=by
 exact bodyPost_ret (v:= .tuple #[(0:Int),(0:Int),false]) (by simp [results,Tryz.results196,go_sem]) rfl ⟨rfl,(ai I aw)⟩):p:=h
theorem abH {p:Prop} (h:p:=by
 go_wp2
 go_round
 case rel=>exact⟨k + 1,by omega,by go_num,by rw [dW.out],by rw [dW.out];simp⟩
 case measure=>simp [intOf];omega):p:=h
theorem aqg (m:cF) (an ar ak al aA:Option Addr) (c0 au c2 c3 c4:Nat) (h0:m.bx.length≤1048576) (h1:m.bH.length≤1048576) (h2:m.bJ.length≤1048576) (h3:m.bM.length≤1048576) (h4:m.bt.length≤1048576) (n:Int) (v:Value) (az:wm m n= v) (w:World) (aW:aJ 7 aM.cells w an m.bx) (aV:aJ 3 aN.cells w ar m.bH) (bm:aJ 1 bU w ak m.bJ) (bl:aJ 3 aK.cells w al m.bM) (bZ:aJ 3 Out.cells w aA m.bt) (dP:m.bx.length≤c0) (eh:m.bH.length≤au) (cm:m.bJ.length≤c2) (dS:m.bM.length≤c3) (gD:m.bt.length≤c4):
 Calls Tryz.prog 196 #[.agg #[.slice an m.bx c0,.slice ar m.bH au,m.de,m.cU,m.dH,.slice ak m.bJ c2,.slice al m.bM c3,.slice aA m.bt c4],n] w fun e ah=>e= .returned (v)∧Below w w ah:=by
 subst az
 cases aE:pL m
 ·have bD:=J aE
  go_in
  go_upto_region 1 with fail
  refine cR fun aH av aY=>?_
  replace aW:=aW.U av;replace aV:=aV.U av;replace bm:=bm.U av;replace bl:=bl.U av;replace bZ:=bZ.U av;have I:=av;have cE:=aY.aI
  go_wp2_with fail
  refine (AP m an ar ak al aA c0 au c2 c3 c4 h0 h1 h2 h3 h4 _ bD.out _ (aW.U aw) (aV.U aw) (bm.U aw) (bl.U aw) (bZ.U aw) dP eh cm dS gD).mono ?_
  rintro e aQ ⟨rfl,aP⟩
  have ao:=be aH aP;replace I:=ai I ao;replace aW:=aW.U ao;replace aV:=aV.U ao;replace bm:=bm.U ao;replace bl:=bl.U ao;replace bZ:=bZ.U ao;replace aY:=aY.to ao;clear cE;have cE:=aY.aI
  go_wp2
  simp only [wm,bD.out]
  exact abC
 have bD:=J aE;clear aE
 cases bd:eH n
 ·have gp:=J bd;clear bd
  go_in
  go_upto_region 1 with fail
  refine cR fun aH av aY=>?_
  replace aW:=aW.U av;replace aV:=aV.U av;replace bm:=bm.U av;replace bl:=bl.U av;replace bZ:=bZ.U av;have I:=av;have cE:=aY.aI
  go_wp2_with fail
  refine (AP m an ar ak al aA c0 au c2 c3 c4 h0 h1 h2 h3 h4 _ bD.out _ (aW.U aw) (aV.U aw) (bm.U aw) (bl.U aw) (bZ.U aw) dP eh cm dS gD).mono ?_
  rintro e aQ ⟨rfl,aP⟩
  have ao:=be aH aP;replace I:=ai I ao;replace aW:=aW.U ao;replace aV:=aV.U ao;replace bm:=bm.U ao;replace bl:=bl.U ao;replace bZ:=bZ.U ao;replace aY:=aY.to ao;clear cE;have cE:=aY.aI
  go_wp2_with fail
  refine (iA n _ gp.out _).mono ?_
  rintro e w0 ⟨rfl,h0⟩
  rw [h0]
  clear h0 w0
  go_wp2
  simp only [wm,bD.out,gp.out]
  exact abC
 have gp:=J bd;clear bd
 go_in
 go_upto_region 1 with fail
 refine cR fun aH av aY=>?_
 replace aW:=aW.U av;replace aV:=aV.U av;replace bm:=bm.U av;replace bl:=bl.U av;replace bZ:=bZ.U av;have I:=av;have cE:=aY.aI
 go_wp2_with fail
 refine (AP m an ar ak al aA c0 au c2 c3 c4 h0 h1 h2 h3 h4 _ bD.out _ (aW.U aw) (aV.U aw) (bm.U aw) (bl.U aw) (bZ.U aw) dP eh cm dS gD).mono ?_
 rintro e aQ ⟨rfl,aP⟩
 have ao:=be aH aP;replace I:=ai I ao;replace aW:=aW.U ao;replace aV:=aV.U ao;replace bm:=bm.U ao;replace bl:=bl.U ao;replace bZ:=bZ.U ao;replace aY:=aY.to ao;clear cE;have cE:=aY.aI
 go_wp2_with fail
 refine (iA n _ gp.out _).mono ?_
 rintro e w0 ⟨rfl,h0⟩
 rw [h0]
 clear h0 w0
 go_wp2
 go_loop [7,8,9] (fun a b i=>∃k:Nat,k≤m.bt.length∧i= .int .i64 k∧a= .int .i64 (hD m.bt n k).1∧b= .int .i64 (hD m.bt n k).2) (fun _ _ i=>m.bt.length - (intOf i).toNat)
 case atStart=>exact⟨0,Nat.zero_le _,rfl,rfl,rfl⟩
 case round=>
  obtain⟨k,ax,rfl,rfl,rfl⟩:=hrel
  by_cases bn:k < m.bt.length
  ·obtain⟨ey,gN,x,rfl,dU,ay,bq⟩:=bZ.at_ (Below.refl _ _) bn
   obtain⟨ha,dZ,jn⟩:=x
   have cy:=bq 0 _ rfl;have dD:=bq 1 _ rfl;have di:=bq 2 _ rfl
   simp only [Nat.add_zero] at cy
   have g0:=cy (aB.self _);have g1:=dD (aB.self _);have g2:=di (aB.self _)
   simp only [aB.self] at g0
   simp only [aB.self] at g1
   simp only [aB.self] at g2
   have cg:=J ay;clear ay bq cy dD di;have rB:=PE m.bt n k
   cases hm:(dZ == n)
   ·have aZ:=XW cg.out hm
    have dW:=J aZ;clear aZ
    go_wp2
    go_round
    case rel=>exact⟨k + 1,by omega,by go_num,by rw [dW.out],by rw [dW.out]⟩
    case measure=>simp [intOf];omega
   ·have aZ:=XX cg.out hm
    have dW:=J aZ;clear aZ cg
    cases jn
    ·exact abH
    ·exact abH
  ·obtain rfl:k= m.bt.length:=by omega
   go_wp2
   simp only [wm,bD.out,gp.out]
   exact bodyPost_ret (v:= .tuple #[.int .i64 (hD m.bt n m.bt.length).1,.int .i64 (hD m.bt n m.bt.length).2,true]) (by simp [results,Tryz.results196,go_sem]) rfl ⟨rfl,(ai I aw)⟩
end Go.Proofs.YtlaaemmmbodaaaaGreatDoor
