/- Parts. -/
import Derived.Test.YtlaaemmmbodaaaaGreatDoorEx3
import Derived.Laws.NewBlocks
import Derived.Lib.AppendZerosOnto
import Derived.Lib.Overlaps
set_option maxHeartbeats 16000000
set_option maxRecDepth 100000
set_option linter.unnecessarySimpa false
set_option linter.unusedSimpArgs false
set_option linter.unusedVariables false
namespace Go.Proofs.YtlaaemmmbodaaaaGreatDoor
open Go.RowKit Go.G9
theorem XM {os:List Out} {n:Int} {k:Nat} {o:Out} (ay:os[k]? =some o) (h:(o.mover == n)= false):hE os n (k + 1)= hE os n k:=by simp [hE,ay,h]
theorem XN {os:List Out} {n:Int} {k:Nat} {o:Out} (ay:os[k]? =some o) (h:(o.mover == n)= true):hE os n (k + 1)= ((hE os n k).1 + 1,(hE os n k).2 + (if o.hB then 1 else 0)):=by simp [hE,ay,h]
theorem abj {p:Prop} (h:p:=by
 exact bodyPost_ret (v:= .tuple #[(0:Int),(0:Int),false]) (by simp [results,Tryz.results177,go_sem]) rfl ⟨rfl,(ah I av)⟩):p:=h
theorem aaR {p:Prop} (h:p:=by
 go_wp2
 go_roundw
 case rel=>exact⟨k + 1,by omega,by go_num,by rw [eA.out],by rw [eA.out];simp,ah wb (bZ _ _),ah aB (bZ _ _)⟩
 case measure=>simp [intOf];omega):p:=h
theorem alq (m:cz) (an ar aj ak aA:Option Addr) (c0 c1 c2 c3 c4:Nat) (h0:m.br.length≤1048576) (h1:m.bD.length≤1048576) (h2:m.bE.length≤1048576) (h3:m.bK.length≤1048576) (h4:m.bt.length≤1048576) (n:Int) (v:Value) (aw:wu m n= v) (w:World) (aU:aH 7 aJ.cells w an m.br) (aT:aH 3 aL.cells w ar m.bD) (bj:aH 1 bR w aj m.bE) (bh:aH 3 aI.cells w ak m.bK) (bU:aH 3 Out.cells w aA m.bt) (dY:m.br.length≤c0) (eB:m.bD.length≤c1) (cp:m.bE.length≤c2) (ed:m.bK.length≤c3) (hp:m.bt.length≤c4):
 Calls Tryz.prog 177 #[.agg #[.slice an m.br c0,.slice ar m.bD c1,m.cZ,m.cQ,m.dH,.slice aj m.bE c2,.slice ak m.bK c3,.slice aA m.bt c4],n] w fun e ag=>e= .returned (v)∧Below w w ag:=by
 subst aw
 cases aB:pL m
 ·have bC:=J aB
  go_in
  go_upto_region 1 with fail
  refine cR fun aF au aW=>?_
  replace aU:=aU.below au;replace aT:=aT.below au;replace bj:=bj.below au;replace bh:=bh.below au;replace bU:=bU.below au;have I:=au;have cL:=aW.aG
  go_wp2_with fail
  refine (AP m an ar aj ak aA c0 c1 c2 c3 c4 h0 h1 h2 h3 h4 _ bC.out _ (aU.below av) (aT.below av) (bj.below av) (bh.below av) (bU.below av) dY eB cp ed hp).mono ?_
  rintro e aM ⟨rfl,aN⟩
  have ao:=be aF aN;replace I:=ah I ao;replace aU:=aU.below ao;replace aT:=aT.below ao;replace bj:=bj.below ao;replace bh:=bh.below ao;replace bU:=bU.below ao;replace aW:=aW.to ao;clear cL;have cL:=aW.aG
  go_wp2
  simp only [wu,bC.out]
  exact abj
 have bC:=J aB;clear aB
 cases aY:eG n
 ·have gu:=J aY;clear aY
  go_in
  go_upto_region 1 with fail
  refine cR fun aF au aW=>?_
  replace aU:=aU.below au;replace aT:=aT.below au;replace bj:=bj.below au;replace bh:=bh.below au;replace bU:=bU.below au;have I:=au;have cL:=aW.aG
  go_wp2_with fail
  refine (AP m an ar aj ak aA c0 c1 c2 c3 c4 h0 h1 h2 h3 h4 _ bC.out _ (aU.below av) (aT.below av) (bj.below av) (bh.below av) (bU.below av) dY eB cp ed hp).mono ?_
  rintro e aM ⟨rfl,aN⟩
  have ao:=be aF aN;replace I:=ah I ao;replace aU:=aU.below ao;replace aT:=aT.below ao;replace bj:=bj.below ao;replace bh:=bh.below ao;replace bU:=bU.below ao;replace aW:=aW.to ao;clear cL;have cL:=aW.aG
  go_wp2_with fail
  refine (iT n _ gu.out _).mono ?_
  rintro e w0 ⟨rfl,h0⟩
  rw [h0]
  clear h0 w0
  go_wp2
  simp only [wu,bC.out,gu.out]
  exact abj
 have gu:=J aY;clear aY
 go_in
 go_upto_region 1 with fail
 refine cR fun aF au aW=>?_
 replace aU:=aU.below au;replace aT:=aT.below au;replace bj:=bj.below au;replace bh:=bh.below au;replace bU:=bU.below au;have I:=au;have cL:=aW.aG
 go_wp2_with fail
 refine (AP m an ar aj ak aA c0 c1 c2 c3 c4 h0 h1 h2 h3 h4 _ bC.out _ (aU.below av) (aT.below av) (bj.below av) (bh.below av) (bU.below av) dY eB cp ed hp).mono ?_
 rintro e aM ⟨rfl,aN⟩
 have ao:=be aF aN;replace I:=ah I ao;replace aU:=aU.below ao;replace aT:=aT.below ao;replace bj:=bj.below ao;replace bh:=bh.below ao;replace bU:=bU.below ao;replace aW:=aW.to ao;clear cL;have cL:=aW.aG
 go_wp2_with fail
 refine (iT n _ gu.out _).mono ?_
 rintro e w0 ⟨rfl,h0⟩
 rw [h0]
 clear h0 w0
 go_wp2
 clear cL
 go_loopw [7,8,22] (fun a b i wr=>∃k:Nat,k≤m.bt.length∧i= .int .i64 k∧a= .int .i64 (hE m.bt n k).1∧b= .int .i64 (hE m.bt n k).2∧Below w w wr∧Below aM aM wr) (fun _ _ i _=>m.bt.length - (intOf i).toNat)
 case atStart=>exact⟨0,Nat.zero_le _,rfl,rfl,rfl,I,Below.refl _ _⟩
 case round=>
  obtain⟨k,az,rfl,rfl,rfl,wb,aB⟩:=hrel
  by_cases bl:k < m.bt.length
  ·obtain⟨gJ,gL,x,rfl,dU,ay,bk⟩:=bU.at_ aB bl
   obtain⟨hb,dW,jv⟩:=x
   have cu:=bk 0 _ rfl;have dI:=bk 1 _ rfl;have dj:=bk 2 _ rfl
   simp only [Nat.add_zero] at cu
   have g0:=cu (ax.self _);have g1:=dI (ax.self _);have g2:=dj (ax.self _)
   simp only [ax.self] at g0
   simp only [ax.self] at g1
   simp only [ax.self] at g2
   have cb:=J ay;clear ay bk cu dI dj;have rH:=Ps m.bt n k
   cases hm:(dW == n)
   ·have eP:(dW != n)= true:=by simp [bne,hm]
    have aX:=XM cb.out hm;have eA:=J aX;clear aX
    go_wp2
    go_roundw
    case rel=>exact⟨k + 1,by omega,by go_num,by rw [eA.out],by rw [eA.out],ah wb (bZ _ _),ah aB (bZ _ _)⟩
    case measure=>simp [intOf];omega
   ·have eP:(dW != n)= false:=by simp [bne,hm]
    have aX:=XN cb.out hm;have eA:=J aX;clear aX cb
    cases jv
    ·exact aaR
    ·exact aaR
  ·obtain rfl:k= m.bt.length:=by omega
   go_wp2
   simp only [wu,bC.out,gu.out]
   exact bodyPost_ret (v:= .tuple #[.int .i64 (hE m.bt n m.bt.length).1,.int .i64 (hE m.bt n m.bt.length).2,true]) (by simp [results,Tryz.results177,go_sem]) rfl ⟨rfl,wb⟩
theorem abk {p:Prop} (h:p:=by
 exact bodyPost_ret (v:= .tuple #[(0:Int),(0:Int),false]) (by simp [results,Tryz.results196,go_sem]) rfl ⟨rfl,(ah I av)⟩):p:=h
theorem abq {p:Prop} (h:p:=by
 go_wp2
 go_round
 case rel=>exact⟨k + 1,by omega,by go_num,by rw [eA.out],by rw [eA.out];simp⟩
 case measure=>simp [intOf];omega):p:=h
theorem apV (m:cz) (an ar aj ak aA:Option Addr) (c0 c1 c2 c3 c4:Nat) (h0:m.br.length≤1048576) (h1:m.bD.length≤1048576) (h2:m.bE.length≤1048576) (h3:m.bK.length≤1048576) (h4:m.bt.length≤1048576) (n:Int) (v:Value) (aw:wu m n= v) (w:World) (aU:aH 7 aJ.cells w an m.br) (aT:aH 3 aL.cells w ar m.bD) (bj:aH 1 bR w aj m.bE) (bh:aH 3 aI.cells w ak m.bK) (bU:aH 3 Out.cells w aA m.bt) (dY:m.br.length≤c0) (eB:m.bD.length≤c1) (cp:m.bE.length≤c2) (ed:m.bK.length≤c3) (hp:m.bt.length≤c4):
 Calls Tryz.prog 196 #[.agg #[.slice an m.br c0,.slice ar m.bD c1,m.cZ,m.cQ,m.dH,.slice aj m.bE c2,.slice ak m.bK c3,.slice aA m.bt c4],n] w fun e ag=>e= .returned (v)∧Below w w ag:=by
 subst aw
 cases aB:pL m
 ·have bC:=J aB
  go_in
  go_upto_region 1 with fail
  refine cR fun aF au aW=>?_
  replace aU:=aU.below au;replace aT:=aT.below au;replace bj:=bj.below au;replace bh:=bh.below au;replace bU:=bU.below au;have I:=au;have cL:=aW.aG
  go_wp2_with fail
  refine (AW m an ar aj ak aA c0 c1 c2 c3 c4 h0 h1 h2 h3 h4 _ bC.out _ (aU.below av) (aT.below av) (bj.below av) (bh.below av) (bU.below av) dY eB cp ed hp).mono ?_
  rintro e aM ⟨rfl,aN⟩
  have ao:=be aF aN;replace I:=ah I ao;replace aU:=aU.below ao;replace aT:=aT.below ao;replace bj:=bj.below ao;replace bh:=bh.below ao;replace bU:=bU.below ao;replace aW:=aW.to ao;clear cL;have cL:=aW.aG
  go_wp2
  simp only [wu,bC.out]
  exact abk
 have bC:=J aB;clear aB
 cases aY:eG n
 ·have gu:=J aY;clear aY
  go_in
  go_upto_region 1 with fail
  refine cR fun aF au aW=>?_
  replace aU:=aU.below au;replace aT:=aT.below au;replace bj:=bj.below au;replace bh:=bh.below au;replace bU:=bU.below au;have I:=au;have cL:=aW.aG
  go_wp2_with fail
  refine (AW m an ar aj ak aA c0 c1 c2 c3 c4 h0 h1 h2 h3 h4 _ bC.out _ (aU.below av) (aT.below av) (bj.below av) (bh.below av) (bU.below av) dY eB cp ed hp).mono ?_
  rintro e aM ⟨rfl,aN⟩
  have ao:=be aF aN;replace I:=ah I ao;replace aU:=aU.below ao;replace aT:=aT.below ao;replace bj:=bj.below ao;replace bh:=bh.below ao;replace bU:=bU.below ao;replace aW:=aW.to ao;clear cL;have cL:=aW.aG
  go_wp2_with fail
  refine (iG n _ gu.out _).mono ?_
  rintro e w0 ⟨rfl,h0⟩
  rw [h0]
  clear h0 w0
  go_wp2
  simp only [wu,bC.out,gu.out]
  exact abk
 have gu:=J aY;clear aY
 go_in
 go_upto_region 1 with fail
 refine cR fun aF au aW=>?_
 replace aU:=aU.below au;replace aT:=aT.below au;replace bj:=bj.below au;replace bh:=bh.below au;replace bU:=bU.below au;have I:=au;have cL:=aW.aG
 go_wp2_with fail
 refine (AW m an ar aj ak aA c0 c1 c2 c3 c4 h0 h1 h2 h3 h4 _ bC.out _ (aU.below av) (aT.below av) (bj.below av) (bh.below av) (bU.below av) dY eB cp ed hp).mono ?_
 rintro e aM ⟨rfl,aN⟩
 have ao:=be aF aN;replace I:=ah I ao;replace aU:=aU.below ao;replace aT:=aT.below ao;replace bj:=bj.below ao;replace bh:=bh.below ao;replace bU:=bU.below ao;replace aW:=aW.to ao;clear cL;have cL:=aW.aG
 go_wp2_with fail
 refine (iG n _ gu.out _).mono ?_
 rintro e w0 ⟨rfl,h0⟩
 rw [h0]
 clear h0 w0
 go_wp2
 go_loop [7,8,9] (fun a b i=>∃k:Nat,k≤m.bt.length∧i= .int .i64 k∧a= .int .i64 (hE m.bt n k).1∧b= .int .i64 (hE m.bt n k).2) (fun _ _ i=>m.bt.length - (intOf i).toNat)
 case atStart=>exact⟨0,Nat.zero_le _,rfl,rfl,rfl⟩
 case round=>
  obtain⟨k,az,rfl,rfl,rfl⟩:=hrel
  by_cases bl:k < m.bt.length
  ·obtain⟨gJ,gL,x,rfl,dU,ay,bk⟩:=bU.at_ (Below.refl _ _) bl
   obtain⟨hb,dW,jv⟩:=x
   have cu:=bk 0 _ rfl;have dI:=bk 1 _ rfl;have dj:=bk 2 _ rfl
   simp only [Nat.add_zero] at cu
   have g0:=cu (ax.self _);have g1:=dI (ax.self _);have g2:=dj (ax.self _)
   simp only [ax.self] at g0
   simp only [ax.self] at g1
   simp only [ax.self] at g2
   have cb:=J ay;clear ay bk cu dI dj;have rH:=Ps m.bt n k
   cases hm:(dW == n)
   ·have aX:=XM cb.out hm
    have eA:=J aX;clear aX
    go_wp2
    go_round
    case rel=>exact⟨k + 1,by omega,by go_num,by rw [eA.out],by rw [eA.out]⟩
    case measure=>simp [intOf];omega
   ·have aX:=XN cb.out hm
    have eA:=J aX;clear aX cb
    cases jv
    ·exact abq
    ·exact abq
  ·obtain rfl:k= m.bt.length:=by omega
   go_wp2
   simp only [wu,bC.out,gu.out]
   exact bodyPost_ret (v:= .tuple #[.int .i64 (hE m.bt n m.bt.length).1,.int .i64 (hE m.bt n m.bt.length).2,true]) (by simp [results,Tryz.results196,go_sem]) rfl ⟨rfl,(ah I av)⟩
open Go.RowKit Go.G9
def ko (os:List Out):Nat→List Int
 | 0=>[]
 | k + 1=>match os[k]? with | some o=>if o.hB then ko os k ++ [o.fW] else ko os k | none=>ko os k
theorem Ak (os:List Out):∀k,(ko os k).length≤k
 | 0=>Nat.le_refl _
 | k + 1=>by
  have:=Ak os k
  unfold ko
  split
  ·split <;> simp <;> omega
  ·omega
def pa (m:cz):List Int:=if pL m then ko m.bt m.bt.length else []
theorem SO {os:List Out} {k:Nat} {o:Out} (ay:os[k]? =some o) (h:o.hB= true):ko os (k + 1)= ko os k ++ [o.fW]:=by simp [ko,ay,h]
theorem SN {os:List Out} {k:Nat} {o:Out} (ay:os[k]? =some o) (h:o.hB= false):ko os (k + 1)= ko os k:=by simp [ko,ay,h]
theorem aby {p:Prop} (h:p:=by
 go_roundw
 case rel=>exact⟨k + 1,by omega,by go_num,by rw [mh.out];exact fj,zm⟩
 case measure=>simp [intOf];omega):p:=h
theorem aks (m:cz) (an ar aj ak aA:Option Addr) (c0 c1 c2 c3 c4:Nat) (h0:m.br.length≤1048576) (h1:m.bD.length≤1048576) (h2:m.bE.length≤1048576) (h3:m.bK.length≤1048576) (h4:m.bt.length≤1048576) (w:World) (aU:aH 7 aJ.cells w an m.br) (aT:aH 3 aL.cells w ar m.bD) (bj:aH 1 bR w aj m.bE) (bh:aH 3 aI.cells w ak m.bK) (bU:aH 3 Out.cells w aA m.bt) (dY:m.br.length≤c0) (eB:m.bD.length≤c1) (cp:m.bE.length≤c2) (ed:m.bK.length≤c3) (hp:m.bt.length≤c4):
 Calls Tryz.prog 176 #[.agg #[.slice an m.br c0,.slice ar m.bD c1,m.cZ,m.cQ,m.dH,.slice aj m.bE c2,.slice ak m.bK c3,.slice aA m.bt c4]] w fun e ag=>∃A c,e= .returned (.tuple #[.slice A (pa m).length c,.bool (pL m)])∧aV w 3 1 bR ag (.slice A (pa m).length c) (pa m)∧Below w w ag:=by
 obtain⟨i0,hi,dy,dC,dN⟩:=info_parts rN
 cases aB:pL m
 ·have bC:=J aB
  have aR:pa m= []:=by simp [pa,aB]
  rw [aR]
  clear aB aR
  go_in
  go_upto_region 1 with fail
  refine cR fun aF au aW=>?_
  replace aU:=aU.below au;replace aT:=aT.below au;replace bj:=bj.below au;replace bh:=bh.below au;replace bU:=bU.below au;have I:=au;have cL:=aW.aG
  go_wp2_with fail
  refine (AP m an ar aj ak aA c0 c1 c2 c3 c4 h0 h1 h2 h3 h4 _ bC.out _ (aU.below av) (aT.below av) (bj.below av) (bh.below av) (bU.below av) dY eB cp ed hp).mono ?_
  rintro e aM ⟨rfl,aN⟩
  have ao:=be aF aN;replace I:=ah I ao;clear cL
  go_wp2
  go_ret2
  exact⟨none,0,rfl,aV.nil,(ah I av)⟩
 ·have bC:=J aB
  have aR:pa m= ko m.bt m.bt.length:=by simp [pa,aB]
  rw [aR]
  clear aB aR
  go_in
  go_upto_region 1 with fail
  refine cR fun aF au aW=>?_
  replace aU:=aU.below au;replace aT:=aT.below au;replace bj:=bj.below au;replace bh:=bh.below au;replace bU:=bU.below au;have I:=au;have cL:=aW.aG
  go_wp2_with fail
  refine (AP m an ar aj ak aA c0 c1 c2 c3 c4 h0 h1 h2 h3 h4 _ bC.out _ (aU.below av) (aT.below av) (bj.below av) (bh.below av) (bU.below av) dY eB cp ed hp).mono ?_
  rintro e aM ⟨rfl,aN⟩
  have ao:=be aF aN;replace I:=ah I ao;replace bU:=bU.below ao;replace aW:=aW.to ao;clear cL;have cL:=aW.aG;have hJ:=aV.made (f:=bR) (sz:=1) aM (B:=aM.heap.size) (Nat.le_refl _) 3;have rE:=I.size;have wR:=aW.lt
  go_wp2
  clear cL
  go_loopw [4,14] (fun y i wr=>∃k:Nat,k≤m.bt.length∧i= .int .i64 k∧aV aM 3 1 bR wr y (ko m.bt k)∧Below aM aM wr) (fun _ i _=>m.bt.length - (intOf i).toNat)
  case atStart=>exact⟨0,Nat.zero_le _,rfl,hJ,bZ _ _⟩
  case round=>
   obtain⟨k,az,rfl,bP,aB⟩:=hrel
   by_cases bl:k < m.bt.length
   ·obtain⟨gJ,gL,x,rfl,dU,ay,bk⟩:=bU.at_ aB bl
    obtain⟨hb,dW,jv⟩:=x
    have cu:=bk 0 _ rfl;have dI:=bk 1 _ rfl;have dj:=bk 2 _ rfl
    simp only [Nat.add_zero] at cu
    have g0:=cu (ax.self _);have g1:=dI (ax.self _);have g2:=dj (ax.self _)
    simp only [ax.self] at g0
    simp only [ax.self] at g1
    simp only [ax.self] at g2
    have cb:=J ay;clear ay bk cu dI dj
    go_upto_region 7 with fail
    have rF:=bP.alloc (.cells #[hb,dW,jv] 163);have bm:=aq.new wr 163 #[hb,dW,jv];have iX:=aB.alloc aB.size (.cells #[hb,dW,jv] 163)
    generalize wr.alloc (.cells #[hb,dW,jv] 163)= hF at *
    clear g0 g1 g2 bP;have dd:=(bm.cell 0).trans (show _= some (.int .i64 hb) from rfl);have dT:=(bm.cell 2).trans (show _= some (.bool jv) from rfl)
    cases jv
    ·have cT:=SN cb.out rfl
     exact QS
    ·have cT:=SO cb.out rfl
     have mh:=J cT;clear cT
     go_wp2_with ((at_builtin;refine lA rfl _ _ 38 rfl aM.heap.size 3 i0 _ 1 8 Tryz.underlying38 hi dy dC dN rfl (by decide) bR fZ pj _ (ko m.bt k) rfl (rF.alloc _) ⟨hF.heap.size,0,none⟩ 1 hb rfl (aH.one _ _) (by have:=Ak m.bt k;unfold maxLen;omega) (by have:=Ak m.bt k;omega) (by have:=iX.size;simp;omega) ?_;intro v4 ca fj gx lX))
     have zm:Below aM aM ca:=(iX.alloc iX.size _).grown gx (by have:=iX.size;simp;omega) (fun q aZ=>(rF.lt q aZ).1)
     exact aby
   ·obtain rfl:k= m.bt.length:=by omega
    obtain⟨Y,gT,rfl,_,_,_⟩:=bP.form fZ
    go_wp2
    go_ret2
    exact⟨Y,gT,rfl,bP.base rE,ah I aB⟩
theorem aph (m:cz) (an ar aj ak aA:Option Addr) (c0 c1 c2 c3 c4:Nat) (h0:m.br.length≤1048576) (h1:m.bD.length≤1048576) (h2:m.bE.length≤1048576) (h3:m.bK.length≤1048576) (h4:m.bt.length≤1048576) (w:World) (aU:aH 7 aJ.cells w an m.br) (aT:aH 3 aL.cells w ar m.bD) (bj:aH 1 bR w aj m.bE) (bh:aH 3 aI.cells w ak m.bK) (bU:aH 3 Out.cells w aA m.bt) (dY:m.br.length≤c0) (eB:m.bD.length≤c1) (cp:m.bE.length≤c2) (ed:m.bK.length≤c3) (hp:m.bt.length≤c4):
 Calls Tryz.prog 192 #[.agg #[.slice an m.br c0,.slice ar m.bD c1,m.cZ,m.cQ,m.dH,.slice aj m.bE c2,.slice ak m.bK c3,.slice aA m.bt c4]] w fun e ag=>∃A c,e= .returned (.tuple #[.slice A (pa m).length c,.bool (pL m)])∧aV w 3 1 bR ag (.slice A (pa m).length c) (pa m)∧Below w w ag:=by
 obtain⟨i0,hi,dy,dC,dN⟩:=info_parts rN
 cases aB:pL m
 ·have bC:=J aB
  have aR:pa m= []:=by simp [pa,aB]
  rw [aR]
  clear aB aR
  go_in
  go_upto_region 1 with fail
  refine cR fun aF au aW=>?_
  replace aU:=aU.below au;replace aT:=aT.below au;replace bj:=bj.below au;replace bh:=bh.below au;replace bU:=bU.below au;have I:=au
  obtain⟨eb,dx,dz,eu,fo,ib,iR,gh⟩:=aW.aG
  go_upto_region 2 with fail
  have bP:=aV.made (f:=bR) (sz:=1) aF (B:=aF.heap.size) (Nat.le_refl _) 3;have CR:=I.size;have eO:Below aF aF (aF.alloc (.cells #[] 3)):=bZ _ _
  generalize FR:aF.alloc (.cells #[] 3)= ky at *
  have fB:=J bP;clear bP;have ao:=be aF eO;replace I:=ah I ao;replace aU:=aU.below ao;replace aT:=aT.below ao;replace bj:=bj.below ao;replace bh:=bh.below ao;replace bU:=bU.below ao;replace aW:=aW.to ao;clear eb dx dz eu fo ib iR gh
  obtain⟨eb,dx,dz,eu,fo,ib,iR,gh⟩:=aW.aG
  go_wp2_with fail
  refine (AW m an ar aj ak aA c0 c1 c2 c3 c4 h0 h1 h2 h3 h4 _ bC.out _ (aU.below av) (aT.below av) (bj.below av) (bh.below av) (bU.below av) dY eB cp ed hp).mono ?_
  rintro e bB ⟨rfl,bG⟩
  have aK:=be ky bG;replace I:=ah I aK;replace aW:=aW.to aK;clear eb dx dz eu fo ib iR gh;have bP:=fB.out.later aK
  go_wp2
  go_ret2
  exact⟨_,0,rfl,bP.base CR,(ah I av)⟩
 ·have bC:=J aB
  have aR:pa m= ko m.bt m.bt.length:=by simp [pa,aB]
  rw [aR]
  clear aB aR
  go_in
  go_upto_region 1 with fail
  refine cR fun aF au aW=>?_
  replace aU:=aU.below au;replace aT:=aT.below au;replace bj:=bj.below au;replace bh:=bh.below au;replace bU:=bU.below au;have I:=au
  obtain⟨eb,dx,dz,eu,fo,ib,iR,gh⟩:=aW.aG
  go_upto_region 2 with fail
  have bP:=aV.made (f:=bR) (sz:=1) aF (B:=aF.heap.size) (Nat.le_refl _) 3;have dR:=J aW;have Ff:=J bU;have yz:=J I;have CR:=I.size;have eO:Below aF aF (aF.alloc (.cells #[] 3)):=bZ _ _
  generalize FR:aF.alloc (.cells #[] 3)= ky at *
  have fB:=J bP;clear bP;have ao:=be aF eO;replace aU:=aU.below ao;replace aT:=aT.below ao;replace bj:=bj.below ao;replace bh:=bh.below ao;replace bU:=bU.below ao;replace aW:=aW.to ao;clear eb dx dz eu fo ib iR gh
  obtain⟨eb,dx,dz,eu,fo,ib,iR,gh⟩:=aW.aG
  go_wp2_with fail
  refine (AW m an ar aj ak aA c0 c1 c2 c3 c4 h0 h1 h2 h3 h4 _ bC.out _ (aU.below av) (aT.below av) (bj.below av) (bh.below av) (bU.below av) dY eB cp ed hp).mono ?_
  rintro e bB ⟨rfl,bG⟩
  have aK:=be ky bG;replace aW:=aW.to aK;clear eb dx dz eu fo ib iR gh
  obtain⟨eb,dx,dz,eu,fo,ib,iR,gh⟩:=aW.aG
  have bP:=fB.out.later aK;have ahY:=ah eO aK
  go_wp2
  clear eb dx dz eu fo ib iR gh aW aU aT bj bh bU I
  go_loopw [4,5] (fun y i wr=>∃k:Nat,k≤m.bt.length∧i= .int .i64 k∧aV aF 3 1 bR wr y (ko m.bt k)∧Below aF aF wr) (fun _ i _=>m.bt.length - (intOf i).toNat)
  case atStart=>exact⟨0,Nat.zero_le _,rfl,bP,ahY⟩
  case round=>
   clear bP
   obtain⟨k,az,rfl,bP,aB⟩:=hrel
   have aW:=dR.out.below aB dR.out.lt
   by_cases bl:k < m.bt.length
   ·obtain⟨gJ,gL,x,uF,dU,ay,bk⟩:=Ff.out.at_ aB bl
    obtain⟨hb,dW,jv⟩:=x
    have gh:=(aW.cell 7).trans (show _= some (.slice aA m.bt c4) from rfl)
    subst uF
    have cu:=bk 0 _ rfl;have dI:=bk 1 _ rfl;have dj:=bk 2 _ rfl
    simp only [Nat.add_zero] at cu
    have g0:=cu (ax.self _);have g1:=dI (ax.self _);have g2:=dj (ax.self _)
    simp only [ax.self] at g0
    simp only [ax.self] at g1
    simp only [ax.self] at g2
    have cb:=J ay;clear ay bk cu dI dj
    cases jv
    ·have cT:=SN cb.out rfl
     have mh:=J cT;clear cT
     go_wp2
     go_roundw
     case rel=>exact⟨k + 1,by omega,by go_num,by rw [mh.out];exact bP,aB⟩
     case measure=>simp [intOf];omega
    ·have cT:=SO cb.out rfl
     have mh:=J cT;clear cT;have rF:=bP;have iX:=aB
     go_wp2_with ((at_builtin;refine lA rfl _ _ 38 rfl aF.heap.size 3 i0 _ 1 8 Tryz.underlying38 hi dy dC dN rfl (by decide) bR fZ pj _ (ko m.bt k) rfl (rF.alloc _) ⟨wr.heap.size,0,none⟩ 1 hb rfl (aH.one _ _) (by have:=Ak m.bt k;unfold maxLen;omega) (by have:=Ak m.bt k;omega) (by have:=iX.size;simp;omega) ?_;intro v4 ca fj gx lX))
     have zm:Below aF aF ca:=(iX.alloc iX.size _).grown gx (by have:=iX.size;simp;omega) (fun q aZ=>(rF.lt q aZ).1)
     exact aby
   ·obtain rfl:k= m.bt.length:=by omega
    obtain⟨Y,gT,rfl,_,_,_⟩:=bP.form fZ
    have gh:=(aW.cell 7).trans (show _= some (.slice aA m.bt c4) from rfl)
    go_wp2
    go_ret2
    exact⟨Y,gT,rfl,bP.base CR,ah yz.out aB⟩
end Go.Proofs.YtlaaemmmbodaaaaGreatDoor
namespace Go.G9
open Go.RowKit
theorem zH {P:Program} {w:World} {ops:Array Oper} {rest:List Oper} {o:Oper} {a:Act} {Q:Exit→Act→World→Prop} (nF:o.guard= none) (s x:Operand) (t:TypeId)
  (cY:o.op= .call {callee:= .builtin .append,args:=#[s,x],argTypes:=#[t,t]})
  (B:Nat) (e:TypeId) (i:TypeInfo) (z:Value) (sz bytes:Nat) (cE:P.underlying t= some (.slice e)) (hi:P.info? e= some i) (cc:i.zero= some z)
  (va:i.size= sz) (uN:i.bytes= bytes) (vi:z.cells.size= sz) (eZ:0 < sz) {T:Type} (f:T→List Value) (hf:∀y,(f y).length= sz) (ks:∀y u,u ∈ f y→u.oneCell'= true)
  (g:Nat) (aX:a.eval s= .slice g 0 0) (cw:aq w g e #[]) (oh:B≤g) (aj:Option Addr) (c2:Nat) (ys:List T) (ay:a.eval x= .slice aj ys c2) (bL:aH sz f w aj ys) (aR:aj= none→ys= []∧c2= 0)
  (h63:ys.length≤maxLen) (uO:ys.length * bytes≤140737488355328)
  (h:∀bo cM ag,aV B e sz f ag (.slice (some ⟨bo,0,none⟩) ys cM) ys→Below w w ag→wpList P ops Q rest (a.put o.dst (.slice (some ⟨bo,0,none⟩) ys cM)) ag):wpList P ops Q (o ::rest) a w:=by
 cases aj with
 | some jf=>exact aar nF s x t cY B e i z sz bytes cE hi cc va uN vi eZ f hf ks g aX cw oh jf c2 ys ay bL h63 uO (fun bo cM ag h1 h2 _=>h bo cM ag h1 h2)
 | none=>
  obtain⟨rfl,rfl⟩:=aR rfl
  have bP:aV B e sz f w (.slice g 0 0) ([]:List T):=aV.Dx (xs:=[]) (cap:=0) cw oh (Nat.le_refl _) (Nat.zero_le _) (by simp) (fun i x ay=>by simp at ay) hf
  exact wpList_append_own_none nF s x t cY B e i sz cE hi (.slice g 0 0) 0 [] aX bP ay (h g 0 w bP (Below.refl _ _))
end Go.G9
namespace Go.Proofs.YtlaaemmmbodaaaaGreatDoor
open Go.RowKit Go.G9
theorem PZ (x:aJ):(aJ.cells x).length= 7:=rfl
theorem aoQ (x:aJ):∀u,u ∈ aJ.cells x→u.oneCell'= true:=by
 intro u hu
 simp only [aJ.cells,List.mem_cons,List.not_mem_nil,or_false] at hu
 rcases hu with rfl | rfl | rfl | rfl | rfl | rfl | rfl <;> rfl
open Go.RowKit Go.G9
theorem agb (A:Option Addr) (c:Nat) (xs:List Int) (aY:xs.length≤1048576) (aR:A= none→xs= []∧c= 0) (w:World) (bL:aH 1 bR w A xs):
 Calls Tryz.prog 245 #[.slice A xs c] w fun e ag=>∃hc cM,e= .returned (.slice hc xs cM)∧aV w 3 1 bR ag (.slice hc xs cM) xs∧Below w w ag:=by
 obtain⟨i0,hi,dy,dC,dN⟩:=info_parts rN
 exact acL
theorem ij (x:aI):(aI.cells x).length= 3:=rfl
theorem wH (x:aI):∀u,u ∈ aI.cells x→u.oneCell'= true:=by
 intro u hu
 simp only [aI.cells,List.mem_cons,List.not_mem_nil,or_false] at hu
 rcases hu with rfl | rfl | rfl <;> rfl
structure jR (B:Nat) (w:World) (bg:Option Addr) (d2:Nat) (bn:Option Addr) (d3:Nat) (ws:List Int) (U:List aI):Prop where
 fk:aV B 3 1 bR w (.slice bg ws.length d2) ws
 fJ:aV B 214 3 aI.cells w (.slice bn U.length d3) U
 ap:∀k,(Value.slice bg ws.length d2).ownBlock= some k→some k≠(Value.slice bn U.length d3).ownBlock
theorem jR.later {B:Nat} {w ag:World} {bg:Option Addr} {d2:Nat} {bn:Option Addr} {d3:Nat} {ws:List Int} {U:List aI} (h:jR B w bg d2 bn d3 ws U) (aB:Below w w ag):jR B ag bg d2 bn d3 ws U:=⟨h.fk.later aB,h.fJ.later aB,h.ap⟩
theorem jR.base {B B':Nat} {w:World} {bg:Option Addr} {d2:Nat} {bn:Option Addr} {d3:Nat} {ws:List Int} {U:List aI} (h:jR B w bg d2 bn d3 ws U) (aB:B'≤B):jR B' w bg d2 bn d3 ws U:=⟨h.fk.base aB,h.fJ.base aB,h.ap⟩
theorem Hk (af ae sp:Int) (aj:Option Addr) (c2:Nat) (ws:List Int) (ak:Option Addr) (c3:Nat) (U:List aI) (h2:ws.length≤1048576) (h3:U.length≤1048576) (n2:aj= none→ws= []∧c2= 0) (n3:ak= none→U= []∧c3= 0) (w:World) (bj:aH 1 bR w aj ws) (bh:aH 3 aI.cells w ak U):
 Calls Tryz.prog 166 #[.agg #[af,ae,sp,.slice aj ws c2,.slice ak U c3]] w fun e ag=>∃bg d2 g3 d3,e= .returned (.agg #[af,ae,sp,.slice bg ws d2,.slice (some ⟨g3,0,none⟩) U d3])∧jR w.heap.size ag bg d2 (some ⟨g3,0,none⟩) d3 ws U∧Below w w ag:=by
 obtain⟨i0,hi,dy,dC,dN⟩:=info_parts AQ
 have dX:=J bj;have cO:=J bh;have je:=J n2;have iV:=J n3;clear bj bh n2 n3
 go_in
 go_upto_region 1 with fail
 refine fm fun aF au ai ad=>?_
 have I:=au;have aD:=ai.aP;have al:=ad.aP;have gy:=ad.lt
 go_wp2_with fail
 refine (agb aj c2 ws h2 je.out _ (dX.out.below (ah I av))).mono ?_
 rintro e aM ⟨bg,d2,rfl,bA,aN⟩
 have ao:=be aF aN;replace I:=ah I ao;replace ai:=ai.to ao;clear aD;have aD:=ai.aP;replace ad:=ad.to ao;clear al;have al:=ad.aP;have asN:=ai.frozen 3;have BD:=ai.lt;have sd:=ad.lt
 go_upto_region 2 with fail
 clear aD al
 refine kN 3 fun kb lz=>?_
 replace I:=lz.aE I;replace ai:=lz.DD ai;replace ad:=lz.dM ad;replace bA:=bA.bW lz (fun k az=>by first | exact ej k az | (have:=bA.lt k az;omega));have aD:=ai.aP;have al:=ad.aP
 have jC:∀k,(Value.slice bg ws d2).ownBlock= some k→k < kb.heap.size:=fun k az=>(bA.lt k az).2
 have BD:=ai.lt;have sd:=ad.lt;have oI:=J jC;clear jC;have aeF:=J (fun e=>(cO.out.below (ah I (bZ kb (.cells #[] e)))):∀e:TypeId,aH 3 aI.cells (kb.alloc (.cells #[] e)) ak U);have qj:=iV.out
 go_upto_region 3 with ((at_builtin;refine zH rfl _ _ 39 rfl kb.heap.size 214 i0 _ 3 24 Tryz.underlying39 hi dy dC dN rfl (by decide) aI.cells ij wH kb.heap.size rfl (aq.new _ _ _) (Nat.le_refl _) ak c3 U rfl (aeF.out _) qj (by unfold maxLen;omega) (by omega) ?_;intro g3 d3 bB bq bG;have Gi:Below kb kb bB:=ah (bZ _ _) bG;have Nj:=ai.to Gi;have og:=Nj.frozen 4;have ahr:=(Nj.cell 4).trans (show _= some (Value.slice ak U c3) from rfl)))
 clear Nj og ahr qj;have aK:=be kb bG;replace I:=ah I aK;replace bA:=bA.later aK;replace ai:=ai.to aK;clear aD;have aD:=ai.aP;replace ad:=ad.to aK;clear al;have al:=ad.aP;have zi:=(bq.lt g3 rfl).1;clear aD al
 refine kN 4 fun xb gI=>?_
 replace I:=gI.aE I;replace ai:=gI.PJ ai;replace ad:=gI.dM ad;replace bA:=bA.bW gI (fun k az=>by first | exact ej k az | (have:=bA.lt k az;omega));replace bq:=bq.bW gI (fun k az=>by first | exact dK k az | (have:=bq.lt k az;omega))
 have aD:=ai.aP;have al:=ad.aP;have ep:=ad.jn
 go_wp2
 clear aD al
 refine gR 0 fun cS aC=>?_
 replace I:=aC.aE I;replace ad:=aC.iP ad;replace bA:=bA.bW aC (fun k az=>by first | exact ej k az | (have:=bA.lt k az;omega));replace bq:=bq.bW aC (fun k az=>by first | exact dK k az | (have:=bq.lt k az;omega));have al:=ad.aP
 exact hg ⟨bg,d2,g3,d3,rfl,⟨bA.base (by omega),bq.base (by omega),fun k az e=>by have h5:=oI.out k az;have h6:k= g3:=Option.some.inj e;omega⟩,I⟩ (by simp [results,Tryz.results166,go_sem,al])
end Go.Proofs.YtlaaemmmbodaaaaGreatDoor
namespace Go.G9
open Go.RowKit
theorem arL {P:Program} {w:World} {ops:Array Oper} {rest:List Oper} {o:Oper} {a:Act} {Q:Exit→Act→World→Prop} (nF:o.guard= none) (s x:Operand) (t:TypeId)
  (cY:o.op= .call {callee:= .builtin .append,args:=#[s,x],argTypes:=#[t,t]})
  (B:Nat) (e:TypeId) (i:TypeInfo) (z:Value) (sz bytes:Nat) (cE:P.underlying t= some (.slice e)) (hi:P.info? e= some i) (cc:i.zero= some z)
  (va:i.size= sz) (uN:i.bytes= bytes) (vi:z.cells.size= sz) (eZ:0 < sz) {T:Type} (f:T→List Value) (hf:∀y,(f y).length= sz) (ks:∀y u,u ∈ f y→u.oneCell'= true)
  (g:Nat) (aX:a.eval s= .slice g 0 0) (cw:aq w g e #[]) (oh:B≤g) (aj:Option Addr) (c2:Nat) (ys:List T) (ay:a.eval x= .slice aj ys c2) (bL:aH sz f w aj ys) (aR:aj= none→ys= []∧c2= 0)
  (h63:ys.length≤maxLen) (uO:ys.length * bytes≤140737488355328)
  (h:∀bo cM ag,aV B e sz f ag (.slice (some ⟨bo,0,none⟩) ys cM) ys→Below w w ag→(bo= g∨w.heap.size≤bo)→wpList P ops Q rest (a.put o.dst (.slice (some ⟨bo,0,none⟩) ys cM)) ag):wpList P ops Q (o ::rest) a w:=by
 cases aj with
 | some jf=>exact aar nF s x t cY B e i z sz bytes cE hi cc va uN vi eZ f hf ks g aX cw oh jf c2 ys ay bL h63 uO (fun bo cM ag h1 h2 h3=>h bo cM ag h1 h2 h3)
 | none=>
  obtain⟨rfl,rfl⟩:=aR rfl
  have bP:aV B e sz f w (.slice g 0 0) ([]:List T):=aV.Dx (xs:=[]) (cap:=0) cw oh (Nat.le_refl _) (Nat.zero_le _) (by simp) (fun i x ay=>by simp at ay) hf
  exact wpList_append_own_none nF s x t cY B e i sz cE hi (.slice g 0 0) 0 [] aX bP ay (h g 0 w bP (Below.refl _ _) (.inl rfl))
end Go.G9
namespace Go.Proofs.YtlaaemmmbodaaaaGreatDoor
open Go.RowKit Go.G9
def Xp (ws:List Int) (U:List aI):lC (Option Addr×Nat) where
 par:=fun n=>match n with
  | 12=>[9]
  | _=>[]
 val:=fun n p=>match n with
  | 8=> .slice p.1 ws.length p.2
  | 9=> .slice p.1 0 0
  | 12=> .slice p.1 U.length p.2
  | _=>undef
 post:=fun n bp p cW V=>match n with
  | 8=>aV cW.heap.size 3 1 bR V (.slice p.1 ws.length p.2) ws
  | 9=>p.1= some ⟨cW.heap.size,0,none⟩∧aq V cW.heap.size 214 #[]
  | 12=>∃g bo,(bp 9).1= some ⟨g,0,none⟩∧p.1= some ⟨bo,0,none⟩∧(bo= g∨cW.heap.size≤bo)∧aV g 214 3 aI.cells V (.slice p.1 U.length p.2) U
  | _=>True
theorem Hc (af ae sp:Int) (aj:Option Addr) (c2:Nat) (ws:List Int) (ak:Option Addr) (c3:Nat) (U:List aI) (h2:ws.length≤1048576) (h3:U.length≤1048576) (n2:aj= none→ws= []∧c2= 0) (n3:ak= none→U= []∧c3= 0) (w:World) (bj:aH 1 bR w aj ws) (bh:aH 3 aI.cells w ak U):
 Calls Tryz.prog 183 #[.agg #[af,ae,sp,.slice aj ws c2,.slice ak U c3]] w fun e ag=>∃bg d2 bn d3,e= .returned (.agg #[af,ae,sp,.slice bg ws d2,.slice bn U d3])∧jR w.heap.size ag bg d2 bn d3 ws U∧Below w w ag:=by
 obtain⟨i0,hi,dy,dC,dN⟩:=info_parts AQ
 have dX:=J bj;have cO:=J bh;have je:=J n2;have iV:=J n3;clear bj bh n2 n3
 go_in
 go_upto_region 1 with fail
 refine fm fun aF au ai ad=>?_
 have I:=au;have aD:=ai.aP;have al:=ad.aP;have gy:=ad.lt;have qj:=iV.out
 obtain⟨tZ,yU⟩ :∃X:World→Prop,∀V,X V↔(Below w w V∧aq V (w.heap.size) 41 #[af,ae,sp,.slice aj ws c2,.slice ak U c3]):=⟨_,fun _=>Iff.rfl⟩
 have iN:=J yU;clear yU
 haveI:Nonempty (cN tZ):=⟨⟨aF,((iN.out _).2 ⟨I,ai⟩)⟩⟩
 clear aD;clear al;have aD:=aq.kE (fun K:cN tZ=>((iN.out _).1 K.holds).2)
 go_wp2
 refine BC (Xp ws U) tZ [([0,1,2,3,4,5,6,7],8),([],9),([10,11],12)] [13] [([],14)] [] (by kernel_rfl) (by kernel_rfl) ((iN.out _).2 ⟨I.drew,ai⟩) (fun W eE h k=>((iN.out _).2 ⟨((iN.out _).1 h).1.trans (k.mono ((iN.out _).1 h).1.size),((iN.out _).1 h).2.below k ((iN.out _).1 h).2.lt⟩)) ?_
 intro bp
 refine iL (some 11) rfl (.slice (bp 8).1 ws.length (bp 8).2) rfl fun hd eT=>?_
 change wpQuiet _ _ _ _ (_ ::_ ::_ ::_ ::_ ::_ ::_ ::_ ::[]) _
 repeat (go_big_quiet_step (fail))
 refine wpQuiet_nil ?_
 refine⟨fun k fQ=>?_,eT _ ?_⟩
 ·change wpList _ _ _ (_ ::[]) _ _
  go_wp2_with fail
  refine (amg aj c2 ws h2 je.out _ (dX.out.below ((iN.out _).1 k.holds).1)).mono ?_
  rintro e mY ⟨bg,d2,rfl,bA,fS⟩
  go_wp2
  exact ia ⟨(bg,d2),rfl,fS,bA⟩
 simp only [Act.put]
 go_simp
 refine iL (some 12) rfl (.slice (bp 9).1 0 0) rfl fun hd eT=>?_
 change wpQuiet _ _ _ _ ([]) _
 refine wpQuiet_nil ?_
 refine⟨fun k fQ=>?_,eT _ ?_⟩
 ·change wpList _ _ _ (_ ::[]) _ _
  go_wp2
  exact ia ⟨(some ⟨k.world.heap.size,0,none⟩,0),rfl,bZ _ _,rfl,aq.new _ _ _⟩
 simp only [Act.put]
 go_simp
 refine iL (some 15) rfl (.slice (bp 12).1 U.length (bp 12).2) rfl fun hd eT=>?_
 change wpQuiet _ _ _ _ (_ ::_ ::[]) _
 repeat (go_big_quiet_step (fail))
 refine wpQuiet_nil ?_
 refine⟨fun k fQ=>?_,eT _ ?_⟩
 ·change wpList _ _ _ (_ ::[]) _ _
  obtain⟨gO,uw,qS,⟨mK,mL⟩,mM⟩:=fQ 9 (by simp [Xp])
  have mN:=mL.to mM;have jW:(bp 9).1= some ⟨gO.heap.size,0,none⟩:=mK;have qD:=J (cO.out.below ((iN.out _).1 k.holds).1);have qC:=J mN;clear mN mL mK qS mM fQ
  rw [jW]
  have mj:=J jW;clear jW
  go_wp2_with ((at_builtin;refine arL rfl _ _ 39 rfl gO.heap.size 214 i0 _ 3 24 Tryz.underlying39 hi dy dC dN rfl (by decide) aI.cells ij wH gO.heap.size rfl qC.out (Nat.le_refl _) ak c3 U rfl qD.out qj (by unfold maxLen;omega) (by omega) ?_;intro bo cM ag fB eW uT))
  first | exact ia ⟨(some ⟨bo,0,none⟩,cM),rfl,eW,gO.heap.size,bo,mj.out,rfl,uT,fB⟩ | exact ia ⟨some ⟨bo,0,none⟩,cM,rfl,eW,gO.heap.size,bo,mj.out,rfl,uT,fB⟩
 simp only [Act.put]
 go_simp
 refine tW ?_
 change wpQuiet _ _ _ _ (_ ::[]) _
 repeat (go_big_quiet_step (fail))
 refine wpQuiet_nil ?_
 intro cW V W aW bI
 have Ns:aV (cW 8).heap.size 3 1 bR (V 8) (.slice (bp 8).1 ws.length (bp 8).2) ws:=aW.post 8 (by simp)
 obtain⟨g,bo,e9,e12,CX,nD⟩ :∃g bo,(bp 9).1= some ⟨g,0,none⟩∧(bp 12).1= some ⟨bo,0,none⟩∧(bo= g∨(cW 12).heap.size≤bo)∧aV g 214 3 aI.cells (V 12) (.slice (bp 12).1 U.length (bp 12).2) U:=aW.post 12 (by simp)
 obtain⟨TN,Un⟩ :(bp 9).1= some ⟨(cW 9).heap.size,0,none⟩∧aq (V 9) (cW 9).heap.size 214 #[]:=aW.post 9 (by simp)
 have FA:(cW 9).heap.size= g:=by rw [TN] at e9;exact congrArg Addr.block (Option.some.inj e9)
 have lq:g < (V 9).heap.size:=FA ▸ Un.lt;have YV:=(aW.nC 8 (by simp)).size;have YW:=(aW.nC 9 (by simp)).size;have a1:=aW.apart 8 (by simp) 9 (by simp) (by decide);have a2:=aW.apart 8 (by simp) 12 (by simp) (by decide);have bA:=(Ns.later (aW.later 8 (by simp))).base (B':=aF.heap.size) YV;have bq:=(nD.later (aW.later 12 (by simp))).base (B':=aF.heap.size) (by rw [← FA];exact YW)
 have jC:∀k,(Value.slice (bp 8).1 ws.length (bp 8).2).ownBlock= some k→some k≠(Value.slice (bp 12).1 U.length (bp 12).2).ownBlock:=fun k az e=>by
  have h5:=Ns.lt k az
  rw [e12] at e
  have h6:k= bo:=Option.some.inj e;have h10:=nD.lt bo (by rw [e12];rfl)
  rcases CX with h | h <;> rcases a1 with h1 | h1 <;> rcases a2 with h2 | h2 <;> omega
 have oI:=J jC;clear aD;have aK:Below aF aF W:=ah av (aW.whole 8 (by simp)).rr;replace I:=ah I aK;replace ai:=ai.to aK;replace ad:=ad.to aK;have al:=ad.aP;clear aW Ns nD Un jC bI a1 a2 YV YW lq FA e9 TN e12 CX
 generalize bp 8= anL at *
 generalize bp 12= anK at *
 obtain⟨bg,d2⟩:=anL
 obtain⟨bn,d3⟩:=anK
 refine ha fun gz dZ=>?_
 change wpQuiet _ _ _ _ ([]) _
 refine wpQuiet_nil ?_
 change wpList _ _ _ (_ ::[]) _ _
 have ep:=ad.jn
 go_wp2
 clear al
 refine gR 0 fun cS aC=>?_
 replace I:=aC.aE I;replace ai:=aC.dM ai;replace ad:=aC.iP ad;replace bA:=bA.bW aC (fun k az=>by first | exact ej k az | (have:=bA.lt k az;omega));replace bq:=bq.bW aC (fun k az=>by first | exact dK k az | (have:=bq.lt k az;omega));have al:=ad.aP
 refine hn (((iN.out _).2 ⟨I,ai⟩)) (dZ _ _ ?_)
 refine mA ?_
 change wpQuiet _ _ _ _ ([]) _
 refine wpQuiet_nil ?_
 go_wp2
 exact hg ⟨bg,d2,bn,d3,rfl,⟨bA.base (by omega),bq.base (by omega),oI.out⟩,I⟩ (by simp [results,Tryz.results183,go_sem,al])
end Go.Proofs.YtlaaemmmbodaaaaGreatDoor
namespace Go.G9
open Go.RowKit
theorem Ku {P:Program} (w:World) (TB aqe ty elem:TypeId) (i:TypeInfo) (g o m TA age:Nat) (a:Addr) (Za apn:Nat) (cur:Array Value) (t:TypeId) (cs:List Value)
  (hu:P.underlying TB= some (.slice elem)) (hi:P.info? elem= some i) (cw:aq w g t cur) (hm:Nat.min Za TA= m) (aY:cs.length= m * i.size)
  (AM:∀j v,cs[j]? =some v→w.cell? (a.add j)= some v) (xB:o + cs.length≤cur.size) (h1:∀v ∈ cs,v.oneCell'= true):
  (Builtin.copy_ #[TB,aqe] ty #[.slice (some ⟨g,o,none⟩) TA age,.slice (some a) Za apn]).run P w =
   .ok (goInt m) (w.setRow g (cur.toList.take o ++ cs ++ cur.toList.drop (o + cs.length)).toArray):=by
 have aS:=run_loadCells_list (P:=P) w a cs AM;have iS:=run_storeCells_at (P:=P) g o t cs 0 cur w cw (by simpa using xB) h1
 simp [Builtin.copy_,run_underlying hu,Builtin.lenOf,Builtin.firstCells,sizeOf,typeInfo,hi,hm,← aY,aS,iS]
theorem KQ {P:Program} (w:World) {ops:Array Oper} {rest:List Oper} {o:Oper} {a:Act} {Q:Exit→Act→World→Prop} (nF:o.guard= none) (d s:Operand) (t fl:TypeId)
  (cY:o.op= .call {callee:= .builtin .copy,args:=#[d,s],argTypes:=#[t,fl]}) (v u:Value) (bO:a.eval d= v) (aX:a.eval s= u) {mf:Value} {ag:World}
  (bu:(Builtin.copy_ #[t,fl] o.type #[v,u]).run P w= .ok mf ag) (h:wpList P ops Q rest (a.put o.dst mf) ag):wpList P ops Q (o ::rest) a w:=
 wpList_plain nF fun _ gj=>by
  unfold Oper.wp execOp
  simp only [cY,resolve,invoke,builtin,Sem.run_bind,Sem.run_pure,Result.andThen_ok,List.map_toArray,List.map_cons,List.map_nil,bO,aX,bu]
  exact gj _ _ h
theorem alR {T:Type} {sz:Nat} {f:T→List Value} (hf:∀y,(f y).length= sz) (xs:List T) (i:Nat) (hi:i≤xs.length) (s:T) (cur yO:List Value) (N:Nat) (aS:cur.length= N * sz) (eL:xs.length + 1≤N)
  (ql:cur.take (i * sz)= (xs.take i).flatMap f) (h2:yO= cur.take (i * sz) ++ f s ++ (xs.drop i).flatMap f ++ cur.drop ((xs.length + 1) * sz)):
  yO.length= N * sz∧yO.take ((xs.length + 1) * sz)= (xs.take i ++ s ::xs.drop i).flatMap f:=by
 have e1:((xs.drop i).flatMap f).length= (xs.length - i) * sz:=by rw [mq hf];simp
 have e2:((xs.take i).flatMap f).length= i * sz:=by rw [mq hf,List.length_take,Nat.min_eq_left hi]
 have e3:(xs.length + 1) * sz= i * sz + sz + (xs.length - i) * sz:=by
  conv=>lhs;rw [show xs.length + 1= i + 1 + (xs.length - i) by omega,Nat.add_mul,Nat.add_mul,Nat.one_mul]
 have e4:(xs.length + 1) * sz≤N * sz:=Nat.mul_le_mul_right sz eL
 have e5:(cur.take (i * sz) ++ f s ++ (xs.drop i).flatMap f).length= (xs.length + 1) * sz:=by
  rw [ql];simp only [List.length_append,e1,e2,hf];omega
 refine⟨?_,?_⟩
 ·rw [h2,List.length_append,e5,List.length_drop,aS];omega
 ·rw [h2,List.take_left' e5,ql]
  simp
theorem WM {T:Type} {B sz:Nat} {f:T→List Value} {e:TypeId} (hf:∀y,(f y).length= sz) (xs:List T) (i:Nat) (hi:i≤xs.length) (s:T) (cur yO:List Value) (N g:Nat) (W:World) (aS:cur.length= N * sz) (eL:xs.length + 1≤N) (aik:N≤maxLen)
  (ql:cur.take (i * sz)= (xs.take i).flatMap f) (h2:yO= cur.take (i * sz) ++ f s ++ (xs.drop i).flatMap f ++ cur.drop ((xs.length + 1) * sz)) (bm:aq W g e yO.toArray) (oh:B≤g):
  aV B e sz f W (.slice g (xs.length + 1) N) (xs.take i ++ s ::xs.drop i):=by
 obtain⟨h3,h4⟩:=alR hf xs i hi s cur yO N aS eL ql h2
 have hlen:(xs.take i ++ s ::xs.drop i).length= xs.length + 1:=by simp;omega
 unfold aV
 rw [hlen]
 refine⟨by rw [mq hf,hlen],.inr ⟨g,N,yO.toArray,rfl,oh,bm,eL,aik,by simp [h3],?_⟩⟩
 simpa using h4
theorem MW {T:Type} {sz:Nat} {f:T→List Value} (hf:∀y,(f y).length= sz):∀(xs:List T) (k:Nat),(xs.take k).flatMap f= (xs.flatMap f).take (k * sz)
 | [],k=>by simp
 | x ::xs,0=>by simp
 | x ::xs,k + 1=>by
  have eM:=MW hf xs k
  have az:(k + 1) * sz= sz + k * sz:=by rw [Nat.succ_mul];omega
  simp only [List.take_succ_cons,List.flatMap_cons]
  rw [eM,az,List.take_append,hf,List.take_of_length_le (l:=f x) (by rw [hf];omega)]
  congr 2
  omega
theorem aV.parts {T:Type} {B sz:Nat} {f:T→List Value} {e:TypeId} {w:World} {g n c:Nat} {xs:List T} (h:aV B e sz f w (.slice g n c) xs):
  n= xs.length∧B≤g∧xs.length≤c∧c≤maxLen∧∃cur:Array Value,aq w g e cur∧cur.size= c * sz∧cur.toList.take (xs.length * sz)= xs.flatMap f:=by
 rcases h.2 with ⟨h0,_⟩ | ⟨bo,cap,cur,aw,bm,dQ,nj,kq,iy,wm⟩
 ·cases h0
 ·injection aw with e1 e2 e3
  cases e1;subst e3
  exact⟨e2,bm,nj,kq,cur,dQ,iy,wm⟩
theorem aq.shape {w:World} {g:Nat} {t:TypeId} {cs:Array Value} (h:aq w g t cs):w.shape? g= some (t,cs.size):=by
 unfold aq at h
 simp [World.shape?,h]
end Go.G9
namespace Go.Proofs.YtlaaemmmbodaaaaGreatDoor
open Go.RowKit Go.G9
theorem acF {p:Prop} (h:p:=by
 go_in
 go_wp2_with ((at_builtin;refine lA rfl _ _ 39 rfl B 214 i0 _ 3 24 Tryz.underlying39 hi dy dC dN rfl (by decide) aI.cells ij wH _ xs rfl dq.out ⟨ju,0,none⟩ 1 s rfl BV.out (by unfold maxLen;omega) (by omega) oi ?_;intro v4 ca fj gx lX))
 have rJ:w.grownBy ca (some g):=gx;clear gx lX;have UH:=fj
 obtain⟨bo,cap,cs,rfl,_,_,_,_,_,_⟩:=fj.whole ij (by simp)
 go_wp2
 go_ret
 have aS:(xs ++ [s]).length= xs.length + 1:=by simp
 rw [aS] at UH
 exact⟨bo,cap,by rw [aS];rfl,UH,rJ⟩):p:=h
theorem alN (B:Nat) (g c:Nat) (xs:List aI) (aY:xs.length≤1048575) (s:aI) (ju:Nat) (w:World) (oi:B≤w.heap.size)
  (bP:aV B 214 3 aI.cells w (.slice g xs c) xs) (ic:aq w ju 214 (aI.cells s).toArray):
 Calls Tryz.prog 331 #[.slice g xs c,.int .i64 (xs.length:Int),.slice ju 1 1] w fun e ag=>
  ∃bo cM,e= .returned (.slice (some ⟨bo,0,none⟩) (xs.length + 1) cM)∧aV B 214 3 aI.cells ag (.slice (some ⟨bo,0,none⟩) (xs.length + 1) cM) (xs ++ [s])∧w.grownBy ag (some g):=by
 obtain⟨i0,hi,dy,dC,dN⟩:=info_parts AQ
 have UJ:aH 3 aI.cells w (some ⟨ju,0,none⟩) [s]:=fun _=>⟨ju,0,rfl,ic.lt,fun i y hy j u hu=>by
  have h0:i= 0:=by have:=(List.getElem?_eq_some_iff.1 hy).1;simp at this;omega
  subst h0;simp at hy;subst hy
  rw [Nat.zero_mul,Nat.zero_add]
  exact (ic.cell _).trans (by simpa using hu)⟩
 have Vg:xs.length≤c:=bP.parts.2.2.1;have BV:=J UJ;have dq:=J bP;clear UJ ic bP
 by_cases oO:c= xs.length
 ·subst oO
  exact acF
 ·skip
  exact acF
theorem aqq:∀w,(Go.sizeOf 214).run Tryz.prog w= .ok 3 w:=fun _=>by kernel_rfl
theorem alP (B:Nat) (g c:Nat) (xs:List aI) (aY:xs.length≤1048575) (i:Nat) (NV:i < xs.length) (OE:xs.length + 1≤c) (s:aI) (ju:Nat) (w:World) (eP:ju≠g)
  (bP:aV B 214 3 aI.cells w (.slice g xs c) xs) (ic:aq w ju 214 (aI.cells s).toArray):
 Calls Tryz.prog 331 #[.slice g xs c,.int .i64 (i:Int),.slice ju 1 1] w fun e ag=>
  ∃bo cM,e= .returned (.slice (some ⟨bo,0,none⟩) (xs.length + 1) cM)∧aV B 214 3 aI.cells ag (.slice (some ⟨bo,0,none⟩) (xs.length + 1) cM) (xs.take i ++ s ::xs.drop i)∧w.grownBy ag (some g):=by
 obtain⟨i0,hi,dy,dC,dN⟩:=info_parts AQ
 obtain⟨_,oh,_,kq,cur,bm,iy,xI⟩:=bP.parts
 have atw:c≤9223372036854775807:=kq
 have ql:cur.toList.take (i * 3)= (xs.take i).flatMap aI.cells:=by
  rw [MW ij,← xI,List.take_take]
  congr 1;omega
 have AM:∀j v,((xs.drop i).flatMap aI.cells)[j]? =some v→w.cell? (Addr.add ⟨g,i * 3,none⟩ j)= some v:=fun j v aw=>by
  have h1:=Ua ij xs i j v aw
  rw [← xI,List.getElem?_take] at h1
  split at h1
  ·have e:Addr.add ⟨g,i * 3,none⟩ j=⟨g,i * 3 + j,none⟩:=by unfold Addr.add;split <;> simp_all
   rw [e,bm.cell]
   simpa using h1
  ·cases h1
 have oQ:((xs.drop i).flatMap aI.cells).length= (xs.length - i) * 3:=by rw [mq ij];simp
 have FJ:∀v ∈ (xs.drop i).flatMap aI.cells,v.oneCell'= true:=fun u hu=>by obtain⟨y,_,hy⟩:=List.mem_flatMap.1 hu;exact wH y u hy
 have VX:∀zs Mu,(callFunc 341 #[.slice ju 1 1,.slice (some ⟨g,(i + 1) * 3,none⟩) zs Mu]).run Tryz.prog w= .ok (.value (.bool false)) w:=fun zs Mu=>by
  rw [run_callFunc_extern Tryz.func341 (by kernel_rfl) (by kernel_rfl) (by kernel_rfl) (e:=Extern.SlicesOverlaps.overlaps #[39,39] #[4]) (by kernel_rfl),
   Lib.run_overlaps_apart w 39 4 214 Tryz.underlying39 3 aqq ⟨ju,0,none⟩ ⟨g,(i + 1) * 3,none⟩ 1 1 zs Mu eP _ _ _ _ ic.shape bm.shape (by rw [iy];omega) (ic.frozen 0) (ic.frozen _)]
  rfl
 have qk:∀ty qL eV,(Builtin.copy_ #[39,39] ty #[.slice (some ⟨g,(i + 1) * 3,none⟩) (xs.length - i) qL,.slice (some ⟨g,i * 3,none⟩) (xs.length + 1 - i) eV]).run Tryz.prog w.drew= .ok (goInt ((xs.length - i:Nat):Int)) (w.drew.setRow g (cur.toList.take ((i + 1) * 3) ++ (xs.drop i).flatMap aI.cells ++ cur.toList.drop ((i + 1) * 3 + ((xs.drop i).flatMap aI.cells).length)).toArray):=fun ty qL eV=>
  Ku w.drew _ _ ty 214 i0 g ((i + 1) * 3) (xs.length - i) (xs.length - i) qL ⟨g,i * 3,none⟩ (xs.length + 1 - i) eV cur 214 ((xs.drop i).flatMap aI.cells) Tryz.underlying39 hi bm (by simp only [Nat.min_def];split <;> omega) (by rw [oQ,dC]) AM (by rw [oQ,iy];omega) FJ
 obtain⟨c1,gK⟩ :∃c1,c1= (cur.toList.take ((i + 1) * 3) ++ (xs.drop i).flatMap aI.cells ++ cur.toList.drop ((i + 1) * 3 + ((xs.drop i).flatMap aI.cells).length)):=⟨_,rfl⟩
 rw [← gK] at qk
 have jK:cur.toList.length= c * 3:=by rw [Array.length_toList];exact iy
 have wi:c1.length= c * 3:=by
  rw [gK];simp only [List.length_append,List.length_take,List.length_drop,oQ,jK];omega
 have yS:aq (w.drew.setRow g c1.toArray) g 214 c1.toArray:=(show aq w.drew g 214 cur from bm).setRow;have gw:w.grownBy (w.drew.setRow g c1.toArray) (some g):=qg (lU (Below.refl _ _).drew (some g)) FH;have UN:aq (w.drew.setRow g c1.toArray) ju 214 (aI.cells s).toArray:=(gw.block ju ic.lt (fun e=>eP (Option.some.inj e))).trans ic
 generalize w.drew.setRow g c1.toArray= lT at *
 have nk:∀ty qL,(Builtin.copy_ #[39,39] ty #[.slice (some ⟨g,i * 3,none⟩) (xs.length + 1 - i) qL,.slice ju 1 1]).run Tryz.prog lT= .ok (goInt 1) (lT.setRow g (c1.take (i * 3) ++ aI.cells s ++ c1.drop (i * 3 + (aI.cells s).length)).toArray):=fun ty qL=>by
  have h:=Ku (P:=Tryz.prog) lT 39 39 ty 214 i0 g (i * 3) 1 (xs.length + 1 - i) qL ⟨ju,0,none⟩ 1 1 c1.toArray 214 (aI.cells s) Tryz.underlying39 hi yS (by simp only [Nat.min_def];split <;> omega) (by rw [dC];rfl)
   (fun j v bH=>by
    have e:Addr.add ⟨ju,0,none⟩ j=⟨ju,j,none⟩:=by unfold Addr.add;split <;> simp_all
    rw [e,UN.cell];simpa using bH) (by rw [ij,List.size_toArray,wi];omega) (fun v aw=>wH s v aw)
  simpa using h
 obtain⟨c2,jD⟩ :∃c2,c2= c1.take (i * 3) ++ aI.cells s ++ c1.drop (i * 3 + (aI.cells s).length):=⟨_,rfl⟩
 rw [← jD] at nk
 have jM:c2= cur.toList.take (i * 3) ++ aI.cells s ++ (xs.drop i).flatMap aI.cells ++ cur.toList.drop ((xs.length + 1) * 3):=by
  have t1:(cur.toList.take ((i + 1) * 3)).length= (i + 1) * 3:=by rw [List.length_take,jK];omega
  have a1:c1.take (i * 3)= cur.toList.take (i * 3):=by
   rw [gK,List.append_assoc,List.take_append,t1,List.take_take,show min (i * 3) ((i + 1) * 3)= i * 3 by omega,show i * 3 - (i + 1) * 3= 0 by omega,List.take_zero,List.append_nil]
  have a2:c1.drop (i * 3 + (aI.cells s).length)= (xs.drop i).flatMap aI.cells ++ cur.toList.drop ((xs.length + 1) * 3):=by
   rw [ij,show i * 3 + 3= (i + 1) * 3 by omega,gK,List.append_assoc,List.drop_left' t1,oQ,show (i + 1) * 3 + (xs.length - i) * 3= (xs.length + 1) * 3 by omega]
  rw [jD,a1,a2,List.append_assoc,List.append_assoc,List.append_assoc]
 have hR:aq (lT.setRow g c2.toArray) g 214 c2.toArray:=yS.setRow;have GG:=WM (B:=B) ij xs i (by omega) s cur.toList c2 c g _ jK OE kq ql jM hR oh;have hL:w.grownBy (lT.setRow g c2.toArray) (some g):=qg gw FH;have Ew:=J GG;have ud:=J hL;clear GG hL hR jM jD UN yS wi gK AM ql xI FJ oQ gw jK
 have bz:¬(c= i):=by omega
 have aN:¬(c= i + 1):=by omega
 have Ep:=J qk;have Er:=J nk;have yB:=J VX;clear qk nk VX bP bm ic
 haveI:Nonempty (cN (fun _:World=>True)):=⟨⟨w,trivial⟩⟩
 go_in
 go_wp2_with (simp only [yB.out])
 refine oU (fun _=>True) [([0,1,2,3,4,5,6,7],8)] [] (by kernel_rfl) (by kernel_rfl) trivial ?_
 refine ha fun K gj=>?_
 change wpQuiet _ _ _ _ (_ ::_ ::_ ::_ ::_ ::_ ::_ ::_ ::[]) _
 repeat (go_big_quiet_step (fail))
 refine wpQuiet_nil ?_
 change wpList _ _ _ (_ ::[]) _ _
 go_wp2_with (with_reducible refine KQ _ rfl _ _ 39 39 rfl _ _ rfl rfl (Ep.out _ _ _) ?_)
 refine hn (C:=fun _:World=>True) trivial (gj _ _ ?_)
 refine mA ?_
 refine wpQuiet_nil ?_
 go_wp2_with (with_reducible refine KQ _ rfl _ _ 39 39 rfl _ _ rfl rfl (Er.out _ _) ?_)
 go_wp2
 go_ret
 exact⟨g,c,rfl,Ew.out,ud.out⟩
theorem alO (B:Nat) (g:Nat) (xs:List aI) (aY:xs.length≤1048575) (i:Nat) (NV:i < xs.length) (s:aI) (ju:Nat) (w:World) (oi:B≤w.heap.size)
  (bP:aV B 214 3 aI.cells w (.slice g xs xs) xs) (ic:aq w ju 214 (aI.cells s).toArray):
 Calls Tryz.prog 331 #[.slice g xs xs,.int .i64 (i:Int),.slice ju 1 1] w fun e ag=>
  ∃bo cM,e= .returned (.slice (some ⟨bo,0,none⟩) (xs.length + 1) cM)∧aV B 214 3 aI.cells ag (.slice (some ⟨bo,0,none⟩) (xs.length + 1) cM) (xs.take i ++ s ::xs.drop i)∧w.grownBy ag (some g):=by
 obtain⟨i0,hi,dy,dC,dN⟩:=info_parts AQ
 obtain⟨_,oh,_,kq,cur,bm,iy,xI⟩:=bP.parts
 have VY:cur.toList.take (i * 3)= (xs.take i).flatMap aI.cells:=by
  rw [MW ij,← xI,List.take_take]
  congr 1;omega
 have AM:∀(W:World),aq W g 214 cur→∀j v,((xs.drop i).flatMap aI.cells)[j]? =some v→W.cell? (Addr.add ⟨g,i * 3,none⟩ j)= some v:=fun W bI j v aw=>by
  have h1:=Ua ij xs i j v aw
  rw [← xI,List.getElem?_take] at h1
  split at h1
  ·have e:Addr.add ⟨g,i * 3,none⟩ j=⟨g,i * 3 + j,none⟩:=by unfold Addr.add;split <;> simp_all
   rw [e,bI.cell]
   simpa using h1
  ·cases h1
 have oQ:((xs.drop i).flatMap aI.cells).length= (xs.length - i) * 3:=by rw [mq ij];simp
 have CW:((xs.take i).flatMap aI.cells).length= i * 3:=by rw [mq ij,List.length_take,Nat.min_eq_left (by omega)]
 have FJ:∀v ∈ (xs.drop i).flatMap aI.cells,v.oneCell'= true:=fun u hu=>by obtain⟨y,_,hy⟩:=List.mem_flatMap.1 hu;exact wH y u hy
 have hold:(Builtin.firstCells i0.size i (.slice g i xs.length)).run Tryz.prog w.drew= .ok ((xs.take i).flatMap aI.cells).toArray w.drew:=by
  rw [dC]
  exact run_firstCells_some w.drew 3 i ⟨g,0,none⟩ i xs.length ((xs.take i).flatMap aI.cells) CW (fun j v bH=>by
   have e:Addr.add ⟨g,0,none⟩ j=⟨g,j,none⟩:=by unfold Addr.add;split <;> simp_all
   rw [e,(show aq w.drew g 214 cur from bm).cell]
   rw [← VY,List.getElem?_take] at bH
   split at bH
   ·simpa using bH
   ·cases bH)
 have Db:(xs.length:Int) + 1 - (i:Int)= ((xs.length + 1 - i:Nat):Int):=by omega
 have NW:i + (xs.length + 1 - i)= xs.length + 1:=by omega
 obtain⟨G,bT⟩ :∃G,G= grownCap w (xs.length + 1) xs.length 214:=⟨_,rfl⟩
 obtain⟨z,cc⟩ :∃z:Value,z= .agg #[(0:Int),(0:Int),(0:Int)]:=⟨_,rfl⟩
 rw [← cc] at dy
 have JG:z.cells.size= 3:=by rw [cc];rfl
 obtain⟨nh,Jj⟩ :∃nh:Array Value,nh= ((xs.take i).flatMap aI.cells).toArray ++ Builtin.zeroCells z.cells (xs.length + 1 - i) ++ Builtin.zeroCells z.cells (G - (xs.length + 1)):=⟨_,rfl⟩
 have aia:xs.length + 1≤G:=by rw [bT];exact grownCap_ge w _ _ _
 have UC:G≤maxLen:=by rw [bT];exact grownCap_le_maxLen w _ _ _ (by unfold maxLen;omega)
 have atn:G≤9223372036854775807:=UC
 have Jy:∀ty,(Builtin.append_ #[39,3] ty #[.slice g i xs.length,.int .i64 ((xs.length:Int) + 1 - (i:Int))]).run Tryz.prog w= .ok (.slice w.heap.size (xs.length + 1) G) (w.drew.alloc (.cells nh 214)):=fun ty=>by
  have h:=Lib.run_append_grow_zeros w 39 3 ty 214 i0 z .i64 .i64 Tryz.underlying39 Tryz.underlying3 hi dy (some ⟨g,0,none⟩) i xs.length ((xs.take i).flatMap aI.cells) hold (xs.length + 1 - i) (by omega) (by omega) (by omega) (by omega) (by rw [dN];omega) (by rw [dN,NW];exact growslice_fits (by omega) (by omega))
  rw [NW,← bT,← Jj] at h
  rw [Db]
  exact h
 have Nu:nh.size= G * 3:=by
  rw [Jj]
  simp only [Array.size_append,List.size_toArray,size_zeroCells,JG,CW]
  omega
 have Jk:nh.toList.length= G * 3:=by rw [Array.length_toList];exact Nu
 have ql:nh.toList.take (i * 3)= (xs.take i).flatMap aI.cells:=by
  rw [Jj]
  simp only [Array.toList_append,List.append_assoc]
  exact List.take_left' CW
 have CK:aq (w.drew.alloc (.cells nh 214)) w.heap.size 214 nh:=aq.new w.drew 214 nh;have FL:Below w w (w.drew.alloc (.cells nh 214)):=(Below.refl _ _).drew.alloc (Nat.le_refl _) _;have Ny:=ic.to FL;have Jr:=bm.to FL;have ajh:=bm.lt;have akc:=ic.lt
 obtain⟨N,eL⟩ :∃N,N= w.heap.size:=⟨_,rfl⟩
 rw [← eL] at Jy CK ajh akc
 clear Jj hold NW Db bm ic
 obtain⟨lT,CP⟩ :∃lT,lT= w.drew.alloc (.cells nh 214):=⟨_,rfl⟩
 rw [← CP] at Jy CK FL Ny Jr
 have qk:∀ty qL,(Builtin.copy_ #[39,39] ty #[.slice (some ⟨N,i * 3,none⟩) (xs.length + 1 - i) qL,.slice ju 1 1]).run Tryz.prog lT= .ok (goInt 1) (lT.setRow N (nh.toList.take (i * 3) ++ aI.cells s ++ nh.toList.drop (i * 3 + (aI.cells s).length)).toArray):=fun ty qL=>by
  have h:=Ku (P:=Tryz.prog) lT 39 39 ty 214 i0 N (i * 3) 1 (xs.length + 1 - i) qL ⟨ju,0,none⟩ 1 1 nh 214 (aI.cells s) Tryz.underlying39 hi CK (by simp only [Nat.min_def];split <;> omega) (by rw [dC];rfl)
   (fun j v bH=>by
    have e:Addr.add ⟨ju,0,none⟩ j=⟨ju,j,none⟩:=by unfold Addr.add;split <;> simp_all
    rw [e,Ny.cell];simpa using bH) (by rw [ij,Nu];omega) (fun v aw=>wH s v aw)
  simpa using h
 obtain⟨c1,gK⟩ :∃c1,c1= nh.toList.take (i * 3) ++ aI.cells s ++ nh.toList.drop (i * 3 + (aI.cells s).length):=⟨_,rfl⟩
 rw [← gK] at qk
 have wi:c1.length= G * 3:=by
  rw [gK];simp only [List.length_append,List.length_take,List.length_drop,ij,Jk];omega
 have yS:aq (lT.setRow N c1.toArray) N 214 c1.toArray:=CK.setRow;have gw:lT.grownBy (lT.setRow N c1.toArray) (some N):=FH;have NT:aq (lT.setRow N c1.toArray) g 214 cur:=(gw.block g Jr.lt (fun e=>by have:=Option.some.inj e;omega)).trans Jr
 obtain⟨kb,UO⟩ :∃kb,kb= lT.setRow N c1.toArray:=⟨_,rfl⟩
 rw [← UO] at qk yS gw NT
 have nk:∀ty qL eV,(Builtin.copy_ #[39,39] ty #[.slice (some ⟨N,(i + 1) * 3,none⟩) (xs.length - i) qL,.slice (some ⟨g,i * 3,none⟩) (xs.length - i) eV]).run Tryz.prog kb.drew= .ok (goInt ((xs.length - i:Nat):Int)) (kb.drew.setRow N (c1.take ((i + 1) * 3) ++ (xs.drop i).flatMap aI.cells ++ c1.drop ((i + 1) * 3 + ((xs.drop i).flatMap aI.cells).length)).toArray):=fun ty qL eV=>by
  have h:=Ku (P:=Tryz.prog) kb.drew 39 39 ty 214 i0 N ((i + 1) * 3) (xs.length - i) (xs.length - i) qL ⟨g,i * 3,none⟩ (xs.length - i) eV c1.toArray 214 ((xs.drop i).flatMap aI.cells) Tryz.underlying39 hi yS (by simp only [Nat.min_def];split <;> omega) (by rw [oQ,dC]) (AM _ NT) (by rw [oQ,List.size_toArray,wi];omega) FJ
  simpa using h
 obtain⟨c2,jD⟩ :∃c2,c2= c1.take ((i + 1) * 3) ++ (xs.drop i).flatMap aI.cells ++ c1.drop ((i + 1) * 3 + ((xs.drop i).flatMap aI.cells).length):=⟨_,rfl⟩
 rw [← jD] at nk
 have jM:c2= nh.toList.take (i * 3) ++ aI.cells s ++ (xs.drop i).flatMap aI.cells ++ nh.toList.drop ((xs.length + 1) * 3):=by
  have t1:(nh.toList.take (i * 3) ++ aI.cells s).length= (i + 1) * 3:=by rw [List.length_append,List.length_take,Jk,ij];omega
  have a1:c1.take ((i + 1) * 3)= nh.toList.take (i * 3) ++ aI.cells s:=by
   rw [gK,List.take_left' t1]
  have a2:c1.drop ((i + 1) * 3 + ((xs.drop i).flatMap aI.cells).length)= nh.toList.drop ((xs.length + 1) * 3):=by
   rw [oQ,← List.drop_drop,gK,List.drop_left' t1,List.drop_drop,ij]
   congr 1;omega
  rw [jD,a1,a2]
 have hR:aq (kb.drew.setRow N c2.toArray) N 214 c2.toArray:=(show aq kb.drew N 214 c1.toArray from yS).setRow;have GG:=WM (B:=B) ij xs i (by omega) s nh.toList c2 G N _ Jk aia UC ql jM hR (by omega)
 have hL:w.grownBy (kb.drew.setRow N c2.toArray) (some g):=by
  have h1:Below w w kb:=(Na (gw) (eL ▸ (show N≤lT.heap.size from Nat.le_of_lt CK.lt)) (fun k az=>by have:=Option.some.inj az;omega):Below w lT kb) |> FL.trans;have h2:Below w w (kb.drew.setRow N c2.toArray):=h1.drew.trans (Na (FH (w:=kb.drew)) (by have:=h1.size;show w.heap.size≤kb.heap.size;exact this) (fun k az=>by have:=Option.some.inj az;omega))
  exact lU h2 _
 have Ew:=J GG;have ud:=J hL
 have uV:¬(G= i):=by omega
 have lJ:¬(G= i + 1):=by omega
 have ajs:¬(xs.length= i):=by omega
 have Df:(xs.length:Int) < (xs.length:Int) + 1:=by omega
 have Ep:=J qk;have Er:=J nk;have aeJ:=J Jy;clear qk nk Jy GG hL hR jM jD NT gw yS wi gK Ny Jr FL CK ql Jk Nu cc JG AM xI VY FJ oQ CW bP CP UO bT eL
 haveI:Nonempty (cN (fun _:World=>True)):=⟨⟨w,trivial⟩⟩
 go_in
 go_wp2_with (first
  | (at_builtin;refine Lib.wpList_append_run _ rfl _ _ _ _ rfl _ _ rfl rfl _ _ (aeJ.out _) ?_)
  | (with_reducible refine KQ _ rfl _ _ 39 39 rfl _ _ rfl rfl (Ep.out _ _) ?_))
 refine oU (fun _=>True) [([0,1,2,3,4,5,6,7],8)] [] (by kernel_rfl) (by kernel_rfl) trivial ?_
 refine ha fun K gj=>?_
 change wpQuiet _ _ _ _ (_ ::_ ::_ ::_ ::_ ::_ ::_ ::_ ::[]) _
 repeat (go_big_quiet_step (fail))
 refine wpQuiet_nil ?_
 change wpList _ _ _ (_ ::[]) _ _
 go_wp2_with (with_reducible refine KQ _ rfl _ _ 39 39 rfl _ _ rfl rfl (Er.out _ _ _) ?_)
 refine hn (C:=fun _:World=>True) trivial (gj _ _ ?_)
 refine mA ?_
 refine wpQuiet_nil ?_
 go_wp2
 go_ret
 exact⟨N,G,rfl,Ew.out,ud.out⟩
theorem WL (B:Nat) (g c:Nat) (xs:List aI) (aY:xs.length≤1048575) (i:Nat) (hi:i≤xs.length) (s:aI) (ju:Nat) (w:World) (oi:B≤w.heap.size) (eP:ju≠g)
  (bP:aV B 214 3 aI.cells w (.slice g xs c) xs) (ic:aq w ju 214 (aI.cells s).toArray):
 Calls Tryz.prog 331 #[.slice g xs c,.int .i64 (i:Int),.slice ju 1 1] w fun e ag=>
  ∃bo cM,e= .returned (.slice (some ⟨bo,0,none⟩) (xs.length + 1) cM)∧aV B 214 3 aI.cells ag (.slice (some ⟨bo,0,none⟩) (xs.length + 1) cM) (xs.take i ++ s ::xs.drop i)∧w.grownBy ag (some g):=by
 by_cases h1:i= xs.length
 ·subst h1
  rw [List.take_length,List.drop_length]
  exact alN B g c xs aY s ju w oi bP ic
 ·by_cases h2:xs.length + 1≤c
  ·exact alP B g c xs aY i (by omega) h2 s ju w eP bP ic
  ·have h3:=bP.parts.2.2.1
   obtain rfl:c= xs.length:=by omega
   exact alO B g xs aY i (by omega) s ju w oi bP ic
open Go.RowKit Go.G9
theorem jP (x:aL):(aL.cells x).length= 3:=rfl
theorem tL (x:aL):∀u,u ∈ aL.cells x→u.oneCell'= true:=by
 intro u hu
 simp only [aL.cells,List.mem_cons,List.not_mem_nil,or_false] at hu
 rcases hu with rfl | rfl | rfl <;> rfl
def jb {T:Type} (o:Option (List T)):List T:=o.getD []
theorem Uc {T V:Type} {sz:Nat} {f:T→List V} (hf:∀y,(f y).length= sz) {y:T} {u:V} {i:Nat} (hi:i < sz):∀(xs:List T) (j:Nat) (x:T),xs[j]? =some x→f y= (f x).set i u→(xs.set j y).flatMap f= (xs.flatMap f).set (j * sz + i) u
 | [],j,x,h,_=>by simp at h
 | z ::xs,0,x,h,hy=>by
  simp at h;subst h
  simp only [List.set_cons_zero,List.flatMap_cons,Nat.zero_mul,Nat.zero_add]
  rw [List.set_append_left _ _ (by rw [hf];exact hi),hy]
 | z ::xs,j + 1,x,h,hy=>by
  have eM:=Uc hf hi xs j x (by simpa using h) hy
  simp only [List.set_cons_succ,List.flatMap_cons]
  rw [eM,List.set_append_right _ _ (by rw [hf,Nat.succ_mul];omega),hf]
  congr 1
  congr 1
  rw [Nat.succ_mul];omega
theorem Bh {T:Type} {B:Nat} {e:TypeId} {sz:Nat} {f:T→List Value} {w:World} {g n c:Nat} {xs:List T} (h:aV B e sz f w (.slice g n c) xs) (hf:∀y,(f y).length= sz) {j i:Nat} {x y:T} {u:Value} (ay:xs[j]? =some x) (hi:i < sz) (hy:f y= (f x).set i u):aV B e sz f (w.setCell ⟨g,j * sz + i,none⟩ u) (.slice g n c) (xs.set j y):=by
 unfold aV at h ⊢
 rw [List.length_set,Uc hf hi xs j x ay hy]
 exact Yh h rfl
theorem Bg {T:Type} {B:Nat} {e:TypeId} {sz:Nat} {f:T→List Value} {w:World} {g n c:Nat} {xs:List T} (h:aV B e sz f w (.slice g n c) xs) (hf:∀y,(f y).length= sz) {j i:Nat} (bH:j < xs.length) (hi:i < sz):w.frozen? ⟨g,j * sz + i,none⟩ =false:=by
 refine (Yg h rfl ?_).2
 rw [mq hf]
 have:(j + 1) * sz≤xs.length * sz:=Nat.mul_le_mul_right _ bH
 rw [Nat.succ_mul] at this
 omega
theorem rV {T:Type} {sz:Nat} {f:T→List Value} {B:Nat} {e:TypeId} {w:World} {g n c:Nat} {xs:List T} (h:aV B e sz f w (.slice g n c) xs) (hf:∀y,(f y).length= sz) {j:Nat} {x:T} (ay:xs[j]? =some x) {i:Nat} {u:Value} (hu:(f x)[i]? =some u):w.cell? ⟨g,j * sz + i,none⟩ =some u:=by
 obtain⟨hc,cM,gC,_,bL,_⟩:=h.form hf
 injection gC with e1 _ _
 subst e1
 obtain⟨uB,auf,y,e9,_,hy,aE⟩:=bL.at_ (Below.refl _ _) (k:=j) (List.getElem?_eq_some_iff.1 ay).1
 cases e9
 obtain rfl:x= y:=Option.some.inj (ay.symm.trans hy)
 have:=aE i u hu (ax.self _)
 simp only [ax.self,Nat.zero_add] at this
 exact this
theorem vx {P:Program} {w:World} {ops:Array Oper} {rest:List Oper} {o:Oper} {a:Act} {Q:Exit→Act→World→Prop} (nF:o.guard= none) (s x:Operand) (t:TypeId)
  (cY:o.op= .call {callee:= .builtin .append,args:=#[s,x],argTypes:=#[t,t]})
  (B:Nat) (e:TypeId) (i:TypeInfo) (z:Value) (sz bytes:Nat) (cE:P.underlying t= some (.slice e)) (hi:P.info? e= some i) (cc:i.zero= some z)
  (va:i.size= sz) (uN:i.bytes= bytes) (vi:z.cells.size= sz) (eZ:0 < sz) {T:Type} (f:T→List Value) (hf:∀y,(f y).length= sz) (ks:∀y u,u ∈ f y→u.oneCell'= true)
  (g:Nat) (aX:a.eval s= .slice g 0 0) (cw:aq w g e #[]) (oh:B≤g) (aj:Option Addr) (c2:Nat) (ys:List T) (n:Nat) (aY:n= ys.length) (ay:a.eval x= .slice aj n c2) (bL:aH sz f w aj ys) (aR:aj= none→ys= []∧c2= 0)
  (h63:ys.length≤maxLen) (uO:ys.length * bytes≤140737488355328)
  (h:∀bo cM ag,aV B e sz f ag (.slice (some ⟨bo,0,none⟩) ys cM) ys→Below w w ag→wpList P ops Q rest (a.put o.dst (.slice (some ⟨bo,0,none⟩) n cM)) ag):wpList P ops Q (o ::rest) a w:=by
 subst aY
 exact zH nF s x t cY B e i z sz bytes cE hi cc va uN vi eZ f hf ks g aX cw oh aj c2 ys ay bL aR h63 uO h
def mb (rs:List aJ) (qs:List aL):Bool:=dD rs qs && jN rs qs
theorem QV {p:Prop} (h:p:=by
 rintro e bd ⟨rfl,bz⟩
 have au:=be w bz;have I:Below w w bd:=au
 go_wp2
 go_ret
 exact⟨rfl,(ah I av)⟩):p:=h
theorem AZ (an:Option Addr) (c0:Nat) (rs:List aJ) (h0:rs.length≤1048576) (ga:rs.length≤c0) (ar:Option Addr) (c1:Nat) (qs:List aL) (h1:qs.length≤1048576) (v:Bool) (aw:mb rs qs= v) (w:World) (aU:aH 7 aJ.cells w an rs) (aT:aH 3 aL.cells w ar qs):Calls Tryz.prog 262 #[.slice an rs c0,.slice ar qs c1] w fun e ag=>e= .returned (.bool v)∧Below w w ag:=by
 subst aw
 cases aO:dD rs qs
 ·have eg:=J aO
  have e:mb rs qs= false:=by simp [mb,aO]
  rw [e]
  clear aO e
  go_in
  go_wp2_with fail
  refine (nA an c0 rs h0 ga ar c1 qs h1 _ eg.out _ (aU.below av) (aT.below av)).mono ?_
  exact QV
 ·by_cases iA:qs.length= 0
  ·have eg:=J aO
   have e:mb rs qs= false:=by rw [mb,JU iA,Bool.and_false]
   rw [e]
   clear aO e
   obtain rfl:=List.length_eq_zero_iff.1 iA
   clear iA
   go_in
   go_wp2_with fail
   refine (nA an c0 rs h0 ga ar c1 [] h1 _ eg.out _ (aU.below av) (aT.below av)).mono ?_
   exact QV
  ·obtain⟨j,bH⟩ :∃j,qs.length= j + 1:=⟨qs.length - 1,by omega⟩
   obtain⟨gJ,gL,q,rfl,_,aZ,_⟩:=aT.at_ (Below.refl _ _) (k:=j) (by omega)
   obtain⟨t,cE⟩:=oA aO aZ
   have e:mb rs qs= kt t q:=by rw [mb,aO,xR bH aZ cE];rfl
   rw [e]
   obtain⟨qr,cg,dw⟩:=q
   have eg:=J aO;have cV:=J aZ;have bX:=J cE;have eH:=J bH
   have ie:j≤1048576:=by omega
   clear aO aZ cE e iA
   obtain⟨v,aw⟩ :∃v,kt t ⟨qr,cg,dw⟩ =v:=⟨_,rfl⟩
   have bC:=J aw
   rw [aw]
   clear aw;have cX:=J (fun W (h:aH 7 aJ.cells W an rs) (du:aH 3 aL.cells W (some ⟨gJ,gL,none⟩) qs)=>nA an c0 rs h0 ga (some ⟨gJ,gL,none⟩) c1 qs h1 _ eg.out W h du)
   rw [bH] at cX ⊢
   clear bH
   go_in
   go_wp2_with fail
   refine (cX.out _ (aU.below av) (aT.below av)).mono ?_
   rintro e bd ⟨rfl,bz⟩
   have au:=be w bz;have I:Below w w bd:=au;replace aU:=aU.below au;replace aT:=aT.below au
   obtain⟨_,_,y,e9,fS,hy,db⟩:=aT.at_ (Below.refl _ _) (k:=j) (by have:=eH.out;omega)
   cases e9
   obtain rfl:(⟨qr,cg,dw⟩ :aL)= y:=Option.some.inj (cV.out.symm.trans hy)
   clear hy;have cu:=db 0 _ rfl;have dI:=db 1 _ rfl;have dj:=db 2 _ rfl
   simp only [Nat.add_zero] at cu
   have g0:=cu (ax.self _);have g1:=dI (ax.self _);have g2:=dj (ax.self _)
   simp only [ax.self] at g0
   simp only [ax.self] at g1
   simp only [ax.self] at g2
   clear db cu dI dj
   go_wp2_with fail
   refine (vl an c0 rs h0 ⟨qr,cg,dw⟩ t bX.out v bC.out _ (aU.below av)).mono ?_
   rintro e aM ⟨rfl,aN⟩
   have ao:=be bd aN;replace I:=ah I ao
   go_wp2
   go_ret
   exact⟨rfl,(ah I av)⟩
theorem XP {rs:List aJ} {qs:List aL} {id mem:Int} (h:dD rs qs= false):jO rs qs id mem= none:=by simp [jO,h]
theorem XQ {rs:List aJ} {qs:List aL} {id mem:Int} (h:eG mem= false):jO rs qs id mem= none:=by simp [jO,h]
theorem XR {rs:List aJ} {qs:List aL} {id mem:Int} (h:hasB (hz rs qs) id= false):jO rs qs id mem= none:=by simp [jO,h]
theorem XS {rs:List aJ} {qs:List aL} {id mem:Int} (h:dD rs qs= true) (h2:eG mem= true) (h3:hasB (hz rs qs) id= true):jO rs qs id mem= some (qs ++ [⟨id,mem,false⟩]):=by simp [jO,h,h2,h3]
theorem adv {p:Prop} (h:p:=by
 clear aO
 go_in
 go_wp2_with fail
 refine (nA an c0 rs h0 ga ar c1 qs h1 _ eg.out _ (aU.below av) (aT.below av)).mono ?_
 rintro e bd ⟨rfl,bz⟩
 have au:=be w bz;have I:Below w w bd:=au
 go_wp2
 go_ret2
 exact⟨none,0,rfl,aV.nil,(ah I av)⟩):p:=h
theorem adC {p:Prop} (h:p:=by
 rintro e bd ⟨rfl,bz⟩
 have au:=be w bz;have I:Below w w bd:=au
 go_wp2_with fail
 refine (iT mem _ dR.out _).mono ?_
 rintro e w0 ⟨rfl,h0⟩
 rw [h0]
 clear h0 w0
 go_wp2
 go_ret2
 exact⟨none,0,rfl,aV.nil,(ah I av)⟩):p:=h
theorem aay {p:Prop} (h:p:=by
 rintro e bB ⟨rfl,bG⟩
 have aK:=be aM bG;replace I:=ah I aK;replace aT:=aT.below aK;clear yG;have aR:=uf.out;have gm:=J (fun e u=>(aT.below (bZ bB (.cells #[] e))):∀(e:TypeId) (u:Unit),aH 3 aL.cells (bB.alloc (.cells #[] e)) ar qs);have tP:=I.size
 go_wp2_with ((first
  | (at_builtin;refine zH rfl _ _ 37 rfl bB.heap.size 115 i0 _ 3 24 Tryz.underlying37 hi dy dC dN rfl (by decide) aL.cells jP tL bB.heap.size rfl (aq.new _ _ _) (Nat.le_refl _) ar c1 qs rfl (gm.out _ ()) aR (by unfold maxLen;omega) (by omega) ?_;intro bo cM nt fB eW;have oo:Below bB bB nt:=ah (bZ _ _) eW;have Qo:=oo.size;clear aR)
  | (at_builtin;refine lA rfl _ _ 37 rfl bB.heap.size 115 i0 _ 3 24 Tryz.underlying37 hi dy dC dN rfl (by decide) aL.cells jP tL _ qs rfl (fB.alloc _) ⟨nt.heap.size,0,none⟩ 1 ⟨id,mem,false⟩ rfl (aH.one (f:=aL.cells) ⟨id,mem,false⟩ _) (by unfold maxLen;omega) (by omega) (by simp;omega) ?_;intro v4 ca fj gx lX)))
 have gP:Below bB bB ca:=(oo.alloc (by omega) _).grown gx (by simp;omega) (fun q aZ=>(fB.lt q aZ).1)
 obtain⟨Y,gT,rfl,_,_,_⟩:=fj.form jP
 go_wp2
 go_ret2
 exact⟨Y,gT,rfl,fj.base (by omega),ah I gP⟩):p:=h
theorem WA (an:Option Addr) (c0:Nat) (rs:List aJ) (h0:rs.length≤1048576) (ga:rs.length≤c0) (ar:Option Addr) (c1:Nat) (qs:List aL) (h1:qs.length≤1048576) (aR:ar= none→qs= []∧c1= 0) (id mem:Int) (w:World) (aU:aH 7 aJ.cells w an rs) (aT:aH 3 aL.cells w ar qs):Calls Tryz.prog 254 #[.slice an rs c0,.slice ar qs c1,id,mem] w fun e ag=>∃A c,e= .returned (.tuple #[.slice A (jb (jO rs qs id mem)).length c,.bool (jO rs qs id mem).isSome])∧aV w 115 3 aL.cells ag (.slice A (jb (jO rs qs id mem)).length c) (jb (jO rs qs id mem))∧Below w w ag:=by
 obtain⟨i0,hi,dy,dC,dN⟩:=info_parts sH
 have uf:=J aR;clear aR
 cases aO:dD rs qs
 ·have eg:=J aO
  rw [XP aO]
  exact adv
 cases hm:eG mem
 ·have eg:=J aO;have dR:=J hm
  rw [XQ hm]
  clear aO hm
  go_in
  go_wp2_with fail
  refine (nA an c0 rs h0 ga ar c1 qs h1 _ eg.out _ (aU.below av) (aT.below av)).mono ?_
  exact adC
 have jE:(hz rs qs).length≤1048576:=Nat.le_trans (XA rs qs) h0
 cases aX:hasB (hz rs qs) id
 ·have eg:=J aO;have dR:=J hm;have eA:=J aX
  rw [XR aX]
  clear aO hm aX
  go_in
  go_wp2_with fail
  refine (nA an c0 rs h0 ga ar c1 qs h1 _ eg.out _ (aU.below av) (aT.below av)).mono ?_
  rintro e bd ⟨rfl,bz⟩
  have au:=be w bz;have I:Below w w bd:=au;replace aU:=aU.below au;replace aT:=aT.below au
  go_wp2_with fail
  refine (iT mem _ dR.out _).mono ?_
  rintro e w0 ⟨rfl,h0⟩
  rw [h0]
  clear h0 w0
  go_wp2_with fail
  refine (Pm an c0 rs h0 ar c1 qs h1 eg.out _ (aU.below av) (aT.below av)).mono ?_
  rintro e aM ⟨py,c5,rfl,iw,aN⟩
  have ao:=be bd aN;replace I:=ah I ao;have yG:=iw.dE (hf:=fZ);clear iw
  go_wp2_with fail
  refine (Am py c5 (hz rs qs) id jE _ eA.out _ (yG.below av)).mono ?_
  rintro e bB ⟨rfl,bG⟩
  have aK:=be aM bG;replace I:=ah I aK
  go_wp2
  go_ret2
  exact⟨none,0,rfl,aV.nil,(ah I av)⟩
 ·have eg:=J aO;have dR:=J hm;have eA:=J aX
  rw [XS aO hm aX]
  clear aO hm aX
  go_in
  go_wp2_with fail
  refine (nA an c0 rs h0 ga ar c1 qs h1 _ eg.out _ (aU.below av) (aT.below av)).mono ?_
  rintro e bd ⟨rfl,bz⟩
  have au:=be w bz;have I:Below w w bd:=au;replace aU:=aU.below au;replace aT:=aT.below au
  go_wp2_with fail
  refine (iT mem _ dR.out _).mono ?_
  rintro e w0 ⟨rfl,h0⟩
  rw [h0]
  clear h0 w0
  go_wp2_with fail
  refine (Pm an c0 rs h0 ar c1 qs h1 eg.out _ (aU.below av) (aT.below av)).mono ?_
  rintro e aM ⟨py,c5,rfl,iw,aN⟩
  have ao:=be bd aN;replace I:=ah I ao;replace aT:=aT.below ao;have yG:=iw.dE (hf:=fZ);clear iw
  go_wp2_with fail
  refine (Am py c5 (hz rs qs) id jE _ eA.out _ (yG.below av)).mono ?_
  exact aay
end Go.Proofs.YtlaaemmmbodaaaaGreatDoor
namespace Go.G9
open Go.RowKit
theorem aq.kG {w ag:World} {g:Nat} {row:Option Nat} {t:TypeId} {cs:Array Value} (h:aq w g t cs) (cw:w.grownBy ag row) (eP:some g≠row):aq ag g t cs:=(cw.block g h.lt eP).trans h
open Go.RowKit
theorem aV.xW {T:Type} {B sz:Nat} {f:T→List Value} {e t:TypeId} {w:World} {g n c p:Nat} {xs:List T} {cs:Array Value} (h:aV B e sz f w (.slice g n c) xs) (aB:aq w p t cs) (eP:t≠e):p≠g:=by
 rintro rfl
 obtain⟨_,_,_,_,cur,bm,_⟩:=h.parts
 unfold aq at aB bm
 rw [aB] at bm
 injection bm with h1
 injection h1 with _ h2 _
 exact eP h2
theorem aV.tH {T:Type} {B sz:Nat} {f:T→List Value} {e t:TypeId} {w:World} {v:Value} {p:Nat} {xs:List T} {cs:Array Value} (h:aV B e sz f w v xs) (aB:aq w p t cs) (eP:t≠e):∀k,v.ownBlock= some k→k≠p:=by
 rintro k az rfl
 rcases h.2 with ⟨rfl,_⟩ | ⟨g,cap,cur,rfl,bm,dQ,r⟩
 ·cases az
 ·have a1:g= k:=Option.some.inj az
  subst a1
  unfold aq at aB
  rw [aB] at dQ
  injection dQ with h1
  injection h1 with _ h2 _
  exact eP h2
theorem aV.cA {T:Type} {B sz:Nat} {f:T→List Value} {e t:TypeId} {w:World} {v:Value} {p:Nat} {xs:List T} {cs:Array Value} (h:aV B e sz f w v xs) (aB:aq w p t cs) (eP:t≠e:=by decide):∀k,v.ownBlock= some k→k≠p:=h.tH aB eP
theorem aV.apart {T SD:Type} {B B' sz aqG:Nat} {f:T→List Value} {aD:SD→List Value} {e gC:TypeId} {w:World} {v mf:Value} {xs:List T} {ys:List SD} (h:aV B e sz f w v xs) (du:aV B' gC aqG aD w mf ys) (eP:e≠gC):∀k,v.ownBlock= some k→some k≠mf.ownBlock:=by
 intro k az e1
 rcases h.2 with ⟨rfl,_⟩ | ⟨g,cap,cur,rfl,bm,dQ,r⟩
 ·cases az
 ·rcases du.2 with ⟨rfl,_⟩ | ⟨bo,Mt,asC,rfl,hI,Vz,fT⟩
  ·cases e1
  ·have a1:g= k:=Option.some.inj az
   have a2:k= bo:=Option.some.inj e1
   subst a1;subst a2
   rw [dQ] at Vz
   injection Vz with h1
   injection h1 with _ h2 _
   exact eP h2
end Go.G9
namespace Go.Proofs.YtlaaemmmbodaaaaGreatDoor
open Go.RowKit Go.G9
theorem aqn {xs:List aI} {s x:aI} {k:Nat} (az:k < xs.length) (h1:∀i y,i < k→xs[i]? =some y→y.mem < s.mem) (ay:xs[k]? =some x) (h2:¬x.mem < s.mem) (h3:x.mem= s.mem):fa xs s= xs.set k s:=by
 rw [DL (k:=k) (by omega) h1 (fun y hy=>by rw [ay] at hy;cases hy;exact h2),ay]
 simp only [h3,if_true]
 rw [List.set_eq_take_append_cons_drop,if_pos az]
theorem Zs {xs:List aI} {s:aI} {k:Nat} (az:k≤xs.length) (h1:∀i y,i < k→xs[i]? =some y→y.mem < s.mem) (h2:∀x,xs[k]? =some x→¬x.mem < s.mem) (h3:∀x,xs[k]? =some x→x.mem≠s.mem):fa xs s= xs.take k ++ s ::xs.drop k:=by
 rw [DL az h1 h2]
 cases ay:xs[k]? with
 | none=>simp only [List.drop_of_length_le (List.getElem?_eq_none_iff.1 ay)]
 | some x=>simp only [if_neg (h3 x ay)]
theorem adr {p:Prop} (h:p:=by
 rintro e Qv ⟨bo,cM,rfl,gW,gw⟩
 have FP:=El.out.kG gw (by intro e;exact AG (Option.some.inj e));have ajM:=gW.xW FP (by decide);have hL:=qg (lU sW.out (some g)) gw;clear Ie El It yB sW gw
 go_wp2
 refine Ah (dZ _ _ ?_)
 refine qx fun EC uH=>?_
 refine wpQuiet_nil ?_
 change wpQuiet _ _ _ _ (_ ::_ ::[]) _
 repeat (go_big_quiet_step (fail))
 refine wpQuiet_nil ?_
 change wpList _ _ _ (_ ::[]) _ _
 have ahL:=FP.frozen 4;have ahq:=(FP.cell 4).trans (show _= some (.slice g U c) from rfl);have Ek:=J (FP.gH 4 (.slice bo (U.length + 1) cM));have nc:=J (gW.kept (lp (j:=4) (qP Qv (some p)) (.slice bo (U.length + 1) cM)) (fun q aZ e=>by have h1:bo= q:=Option.some.inj aZ;have h2:q= p:=Option.some.inj e;omega))
 have aeg:=J hL;have aeh:=J (lp (j:=4) (qP Qv (some p)) (.slice bo (U.length + 1) cM));clear FP gW hL
 go_wp2
 refine Ah (uH _ _ ?_)
 refine BB ?_
 refine wpQuiet_nil ?_
 refine wpQuiet_nil ?_
 go_wp2
 have hle:(fa U s).length= U.length + 1:=by rw [cF.out,List.length_append,List.length_cons,List.length_take,List.length_drop];omega
 refine⟨rfl,Value.tuple #[],by simp [results,Tryz.results307,go_sem],rfl,bo,cM,Qv,aeg.out,aeh.out,?_,?_,ajM⟩
 ·rw [hle];exact Ek.out
 ·have h:=nc.out
  rw [hle,cF.out,es];exact h):p:=h
theorem Zt (B p:Nat) (af ae sp:Int) (tR:Value) (g c:Nat) (U:List aI) (aY:U.length≤1048575) (sm st cn:Int) (s:aI) (es:s=⟨sm,st,cn⟩) (w:World) (Ng:B≤p) (oi:B≤w.heap.size) (AG:p≠g)
  (ai:aq w p 41 #[af,ae,sp,tR,.slice g U c]) (bP:aV B 214 3 aI.cells w (.slice g U c) U):
 Calls Tryz.prog 307 #[.pointer (some ⟨p,0,none⟩),.agg #[sm,st,cn]] w fun e ag=>e= .returned (.tuple #[])∧∃bo cM bd,w.grownBy bd (some g)∧bd.grownBy ag (some p)∧aq ag p 41 #[af,ae,sp,tR,.slice (some ⟨bo,0,none⟩) (fa U s).length cM]∧aV B 214 3 aI.cells ag (.slice (some ⟨bo,0,none⟩) (fa U s).length cM) (fa U s)∧p≠bo:=by
 have Lu:=J ai;have lP:=J bP;have Ox:=ai.lt;clear ai bP
 go_in
 go_upto_region 1 with fail
 have oO:Below w w (w.alloc (.cells #[sm,st,cn] 214)):=bZ w _;have bN:=aq.new w 214 #[sm,st,cn];have ai:=Lu.out.below oO Lu.out.lt;have bP:=lP.out.later oO
 obtain⟨w0,rK⟩ :∃w0,w0= w.alloc (.cells #[sm,st,cn] 214):=⟨_,rfl⟩
 rw [← rK] at oO bN ai bP
 have eA:=J bN;have cB:=J ai;have dq:=J bP;clear bN ai bP Lu lP
 generalize w.alloc (.cells #[sm,st,cn] 214)= HR at *
 subst rK
 go_wp2
 go_loopw [4] (fun i wr=>∃k:Nat,k≤U.length∧i= .int .i64 k∧(∀j x,j < k→U[j]? =some x→x.mem < s.mem)∧Below w0 w0 wr) (fun i _=>U.length - (intOf i).toNat)
 case atStart=>exact⟨0,Nat.zero_le _,rfl,fun j x h=>absurd h (by omega),Below.refl _ _⟩
 case round=>
  obtain⟨k,az,rfl,aS,aB⟩:=hrel
  have cH:=J aS;clear aS;have fR:=cB.out.below aB cB.out.lt;have gX:=eA.out.below aB eA.out.lt;have hOr:=dq.out.later aB
  have c4:=fun K:ax wr.heap.size wr=>((fR.below K.below fR.lt).cell 4).trans (show _= some (.slice g U c) from rfl)
  have cf:=aq.jV (fun K:ax wr.heap.size wr=>(gX.below K.below gX.lt));have kB:=J fR;have lQ:=J gX;have nd:=J hOr;clear fR gX hOr
  by_cases bl:k < U.length
  ·obtain⟨⟨dW,iM,zI⟩,ay⟩ :∃x,U[k]? =some x:=⟨_,List.getElem?_eq_getElem bl⟩
   have dd:=fun K:ax wr.heap.size wr=>rV (nd.out.later K.below) ij ay (i:=0) (u:= .int .i64 dW) rfl
   simp only [Nat.add_zero] at dd
   have cb:=J ay;clear ay;have Dc:decide ((k:Int) < (U.length:Int))= true:=decide_eq_true (by omega)
   by_cases hm:dW < sm
   ·go_wp2
    refine ew (by kernel_rfl) (by kernel_rfl) ?_
    repeat (go_big_quiet_step ((fail)))
    refine wpQuiet_nil ?_
    intro K
    clear c4 cf dd
    go_wp2
    go_roundw
    case rel=>exact⟨k + 1,by omega,by go_num,fun j y bH hy=>by
     by_cases e:j= k
     ·subst e;rw [cb.out] at hy;cases hy;rw [es];exact hm
     ·exact cH.out j y (by omega) hy,ah aB K.below⟩
    case measure=>simp [intOf];omega
   ·have Dd:decide (dW < sm)= false:=decide_eq_false hm
    go_wp2
    refine ew (by kernel_rfl) (by kernel_rfl) ?_
    repeat (go_big_quiet_step ((fail)))
    refine wpQuiet_nil ?_
    intro K
    clear c4 cf dd Dd;have eW:=ah aB K.below;have fR:=kB.out.below K.below kB.out.lt;have gX:=lQ.out.below K.below lQ.out.lt;have hOr:=nd.out.later K.below;clear kB lQ nd
    generalize K.world= nu at *
    have c4:=fun K:ax nu.heap.size nu=>((fR.below K.below fR.lt).cell 4).trans (show _= some (.slice g U c) from rfl)
    have cf:=aq.jV (fun K:ax nu.heap.size nu=>(gX.below K.below gX.lt))
    have dd:=fun K:ax nu.heap.size nu=>rV (hOr.later K.below) ij cb.out (i:=0) (u:= .int .i64 dW) rfl
    simp only [Nat.add_zero] at dd
    have kB:=J fR;have lQ:=J gX;have nd:=J hOr;clear fR gX hOr
    by_cases he:dW= sm
    ·go_wp2
     refine ew (by kernel_rfl) (by kernel_rfl) ?_
     repeat (go_big_quiet_step ((fail)))
     refine wpQuiet_nil ?_
     intro K
     clear c4 cf dd;have aiD:=ah eW K.below;have fR:=kB.out.below K.below kB.out.lt;have gX:=lQ.out.below K.below lQ.out.lt;have hOr:=nd.out.later K.below;clear kB lQ nd
     generalize K.world= wn at *
     have c4:=fun K:ax wn.heap.size wn=>((fR.below K.below fR.lt).cell 4).trans (show _= some (.slice g U c) from rfl)
     have cf:=aq.jV (fun K:ax wn.heap.size wn=>(gX.below K.below gX.lt));have kB:=J fR;have nd:=J hOr;clear fR gX hOr
     go_wp2
     refine HP 7 (by kernel_rfl) (by kernel_rfl) ?_
     change wpQuiet _ _ _ _ (_ ::_ ::_ ::_ ::_ ::_ ::_ ::[]) _
     repeat (go_big_quiet_step (fail))
     refine wpQuiet_nil ?_
     intro K
     change wpList _ _ _ (_ ::[]) _ _
     clear c4 cf;have bG:=ah aiD K.below;have fR:=kB.out.below K.below kB.out.lt;have hOr:=nd.out.later K.below;clear kB nd
     generalize K.world= hF at *
     have z0:=Bg hOr ij (j:=k) (i:=0) bl (by decide);have bw:=Bg hOr ij (j:=k) (i:=1) bl (by decide);have z2:=Bg hOr ij (j:=k) (i:=2) bl (by decide);have kQ:=rV hOr ij cb.out (i:=0) (u:= .int .i64 dW) rfl;have ym:=rV hOr ij cb.out (i:=1) (u:= .int .i64 iM) rfl;have kA:=rV hOr ij cb.out (i:=2) (u:= .int .i64 zI) rfl
     simp only [Nat.add_zero] at z0 kQ
     have e1:fa U s= U.set k s:=aqn bl (fun j y bH hy=>cH.out j y bH hy) cb.out (by rw [es];show¬dW < sm;omega) (by rw [es];exact he);have gW:=Bh hOr ij (y:=⟨sm,iM,zI⟩) (u:= .int .i64 sm) (i:=0) cb.out (by decide) rfl;have pc:=Bh gW ij (j:=k) (x:=⟨sm,iM,zI⟩) (y:=⟨sm,st,zI⟩) (u:= .int .i64 st) (i:=1) (by rw [List.getElem?_set_self bl]) (by decide) rfl
     have nD:=Bh pc ij (j:=k) (x:=⟨sm,st,zI⟩) (y:=⟨sm,st,cn⟩) (u:= .int .i64 cn) (i:=2) (by rw [List.getElem?_set_self (by rw [List.length_set];exact bl)]) (by decide) rfl
     simp only [List.set_set,Nat.add_zero] at nD
     rw [← es,← e1] at nD
     have Uv:=((fR.vY (p:=⟨g,k * 3,none⟩) AG (.int .i64 sm)).vY (p:=⟨g,k * 3 + 1,none⟩) AG (.int .i64 st)).vY (p:=⟨g,k * 3 + 2,none⟩) AG (.int .i64 cn);have CX:=qg (lU (ah oO bG) (some g)) (lp (j:=k * 3 + 2) (lp (j:=k * 3 + 1) (lp (j:=k * 3) (qP hF (some g)) (.int .i64 sm)) (.int .i64 st)) (.int .i64 cn));have ka:=J nD
     have aee:=J Uv;have aei:=J CX;have cF:=J e1;clear gW pc nD Uv CX e1 hOr fR
     go_wp2
     refine⟨rfl,Value.tuple #[],by simp [results,Tryz.results307,go_sem],rfl,g,c,_,aei.out,qP _ _,?_,?_,AG⟩
     ·have hle:(fa U s).length= U.length:=by rw [cF.out,List.length_set]
      rw [hle];exact aee.out
     ·have hle:(fa U s).length= U.length:=by rw [cF.out,List.length_set]
      have h:=ka.out
      rw [hle];exact h
    ·have uR:(dW == sm)= false:=beq_eq_false_iff_ne.2 he
     go_wp2
     refine ew (by kernel_rfl) (by kernel_rfl) ?_
     repeat (go_big_quiet_step ((fail)))
     refine wpQuiet_nil ?_
     intro K
     clear c4 cf dd uR Dc;have Gi:=ah eW K.below;have fR:=kB.out.below K.below kB.out.lt;have gX:=lQ.out.below K.below lQ.out.lt;have hOr:=nd.out.later K.below;clear kB lQ nd
     generalize K.world= wn at *
     have e1:fa U s= U.take k ++ s ::U.drop k:=Zs az (fun j y bH hy=>cH.out j y bH hy) (fun y hy=>by rw [cb.out] at hy;cases hy;rw [es];show¬dW < sm;omega) (fun y hy=>by rw [cb.out] at hy;cases hy;rw [es];exact he);have Gg:=ah oO Gi
     haveI:Nonempty (cN (fun V=>aq V p 41 #[af,ae,sp,tR,.slice g U c]∧aq V w.heap.size 214 #[sm,st,cn])):=⟨⟨wn,fR,gX⟩⟩
     haveI:Nonempty (cN (fun _=>True)):=⟨⟨wn,trivial⟩⟩
     have c4:=fun K:cN (fun V=>aq V p 41 #[af,ae,sp,tR,.slice g U c]∧aq V w.heap.size 214 #[sm,st,cn])=>(K.holds.1.cell 4).trans (show _= some (.slice g U c) from rfl)
     have cf:=aq.jV (fun K:cN (fun V=>aq V p 41 #[af,ae,sp,tR,.slice g U c]∧aq V w.heap.size 214 #[sm,st,cn])=>K.holds.2);have kB:=J fR;have lQ:=J gX;have nd:=J hOr;have cF:=J e1;clear fR gX hOr e1
     go_wp2
     refine KR (fun V=>aq V p 41 #[af,ae,sp,tR,.slice g U c]∧aq V w.heap.size 214 #[sm,st,cn]) [([1,2,3,4,5,6],[0],7,false),([],[],8,true),([],[9,10],11,true)] [] [] (by kernel_rfl) (by kernel_rfl) ⟨kB.out,lQ.out⟩ ?_
     refine qx fun K gj=>?_
     change wpQuiet _ _ _ _ (_ ::_ ::_ ::_ ::_ ::_ ::[]) _
     repeat (go_big_quiet_step (fail))
     refine wpQuiet_nil ?_
     change wpQuiet _ _ _ _ (_ ::[]) _
     repeat (go_big_quiet_step (fail))
     refine wpQuiet_nil ?_
     change wpList _ _ _ (_ ::[]) _ _
     clear c4 cf;have fR:aq wn.drew p 41 #[af,ae,sp,tR,.slice g U c]:=kB.out;have gX:aq wn.drew w.heap.size 214 #[sm,st,cn]:=lQ.out;have hOr:=nd.out.later (Below.refl _ wn).drew;have cU:Below w w wn.drew:=Gg.drew;clear kB lQ nd
     generalize wn.drew= wd at *
     have Ie:=J (aq.new wd 214 #[sm,st,cn]);have El:=J (fR.alloc (.cells #[sm,st,cn] 214));have It:=J (gX.alloc (.cells #[sm,st,cn] 214));have yB:=J (hOr.alloc (.cells #[sm,st,cn] 214));have sW:=J (ah cU (bZ wd (.cells #[sm,st,cn] 214)))
     have nF:=(hOr.lt g rfl).2;clear fR gX hOr
     go_wp2
     refine Ai ⟨El.out,It.out⟩ (gj _ _ ?_)
     refine qx fun gz dZ=>?_
     refine wpQuiet_nil ?_
     refine wpQuiet_nil ?_
     change wpList _ _ _ (_ ::[]) _ _
     go_wp2_with fail
     refine (WL B g c U aY k (by omega) ⟨sm,st,cn⟩ wd.heap.size _ (by have:=sW.out.size;omega) (by omega) yB.out Ie.out).mono ?_
     exact adr
  ·obtain rfl:k= U.length:=by omega
   go_wp2
   refine ew (by kernel_rfl) (by kernel_rfl) ?_
   repeat (go_big_quiet_step ((fail)))
   refine wpQuiet_nil ?_
   intro K
   clear c4 cf;have eW:=ah aB K.below;have fR:=kB.out.below K.below kB.out.lt;have gX:=lQ.out.below K.below lQ.out.lt;have hOr:=nd.out.later K.below;clear kB lQ nd
   generalize K.world= nu at *
   have c4:=fun K:ax nu.heap.size nu=>((fR.below K.below fR.lt).cell 4).trans (show _= some (.slice g U c) from rfl)
   have cf:=aq.jV (fun K:ax nu.heap.size nu=>(gX.below K.below gX.lt));have kB:=J fR;have lQ:=J gX;have nd:=J hOr;clear fR gX hOr
   go_wp2
   refine ew (by kernel_rfl) (by kernel_rfl) ?_
   repeat (go_big_quiet_step ((fail)))
   refine wpQuiet_nil ?_
   intro K
   clear c4 cf;have Gi:=ah eW K.below;have fR:=kB.out.below K.below kB.out.lt;have gX:=lQ.out.below K.below lQ.out.lt;have hOr:=nd.out.later K.below;clear kB lQ nd
   generalize K.world= wn at *
   have e1:fa U s= U.take U.length ++ s ::U.drop U.length:=Zs (Nat.le_refl _) (fun j y bH hy=>cH.out j y bH hy) (fun y hy=>by have:=(List.getElem?_eq_some_iff.1 hy).1;omega) (fun y hy=>by have:=(List.getElem?_eq_some_iff.1 hy).1;omega);have Gg:=ah oO Gi
   obtain⟨k,Ju⟩ :∃k,k= U.length:=⟨_,rfl⟩
   haveI:Nonempty (cN (fun V=>aq V p 41 #[af,ae,sp,tR,.slice g U c]∧aq V w.heap.size 214 #[sm,st,cn])):=⟨⟨wn,fR,gX⟩⟩
   haveI:Nonempty (cN (fun _=>True)):=⟨⟨wn,trivial⟩⟩
   have c4:=fun K:cN (fun V=>aq V p 41 #[af,ae,sp,tR,.slice g U c]∧aq V w.heap.size 214 #[sm,st,cn])=>(K.holds.1.cell 4).trans (show _= some (.slice g U c) from rfl)
   have cf:=aq.jV (fun K:cN (fun V=>aq V p 41 #[af,ae,sp,tR,.slice g U c]∧aq V w.heap.size 214 #[sm,st,cn])=>K.holds.2);have kB:=J fR;have lQ:=J gX;have nd:=J hOr;have cF:=J e1;clear fR gX hOr e1
   go_wp2
   refine KR (fun V=>aq V p 41 #[af,ae,sp,tR,.slice g U c]∧aq V w.heap.size 214 #[sm,st,cn]) [([1,2,3,4,5,6],[0],7,false),([],[],8,true),([],[9,10],11,true)] [] [] (by kernel_rfl) (by kernel_rfl) ⟨kB.out,lQ.out⟩ ?_
   refine qx fun K gj=>?_
   change wpQuiet _ _ _ _ (_ ::_ ::_ ::_ ::_ ::_ ::[]) _
   repeat (go_big_quiet_step (fail))
   refine wpQuiet_nil ?_
   change wpQuiet _ _ _ _ (_ ::[]) _
   repeat (go_big_quiet_step (fail))
   refine wpQuiet_nil ?_
   change wpList _ _ _ (_ ::[]) _ _
   clear c4 cf;have fR:aq wn.drew p 41 #[af,ae,sp,tR,.slice g U c]:=kB.out;have gX:aq wn.drew w.heap.size 214 #[sm,st,cn]:=lQ.out;have hOr:=nd.out.later (Below.refl _ wn).drew;have cU:Below w w wn.drew:=Gg.drew;clear kB lQ nd
   generalize wn.drew= wd at *
   have Ie:=J (aq.new wd 214 #[sm,st,cn]);have El:=J (fR.alloc (.cells #[sm,st,cn] 214));have It:=J (gX.alloc (.cells #[sm,st,cn] 214));have yB:=J (hOr.alloc (.cells #[sm,st,cn] 214));have sW:=J (ah cU (bZ wd (.cells #[sm,st,cn] 214)))
   have nF:=(hOr.lt g rfl).2;clear fR gX hOr
   go_wp2
   refine Ai ⟨El.out,It.out⟩ (gj _ _ ?_)
   refine qx fun gz dZ=>?_
   refine wpQuiet_nil ?_
   refine wpQuiet_nil ?_
   change wpList _ _ _ (_ ::[]) _ _
   go_wp2_with fail
   refine (WL B g c U aY U.length (Nat.le_refl _) ⟨sm,st,cn⟩ wd.heap.size _ (by have:=sW.out.size;omega) (by omega) yB.out Ie.out).mono ?_
   exact adr
open Go.RowKit Go.G9
theorem MX {f:ey} (h:f.ok= true):f.ws.length≤10∧f.U.length≤99:=by
 have H:=ln.1 h
 refine⟨H.l,Pl (N:=99) (lo:=0) H.ord fun x ay=>?_⟩
 have:=vr.1 (H.ok x ay);have:=rM.1 this.1
 omega
def arT (sp st cn:Int):lC Nat where
 par:=fun _=>[]
 val:=fun n p=>match n with
  | 7=> .agg #[.int .i64 sp,.int .i64 st,.int .i64 cn]
  | 8=> .pointer (some ⟨p,0,none⟩)
  | _=>undef
 post:=fun n _ p cW V=>match n with
  | 8=>cW.heap.size= p∧aq V p 214 #[.int .i64 0,.int .i64 0,.int .i64 0]
  | _=>True
theorem QW {p:Prop} (h:p:=by
 change wpList _ _ _ (_ ::[]) _ _
 go_wp2
 exact ia ⟨k.world.heap.size,rfl,bZ _ _,rfl,aq.new _ _ _⟩):p:=h
theorem aau (B p:Nat) (af ae sp:Int) (aj:Option Addr) (xU IT:Nat) (g c:Nat) (U:List aI) (aY:U.length≤1048575) (st cn:Int) (aX:ev U sp=⟨sp,st,cn⟩) (h0:0≤st) (h1:st≤1000) (w:World) (Ng:B≤p) (oi:B≤w.heap.size)
  (ai:aq w p 41 #[af,ae,sp,.slice aj xU IT,.slice g U c]) (bP:aV B 214 3 aI.cells w (.slice g U c) U):
 Calls Tryz.prog 308 #[.pointer (some ⟨p,0,none⟩)] w fun e ag=>e= .returned (.tuple #[])∧∃bo cM bd,w.grownBy bd (some g)∧bd.grownBy ag (some p)∧aq ag p 41 #[af,ae,(0:Int),.slice aj xU IT,.slice (some ⟨bo,0,none⟩) (fa U ⟨sp,st + 1,cn⟩).length cM]∧aV B 214 3 aI.cells ag (.slice (some ⟨bo,0,none⟩) (fa U ⟨sp,st + 1,cn⟩).length cM) (fa U ⟨sp,st + 1,cn⟩)∧p≠bo:=by
 have Ox:=ai.lt;have AG:=bP.xW ai (by decide);have cB:=J ai;have dq:=J bP;have eA:=J aX;clear ai bP aX
 go_in
 obtain⟨wS,yT⟩ :∃X:World→Prop,∀V,X V↔(Below w w V):=⟨_,fun _=>Iff.rfl⟩
 have mE:=J yT;clear yT
 haveI:Nonempty (cN wS):=⟨⟨w,((mE.out _).2 ((Below.refl _ _)))⟩⟩
 obtain⟨c0,c1,c2,c3,c4⟩:=aq.kE (fun K:cN wS=>(cB.out.below ((mE.out _).1 K.holds) cB.out.lt))
 go_wp2
 refine BC (arT sp st cn) wS [([0,1,2,3,4,5,6],7),([],8)] [] [([],9)] [] (by kernel_rfl) (by kernel_rfl) ((mE.out _).2 ((Below.refl _ _).drew)) (fun W eE h k=>((mE.out _).2 (((mE.out _).1 h).trans (k.mono ((mE.out _).1 h).size)))) ?_
 intro bp
 refine iL (some 10) rfl (.agg #[sp,st,cn]) rfl fun hd eT=>?_
 change wpQuiet _ _ _ _ (_ ::_ ::_ ::_ ::_ ::_ ::_ ::[]) _
 repeat (go_big_quiet_step (fail))
 refine wpQuiet_nil ?_
 refine⟨fun k fQ=>?_,eT _ ?_⟩
 ·change wpList _ _ _ (_ ::[]) _ _
  go_wp2_with fail
  refine (yi af ae sp aj xU IT (some ⟨g,0,none⟩) c U (by omega) sp ⟨sp,st,cn⟩ eA.out _ (dq.out.later ((mE.out _).1 k.holds)).dE).mono ?_
  rintro e mY ⟨rfl,fS⟩
  go_wp2
  exact ia ⟨0,rfl,fS,trivial⟩
 simp only [Act.put]
 go_simp
 refine iL (some 2) rfl (.pointer (some ⟨bp 8,0,none⟩)) rfl fun hd eT=>?_
 change wpQuiet _ _ _ _ ([]) _
 refine wpQuiet_nil ?_
 refine⟨fun k fQ=>?_,eT _ ?_⟩
 ·exact QW
 simp only [Act.put]
 go_simp
 refine tW ?_
 change wpQuiet _ _ _ _ ([]) _
 refine wpQuiet_nil ?_
 intro cW V W aW bI
 clear c0 c1 c2 c3 c4
 obtain⟨uU,bT⟩ :(cW 8).heap.size= bp 8∧aq (V 8) (bp 8) 214 #[(0:Int),(0:Int),(0:Int)]:=aW.post 8 (by simp)
 have atZ:w.heap.size≤bp 8:=uU ▸ (aW.nC 8 (by simp)).size;have xu:=bT.below (aW.later 8 (by simp)) bT.lt;have ao:Below w w W:=ah av (aW.whole 8 (by simp)).rr;have I:Below w w W:=ao;clear aW bT uU bI
 generalize bp 8= q at *
 have fy:=xu.cC
 refine ha fun gz dZ=>?_
 change wpQuiet _ _ _ _ ([]) _
 refine wpQuiet_nil ?_
 change wpList _ _ _ (_ ::[]) _ _
 obtain⟨asO,ahx,asP⟩:=xu.og
 go_wp2
 clear fy
 refine sT 0 fun xb gI=>?_
 replace I:=gI.aE I;replace xu:=gI.vS xu;have fy:=xu.cC
 refine hn (((mE.out _).2 I)) (dZ _ _ ?_)
 refine mA ?_
 change wpQuiet _ _ _ _ ([]) _
 refine wpQuiet_nil ?_
 have sF:IntKind.i64.wrap (st + 1)= st + 1:=by rw [IntKind.wrap_i64];omega
 have ahx:=xu.frozen 1
 go_upto_region 2 with fail
 clear fy
 refine kN 1 fun nx eS=>?_
 replace I:=eS.aE I;replace xu:=eS.Yr xu;have fy:=xu.cC;have Uw:=cB.out.below I cB.out.lt;have fj:=dq.out.later I;have Wc:=I.size;have aef:=J Uw;have lj:=J fj;clear Uw fj
 go_wp2_with fail
 refine (Zt B p af ae sp (.slice aj xU IT) g c U aY sp (st + 1) cn _ rfl _ Ng (by omega) AG aef.out lj.out).mono ?_
 rintro e dc ⟨rfl,bo,cM,bd,gw,hL,Jf,uI,Ow⟩
 have ahL:=Jf.frozen 2;have ahq:=(Jf.cell 2).trans (show _= some (.int .i64 sp) from rfl);have Ek:=J (Jf.gH 2 (.int .i64 0));have nc:=J (uI.kept (lp (j:=2) (qP dc (some p)) (.int .i64 0)) (fun k az e=>by have h1:bo= k:=Option.some.inj az;have h2:k= p:=Option.some.inj e;omega));have ub:=J (qg (lU I (some g)) gw);have ud:=J (lp (j:=2) hL (.int .i64 0))
 clear Jf uI gw hL fy
 go_wp2
 exact⟨rfl,Value.tuple #[],by simp [results,Tryz.results308,go_sem],rfl,bo,cM,bd,ub.out,ud.out,Ek.out,nc.out,Ow⟩
theorem alF (af ae sp:Int) (aj:Option Addr) (c2:Nat) (ws:List Int) (ak:Option Addr) (c3:Nat) (U:List aI) (h2:ws.length≤1048576) (h3:U.length≤1048576) (n2:aj= none→ws= []∧c2= 0) (n3:ak= none→U= []∧c3= 0) (cp:ws.length≤c2) (aw:mB ⟨af,ae,sp,ws,U⟩ =false) (w:World) (bj:aH 1 bR w aj ws) (bh:aH 3 aI.cells w ak U):
 Calls Tryz.prog 261 #[.agg #[af,ae,sp,.slice aj ws c2,.slice ak U c3]] w fun e ag=>e= .returned (.tuple #[.agg #[(0:Int),(0:Int),(0:Int),.slice none 0 0,.slice none 0 0],false])∧Below w w ag:=by
 have dX:=J bj;have cO:=J bh;clear bj bh n2 n3
 cases hf:gp af ae sp ws U
 ·have bC:=J hf
  clear hf aw
  go_in
  go_upto_region 1 with fail
  refine fm fun aF au ai ad=>?_
  have I:=au;have aD:=ai.aP;have al:=ad.aP
  go_wp2_with fail
  refine (mP af ae sp aj ws c2 ak c3 U h2 h3 cp _ bC.out _ (dX.out.below (ah I av)) (cO.out.below (ah I av))).mono ?_
  rintro e aM ⟨rfl,aN⟩
  have ao:=be aF aN;replace I:=ah I ao;clear aD;replace ad:=ad.to ao;clear al;have al:=ad.aP;have ep:=ad.jn
  go_wp2
  clear al
  refine gR 0 fun cS aC=>?_
  replace I:=aC.aE I;replace ad:=aC.iP ad;have al:=ad.aP
  exact hg ⟨rfl,I⟩ (by simp [results,Tryz.results261,go_sem,al])
 ·have aX:(sp == 0)= true:=by simpa [mB,ey.ok,hf] using aw
  have bC:=J hf;clear hf aw
  go_in
  go_upto_region 1 with fail
  refine fm fun aF au ai ad=>?_
  have I:=au;have aD:=ai.aP;have al:=ad.aP
  go_wp2_with fail
  refine (mP af ae sp aj ws c2 ak c3 U h2 h3 cp _ bC.out _ (dX.out.below (ah I av)) (cO.out.below (ah I av))).mono ?_
  rintro e aM ⟨rfl,aN⟩
  have ao:=be aF aN;replace I:=ah I ao;replace ai:=ai.to ao;clear aD;have aD:=ai.aP;replace ad:=ad.to ao;clear al;have al:=ad.aP;have ep:=ad.jn
  go_wp2
  clear aD al
  refine gR 0 fun cS aC=>?_
  replace I:=aC.aE I;replace ad:=aC.iP ad;have al:=ad.aP
  exact hg ⟨rfl,I⟩ (by simp [results,Tryz.results261,go_sem,al])
theorem alG (af ae sp:Int) (aj:Option Addr) (c2:Nat) (ws:List Int) (ak:Option Addr) (c3:Nat) (U:List aI) (h2:ws.length≤1048576) (h3:U.length≤1048576) (n2:aj= none→ws= []∧c2= 0) (n3:ak= none→U= []∧c3= 0) (cp:ws.length≤c2) (aw:mB ⟨af,ae,sp,ws,U⟩ =true) (w:World) (bj:aH 1 bR w aj ws) (bh:aH 3 aI.cells w ak U):
 Calls Tryz.prog 261 #[.agg #[af,ae,sp,.slice aj ws c2,.slice ak U c3]] w fun e ag=>∃bg d2 bn d3,e= .returned (.tuple #[.agg #[af,ae,(0:Int),.slice bg ws d2,.slice bn (mZ ⟨af,ae,sp,ws,U⟩).U.length d3],true])∧jR w.heap.size ag bg d2 bn d3 ws (mZ ⟨af,ae,sp,ws,U⟩).U∧Below w w ag:=by
 have dX:=J bj;have cO:=J bh;have je:=J n2;have iV:=J n3;clear bj bh n2 n3
 have gf:(⟨af,ae,sp,ws,U⟩ :ey).ok= true:=by simp only [mB,Bool.and_eq_true] at aw;exact aw.1
 have aX:(sp == 0)= false:=by simp only [mB,Bool.and_eq_true,Bool.not_eq_true'] at aw;exact aw.2
 have hlen:=MX gf
 obtain⟨qk,nk,pH⟩:=Dz gf (beq_eq_false_iff_ne.1 aX)
 have AN:=(ln.1 gf).t
 obtain⟨au,ao,aK⟩:=vr.1 nk
 have la:=KA (xs:=U) (m:=sp)
 obtain⟨⟨dF,st,cn⟩,ld⟩ :∃x,ev U sp= x:=⟨_,rfl⟩
 have FB:tY ⟨af,ae,sp,ws,U⟩ =⟨sp,st + 1,cn⟩:=by simp [tY,ld]
 have e1:(mZ ⟨af,ae,sp,ws,U⟩).U= fa U ⟨sp,st + 1,cn⟩:=by simp [mZ,FB]
 simp only at pH ao aK
 rw [ld] at pH ao aK la
 simp only at pH ao aK la AN
 subst la
 rw [e1]
 have bC:Hid (gp af ae dF ws U= true):=J gf;have mi:=J ld
 have OI:U.length≤1048575:=by simp only at hlen;omega
 clear gf aw qk nk au ld FB e1 hlen
 go_in
 go_upto_region 1 with fail
 refine fm fun aF au ai ad=>?_
 have I:=au;have aD:=ai.aP;have al:=ad.aP;have gy:=ad.lt
 go_wp2_with fail
 refine (mP af ae dF aj ws c2 ak c3 U h2 h3 cp _ bC.out _ (dX.out.below (ah I av)) (cO.out.below (ah I av))).mono ?_
 rintro e aM ⟨rfl,aN⟩
 have ao:=be aF aN;replace I:=ah I ao;replace ai:=ai.to ao;clear aD;have aD:=ai.aP;replace ad:=ad.to ao;clear al;have al:=ad.aP
 go_wp2_with fail
 refine (Hk af ae dF aj c2 ws ak c3 U h2 h3 je.out iV.out _ (dX.out.below (ah I av)) (cO.out.below (ah I av))).mono ?_
 rintro e bB ⟨bg,d2,g3,d3,rfl,ds,bG⟩
 have aK:=be aM bG;replace I:=ah I aK;clear aD;replace ad:=ad.to aK;clear al;have al:=ad.aP
 go_upto_region 4 with fail
 have fj:=ds.later (bZ bB (.cells #[af,ae,dF,.slice bg ws d2,.slice g3 U d3] 41));have jK:=(ds.fJ.lt g3 rfl)
 have jD:=fun k az=>(ds.fk.lt k az).2
 have nE:aM.heap.size≤bB.heap.size:=bG.size;have adX:=J jD;clear ds jD;have bS:Below bB bB (World.alloc bB (.cells #[af,ae,dF,.slice bg ws d2,.slice g3 U d3] 41)):=bZ bB _
 have aQ:aq (World.alloc bB (.cells #[af,ae,dF,.slice bg ws d2,.slice g3 U d3] 41)) (bB.heap.size) 41 #[af,ae,dF,.slice bg ws d2,.slice g3 U d3]:=by repeat (first | exact aq.new _ _ _ | exact aq.fu _ _ _ _ | exact aq.fx _ _ _ _ _ | exact aq.gb _ _ _ _ _ _ | refine aq.alloc ?_ _)
 generalize World.alloc bB (.cells #[af,ae,dF,.slice bg ws d2,.slice g3 U d3] 41)= ca at *
 replace I:=ah I bS;have bF:=aQ.aP;clear al;replace ad:=ad.to bS;have al:=ad.aP;have lK:=aQ.lt;have wL:=ao.size;have cb:=J aQ;have dq:=J fj;clear aQ fj bF
 go_wp2_with fail
 refine (aau aM.heap.size bB.heap.size af ae dF bg ws.length d2 g3 d3 U OI st cn mi.out (by omega) (by omega) _ (by omega) (by omega) cb.out dq.out.fJ).mono ?_
 rintro e dc ⟨rfl,g5,c5,gZ,gw,hL,kY,uI,Ow⟩
 have cD:=(ad.kG gw (by intro e;have:=Option.some.inj e;omega)).kG hL (by intro e;have:=Option.some.inj e;omega);have pc:=(dq.out.fk.kept gw (fun k az e=>dq.out.ap k az (by rw [e];rfl))).kept hL (fun k az e=>by have h1:=adX.out k az;have h2:k= bB.heap.size:=Option.some.inj e;omega);have wW:Below w w dc:=(I.grown gw (by omega) (fun k az=>by have:=Option.some.inj az;omega)).grown hL (by have:=gw.size;omega) (fun k az=>by have:=Option.some.inj az;omega)
 have nc:=J uI;have hx:=J pc;clear uI pc gw hL Ow ad al ai;replace I:=wW;clear wW;have al:=cD.aP;have bF:=kY.aP;have asR:=cD.frozen 0;have asT:=cD.frozen 1;have asU:=cD.frozen 2;have asV:=cD.frozen 3;have asW:=cD.frozen 4;have bA:=hx.out;have bq:=nc.out
 go_wp2
 clear al bF
 refine gR 0 fun cS aC=>?_
 replace I:=aC.aE I;replace cD:=aC.iP cD;replace bA:=bA.bW aC (fun k az=>by first | exact ej k az | (have:=bA.lt k az;omega));replace bq:=bq.bW aC (fun k az=>by first | exact dK k az | (have:=bq.lt k az;omega));have al:=cD.aP
 refine bodyPost_ret (v:= .tuple #[.agg #[af,ae,(0:Int),.slice bg ws d2,.slice g5 (fa U ⟨dF,st + 1,cn⟩).length c5],true]) (by simp [results,Tryz.results261,go_sem,al]) rfl ?_
 exact⟨bg,d2,some ⟨g5,0,none⟩,c5,rfl,⟨bA.base (by omega),bq.base (by omega),bA.apart bq (by decide)⟩,I⟩
open Go.RowKit Go.G9
def aqx (af ae sp st cn:Int) (ws:List Int) (U:List aI):lC ((Option Addr×Nat)×Nat×Nat) where
 par:=fun _=>[]
 val:=fun n p=>match n with
  | 1=> .agg #[.int .i64 af,.int .i64 ae,.int .i64 sp,.slice p.1.1 ws.length p.1.2,.slice (some ⟨p.2.1,0,none⟩) U.length p.2.2]
  | 5=> .agg #[.int .i64 sp,.int .i64 st,.int .i64 cn]
  | 6=> .pointer (some ⟨p.2.1,0,none⟩)
  | 7=> .pointer (some ⟨p.2.1,0,none⟩)
  | _=>undef
 post:=fun n _ p cW V=>match n with
  | 1=>jR cW.heap.size V p.1.1 p.1.2 (some ⟨p.2.1,0,none⟩) p.2.2 ws U
  | 6=>cW.heap.size= p.2.1∧aq V p.2.1 41 #[.int .i64 0,.int .i64 0,.int .i64 0,.slice none 0 0,.slice none 0 0]
  | 7=>cW.heap.size= p.2.1∧aq V p.2.1 214 #[.int .i64 0,.int .i64 0,.int .i64 0]
  | _=>True
theorem alx (af ae sp:Int) (aj:Option Addr) (c2:Nat) (ws:List Int) (ak:Option Addr) (c3:Nat) (U:List aI) (h2:ws.length≤1048576) (h3:U.length≤1048576) (n2:aj= none→ws= []∧c2= 0) (n3:ak= none→U= []∧c3= 0) (cp:ws.length≤c2) (n:Int) (aw:oB ⟨af,ae,sp,ws,U⟩ n= false) (w:World) (bj:aH 1 bR w aj ws) (bh:aH 3 aI.cells w ak U):
 Calls Tryz.prog 260 #[.agg #[af,ae,sp,.slice aj ws c2,.slice ak U c3],n] w fun e ag=>e= .returned (.tuple #[.agg #[(0:Int),(0:Int),(0:Int),.slice none 0 0,.slice none 0 0],(0:Int),false])∧Below w w ag:=by
 have dX:=J bj;have cO:=J bh;clear bj bh n2 n3
 cases hf:gp af ae sp ws U
 ·have bC:=J hf
  clear hf aw
  go_in
  go_upto_region 1 with fail
  refine fm fun aF au ai ad=>?_
  have I:=au;have aD:=ai.aP;have al:=ad.aP
  go_wp2_with fail
  refine (mP af ae sp aj ws c2 ak c3 U h2 h3 cp _ bC.out _ (dX.out.below (ah I av)) (cO.out.below (ah I av))).mono ?_
  rintro e aM ⟨rfl,aN⟩
  have ao:=be aF aN;replace I:=ah I ao;clear aD;replace ad:=ad.to ao;clear al;have al:=ad.aP;have ep:=ad.jn
  go_wp2
  clear al
  refine gR 0 fun cS aC=>?_
  replace I:=aC.aE I;replace ad:=aC.iP ad;have al:=ad.aP
  exact hg ⟨rfl,I⟩ (by simp [results,Tryz.results260,go_sem,al])
 ·cases aX:(sp == 0)
  case true=>
   have bC:=J hf;clear hf aw
   go_in
   go_upto_region 1 with fail
   refine fm fun aF au ai ad=>?_
   have I:=au;have aD:=ai.aP;have al:=ad.aP
   go_wp2_with fail
   refine (mP af ae sp aj ws c2 ak c3 U h2 h3 cp _ bC.out _ (dX.out.below (ah I av)) (cO.out.below (ah I av))).mono ?_
   rintro e aM ⟨rfl,aN⟩
   have ao:=be aF aN;replace I:=ah I ao;replace ai:=ai.to ao;clear aD;have aD:=ai.aP;replace ad:=ad.to ao;clear al;have al:=ad.aP;have ep:=ad.jn
   go_wp2
   clear aD al
   refine gR 0 fun cS aC=>?_
   replace I:=aC.aE I;replace ad:=aC.iP ad;have al:=ad.aP
   exact hg ⟨rfl,I⟩ (by simp [results,Tryz.results260,go_sem,al])
  case false=>
   have hi:fc n 1 3600= false:=by simpa [oB,ey.ok,hf,aX] using aw
   have bC:=J hf;have hP:=J hi;clear hf aw hi
   go_in
   go_upto_region 1 with fail
   refine fm fun aF au ai ad=>?_
   have I:=au;have aD:=ai.aP;have al:=ad.aP
   go_wp2_with fail
   refine (mP af ae sp aj ws c2 ak c3 U h2 h3 cp _ bC.out _ (dX.out.below (ah I av)) (cO.out.below (ah I av))).mono ?_
   rintro e aM ⟨rfl,aN⟩
   have ao:=be aF aN;replace I:=ah I ao;replace ai:=ai.to ao;clear aD;have aD:=ai.aP;replace ad:=ad.to ao;clear al;have al:=ad.aP
   go_wp2_with fail
   refine (jj n 1 3600 _ hP.out _).mono ?_
   rintro e w0 ⟨rfl,h0⟩
   rw [h0]
   clear h0 w0;have ep:=ad.jn
   go_wp2
   clear aD al
   refine gR 0 fun cS aC=>?_
   replace I:=aC.aE I;replace ad:=aC.iP ad;have al:=ad.aP
   exact hg ⟨rfl,I⟩ (by simp [results,Tryz.results260,go_sem,al])
theorem acN {p:Prop} (h:p:=by
 have e0:(sc ⟨af,ae,dF,ws,U⟩ n).cQ= (⟨af,ae,dF,ws,U⟩ :ey).ae:=by rw [Ee.out];exact uS
 have e2:wI ⟨af,ae,dF,ws,U⟩ n=⟨af,ae,dF,ws,fa U ⟨dF,st,cn + u⟩⟩:=by simp only [wI];rw [Ee.out]
 rw [jG,if_pos e0,e2]
 refine⟨rfl,?_⟩
 have e3:tY ⟨af,ae,dF,ws,fa U ⟨dF,st,cn + u⟩⟩ =⟨dF,st + 1,cn + u⟩:=by simp only [tY];rw [Is.out]
 simp only [mZ];rw [e3]):p:=h
theorem aaP {p:Prop} (h:p:=by
 have e0:¬(sc ⟨af,ae,dF,ws,U⟩ n).cQ= (⟨af,ae,dF,ws,U⟩ :ey).ae:=by rw [Ee.out];exact uS
 rw [jG,if_neg e0]
 refine⟨rfl,?_⟩
 simp only [wI];rw [Ee.out]):p:=h
theorem aly (af ae sp:Int) (aj:Option Addr) (c2:Nat) (ws:List Int) (ak:Option Addr) (c3:Nat) (U:List aI) (h2:ws.length≤1048576) (h3:U.length≤1048576) (n2:aj= none→ws= []∧c2= 0) (n3:ak= none→U= []∧c3= 0) (cp:ws.length≤c2) (n:Int) (aw:oB ⟨af,ae,sp,ws,U⟩ n= true) (w:World) (bj:aH 1 bR w aj ws) (bh:aH 3 aI.cells w ak U):
 Calls Tryz.prog 260 #[.agg #[af,ae,sp,.slice aj ws c2,.slice ak U c3],n] w fun e ag=>∃bg d2 bn d3,e= .returned (.tuple #[.agg #[af,ae,.int .i64 (jG ⟨af,ae,sp,ws,U⟩ n).sp,.slice bg ws d2,.slice bn (jG ⟨af,ae,sp,ws,U⟩ n).U.length d3],.int .i64 (tM ⟨af,ae,sp,ws,U⟩ n),true])∧jR w.heap.size ag bg d2 bn d3 ws (jG ⟨af,ae,sp,ws,U⟩ n).U∧Below w w ag:=by
 have dX:=J bj;have cO:=J bh;have je:=J n2;have iV:=J n3;clear bj bh n2 n3
 obtain⟨gf,rf,mr,qZ⟩:=HH aw
 have aX:(sp == 0)= false:=beq_eq_false_iff_ne.2 rf;have hlen:=MX gf
 obtain⟨qk,nk,pH⟩:=Dz gf rf
 have AN:=(ln.1 gf).t;have uY:=(ln.1 gf).s
 obtain⟨au,ao,aK⟩:=vr.1 nk
 have la:=KA (xs:=U) (m:=sp);have AF:=(ln.1 gf).ord
 obtain⟨⟨dF,st,cn⟩,ld⟩ :∃x,ev U sp= x:=⟨_,rfl⟩
 simp only at pH ao aK AF
 rw [ld] at pH ao aK la
 simp only at pH ao aK la AN uY
 have OJ:=ld
 subst la
 obtain⟨u,hu⟩ :∃u,u= (if n < ae - cn then n else ae - cn):=⟨_,rfl⟩
 have Ap:tM ⟨af,ae,dF,ws,U⟩ n= u:=by simp [tM,ld,hu]
 have akb:0≤u∧u≤ae - cn:=by rw [hu];split <;> omega
 have Fz:sc ⟨af,ae,dF,ws,U⟩ n=⟨dF,st,cn + u⟩:=by simp [sc,ld,Ap]
 rw [Ap]
 have bC:Hid (gp af ae dF ws U= true):=J gf;have hP:Hid (fc n 1 3600= true):=J (rM.2 ⟨mr,qZ⟩);have mi:=J ld;have Ee:=J Fz;have LO:=J hu
 have OI:U.length≤1048574:=by simp only at hlen;omega
 have GJ:(fa U ⟨dF,st,cn + u⟩).length≤1048575:=by have:=Qe U ⟨dF,st,cn + u⟩;omega
 have GK:ev (fa U ⟨dF,st,cn + u⟩) dF=⟨dF,st,cn + u⟩:=by rw [DM dF AF,if_pos rfl]
 have Is:=J GK;have LN:=J GJ;clear gf aw qk nk au ld hlen OJ AF Fz GK GJ rf hu Ap mr qZ
 go_in
 go_upto_region 1 with fail
 refine fm fun aF au ai ad=>?_
 have I:=au;have aD:=ai.aP
 obtain⟨z0,bw,z2,z3,z4⟩:=ad.aP
 have gy:=ad.lt
 go_wp2_with fail
 refine (mP af ae dF aj ws c2 ak c3 U h2 h3 cp _ bC.out _ (dX.out.below (ah I av)) (cO.out.below (ah I av))).mono ?_
 rintro e aM ⟨rfl,aN⟩
 have ao:=be aF aN;replace I:=ah I ao;replace ai:=ai.to ao;clear aD;have aD:=ai.aP;replace ad:=ad.to ao;clear z0 bw z2 z3 z4
 obtain⟨z0,bw,z2,z3,z4⟩:=ad.aP
 go_wp2_with fail
 refine (jj n 1 3600 _ hP.out _).mono ?_
 rintro e w0 ⟨rfl,h0⟩
 rw [h0]
 clear h0 w0;have wL:=ao.size
 go_upto_region 3 with fail
 have aic:=I
 obtain⟨Lk,Up⟩ :∃X:World→Prop,∀V,X V↔(Below w w V∧aq V (w.heap.size) 41 #[af,ae,dF,.slice aj ws c2,.slice ak U c3]):=⟨_,fun _=>Iff.rfl⟩
 have se:=J Up;clear Up
 haveI:Nonempty (cN Lk):=⟨⟨aM,((se.out _).2 ⟨I,ai⟩)⟩⟩
 clear aD;clear z0 bw z2 z3 z4;have aD:=aq.kE (fun K:cN Lk=>((se.out _).1 K.holds).2)
 go_wp2
 refine BC (aqx af ae dF st cn ws U) Lk [([0],1),([2,3,4],5),([],6),([],7)] [] [([],8),([],9)] [] (by kernel_rfl) (by kernel_rfl) ((se.out _).2 ⟨I.drew,ai⟩) (fun W eE h k=>((se.out _).2 ⟨((se.out _).1 h).1.trans (k.mono ((se.out _).1 h).1.size),((se.out _).1 h).2.below k ((se.out _).1 h).2.lt⟩)) ?_
 intro bp
 refine iL (some 25) rfl (.agg #[af,ae,dF,.slice (bp 1).1.1 ws.length (bp 1).1.2,.slice (some ⟨(bp 1).2.1,0,none⟩) U.length (bp 1).2.2]) rfl fun hd eT=>?_
 change wpQuiet _ _ _ _ (_ ::[]) _
 repeat (go_big_quiet_step (fail))
 refine wpQuiet_nil ?_
 refine⟨fun k fQ=>?_,eT _ ?_⟩
 ·change wpList _ _ _ (_ ::[]) _ _
  go_wp2_with fail
  refine (Hk af ae dF aj c2 ws ak c3 U h2 h3 je.out iV.out _ (dX.out.below ((se.out _).1 k.holds).1) (cO.out.below ((se.out _).1 k.holds).1)).mono ?_
  rintro e mY ⟨bg,d2,g3,d3,rfl,ds,fS⟩
  go_wp2
  exact ia ⟨((bg,d2),g3,d3),rfl,fS,ds⟩
 simp only [Act.put]
 go_simp
 refine iL (some 29) rfl (.agg #[dF,st,cn]) rfl fun hd eT=>?_
 change wpQuiet _ _ _ _ (_ ::_ ::_ ::[]) _
 repeat (go_big_quiet_step (fail))
 refine wpQuiet_nil ?_
 refine⟨fun k fQ=>?_,eT _ ?_⟩
 ·change wpList _ _ _ (_ ::[]) _ _
  go_wp2_with fail
  refine (yi af ae dF aj ws.length c2 ak c3 U h3 dF ⟨dF,st,cn⟩ mi.out _ (cO.out.below ((se.out _).1 k.holds).1)).mono ?_
  rintro e mY ⟨rfl,fS⟩
  go_wp2
  exact ia ⟨((none,0),0,0),rfl,fS,trivial⟩
 simp only [Act.put]
 go_simp
 refine iL (some 7) rfl (.pointer (some ⟨(bp 6).2.1,0,none⟩)) rfl fun hd eT=>?_
 change wpQuiet _ _ _ _ ([]) _
 refine wpQuiet_nil ?_
 refine⟨fun k fQ=>?_,eT _ ?_⟩
 ·change wpList _ _ _ (_ ::[]) _ _
  go_wp2
  exact ia ⟨((none,0),k.world.heap.size,0),rfl,bZ _ _,rfl,aq.new _ _ _⟩
 simp only [Act.put]
 go_simp
 refine iL (some 8) rfl (.pointer (some ⟨(bp 7).2.1,0,none⟩)) rfl fun hd eT=>?_
 change wpQuiet _ _ _ _ ([]) _
 refine wpQuiet_nil ?_
 refine⟨fun k fQ=>?_,eT _ ?_⟩
 ·change wpList _ _ _ (_ ::[]) _ _
  go_wp2
  exact ia ⟨((none,0),k.world.heap.size,0),rfl,bZ _ _,rfl,aq.new _ _ _⟩
 simp only [Act.put]
 go_simp
 refine tW ?_
 change wpQuiet _ _ _ _ ([]) _
 refine wpQuiet_nil ?_
 intro cW V W aW bI
 have Nr:jR (cW 1).heap.size (V 1) (bp 1).1.1 (bp 1).1.2 (some ⟨(bp 1).2.1,0,none⟩) (bp 1).2.2 ws U:=aW.post 1 (by simp)
 obtain⟨Vw,Nk⟩ :(cW 6).heap.size= (bp 6).2.1∧aq (V 6) (bp 6).2.1 41 #[(0:Int),(0:Int),(0:Int),.slice none 0 0,.slice none 0 0]:=aW.post 6 (by simp)
 obtain⟨Vx,Jh⟩ :(cW 7).heap.size= (bp 7).2.1∧aq (V 7) (bp 7).2.1 214 #[(0:Int),(0:Int),(0:Int)]:=aW.post 7 (by simp)
 have cy:aM.heap.size≤(bp 6).2.1:=Vw ▸ (aW.nC 6 (by simp)).size;have dh:aM.heap.size≤(bp 7).2.1:=Vx ▸ (aW.nC 7 (by simp)).size
 have NU:(bp 7).2.1≠(bp 1).2.1:=by
  have a1:=aW.apart 1 (by simp) 7 (by simp) (by decide);have a2:=Nr.fJ.lt (bp 1).2.1 rfl;have a3:=Jh.lt
  omega
 have ds:=(Nr.later (aW.later 1 (by simp))).base (B':=aM.heap.size) (aW.nC 1 (by simp)).size;have aQ:=Nk.below (aW.later 6 (by simp)) Nk.lt;have bN:=Jh.below (aW.later 7 (by simp)) Jh.lt;clear aD;have bS:Below aM aM W:=ah av (aW.whole 1 (by simp)).rr;replace I:=ah I bS;replace ai:=ai.to bS;have aD:=ai.aP;replace ad:=ad.to bS
 obtain⟨z0,bw,z2,z3,z4⟩:=ad.aP
 clear aW Nr Vw Nk Vx Jh bI
 generalize bp 1= dI at *
 generalize bp 6= Bi at *
 generalize bp 7= PD at *
 obtain⟨⟨bg,d2⟩,g3,d3⟩:=dI
 obtain⟨_,x,_⟩:=Bi
 obtain⟨_,s,_⟩:=PD
 simp only at ds aQ bN cy dh NU
 have Ay:s≠g3:=NU;clear NU
 have GQ:x≠s:=by
  rintro rfl
  unfold aq at aQ bN
  rw [aQ] at bN
  injection bN with bN
  injection bN with _ h9 _
  exact absurd h9 (by decide)
 have Wn:x≠g3:=ds.fJ.xW aQ (by decide)
 have Wd:∀k,(Value.slice bg ws d2).ownBlock= some k→k≠x∧k≠s:=fun k az=>by
  obtain⟨_,g,e,cw⟩ :∃(c:Unit) (g:Nat),bg= some ⟨g,0,none⟩∧g= k:=by
   rcases ds.fk.2 with ⟨e1,_⟩ | ⟨bo,cap,cur,e1,_⟩
   ·injection e1 with e2 _ _;subst e2;cases az
   ·injection e1 with e2 _ _;subst e2;exact⟨(),bo,rfl,Option.some.inj az⟩
  subst cw
  have Ma:=ds.fk
  rw [e] at Ma
  exact⟨fun e9=>Ma.xW aQ (by decide) e9.symm,fun e9=>Ma.xW bN (by decide) e9.symm⟩
 have Ex:=J Wd;clear Wd;have bA:=ds.fk;have bq:=ds.fJ;clear ds;have bF:=aQ.aP;have cf:=bN.cC
 refine ha fun gz dZ=>?_
 change wpQuiet _ _ _ _ ([]) _
 refine wpQuiet_nil ?_
 change wpList _ _ _ (_ ::[]) _ _
 have MS:=aQ.jn
 go_wp2
 clear MS
 have ej:∀k,(Value.slice bg ws d2).ownBlock= some k→¬k= x:=fun k az=>(Ex.out k az).1
 have dK:∀k,(Value.slice g3 U d3).ownBlock= some k→¬k= x:=fun k az e=>Wn (by have:g3= k:=Option.some.inj az;omega)
 clear aD z0 bw z2 z3 z4 bF cf
 refine gR 0 fun xb gI=>?_
 replace I:=gI.aE I;replace ai:=gI.dM ai;replace ad:=gI.dM ad;replace aQ:=gI.iP aQ;replace bN:=gI.dM bN;replace bA:=bA.bW gI ej;replace bq:=bq.bW gI dK;have aD:=ai.aP
 obtain⟨z0,bw,z2,z3,z4⟩:=ad.aP
 have bF:=aQ.aP;have cf:=bN.cC;clear ej dK
 refine hn (((se.out _).2 ⟨I,ai⟩)) (dZ _ _ ?_)
 refine ha fun gz dZ=>?_
 change wpQuiet _ _ _ _ ([]) _
 refine wpQuiet_nil ?_
 change wpList _ _ _ (_ ::[]) _ _
 obtain⟨ahz,MR,FD⟩:=bN.og
 go_wp2
 clear ahz MR FD
 have ej:∀k,(Value.slice bg ws d2).ownBlock= some k→¬k= s:=fun k az=>(Ex.out k az).2
 have dK:∀k,(Value.slice g3 U d3).ownBlock= some k→¬k= s:=fun k az e=>Ay (by have:g3= k:=Option.some.inj az;omega)
 clear aD z0 bw z2 z3 z4 bF cf
 refine sT 0 fun nx eS=>?_
 replace I:=eS.aE I;replace ai:=eS.dM ai;replace ad:=eS.dM ad;replace aQ:=eS.dM aQ;replace bN:=eS.vS bN;replace bA:=bA.bW eS ej;replace bq:=bq.bW eS dK;have aD:=ai.aP
 obtain⟨z0,bw,z2,z3,z4⟩:=ad.aP
 have bF:=aQ.aP;have cf:=bN.cC;clear ej dK
 refine hn (((se.out _).2 ⟨I,ai⟩)) (dZ _ _ ?_)
 refine mA ?_
 change wpQuiet _ _ _ _ ([]) _
 refine wpQuiet_nil ?_
 go_upto_region 5 with fail
 have VP:min n (ae - cn)= u:=by
  rw [LO.out]
  by_cases aE:n < ae - cn
  ·rw [if_pos aE];omega
  ·rw [if_neg aE];omega
 rw [VP]
 clear VP
 have sF:IntKind.i64.wrap (cn + u)= cn + u:=by rw [IntKind.wrap_i64];omega
 have FD:=bN.frozen 2
 go_upto_region 6 with fail
 clear FD
 have ej:∀k,(Value.slice bg ws d2).ownBlock= some k→¬k= s:=fun k az=>(Ex.out k az).2
 have dK:∀k,(Value.slice g3 U d3).ownBlock= some k→¬k= s:=fun k az e=>Ay (by have:g3= k:=Option.some.inj az;omega)
 clear aD z0 bw z2 z3 z4 bF cf
 refine kN 2 fun ux gg=>?_
 replace I:=gg.aE I;replace ai:=gg.dM ai;replace ad:=gg.dM ad;replace aQ:=gg.dM aQ;replace bN:=gg.PI bN;replace bA:=bA.bW gg ej;replace bq:=bq.bW gg dK;have aD:=ai.aP
 obtain⟨z0,bw,z2,z3,z4⟩:=ad.aP
 have bF:=aQ.aP;have cf:=bN.cC;clear ej dK sF;have tP:=I.size;have auD:=aQ.lt;have jC:=bA.apart bq (by decide);have CX:=(bq.lt g3 rfl).1;have atU:w.heap.size≤aM.heap.size:=aic.size
 have JA:aM.heap.size≤ux.heap.size:=by omega
 have cb:=J aQ;have ka:=J bq;have hx:=J bA;have Ek:=J ai;have dr:=J ad;have Ir:=J bN;have oI:=J jC;have wW:=J I;clear aQ bq bA ai ad jC bF aD z0 bw z2 z3 z4
 go_wp2_with fail
 refine (Zt aM.heap.size x af ae dF (.slice bg ws d2) g3 d3 U (by omega) dF st (cn + u) ⟨dF,st,cn + u⟩ rfl _ cy JA Wn cb.out ka.out).mono ?_
 rintro e gZ ⟨rfl,g5,c5,HR,gw,hL,tt,UI,atO⟩
 have Ux:=(Ek.out.kG gw (by intro e;have:=Option.some.inj e;omega)).kG hL (by intro e;have:=Option.some.inj e;omega);have tv:=(dr.out.kG gw (by intro e;have:=Option.some.inj e;omega)).kG hL (by intro e;have:=Option.some.inj e;omega);have Nw:=(Ir.out.kG gw (by intro e;exact Ay (Option.some.inj e))).kG hL (by intro e;exact GQ (Option.some.inj e).symm)
 have pc:=(hx.out.kept gw (fun k az e=>oI.out k az (by rw [e];rfl))).kept hL (fun k az e=>(Ex.out k az).1 (Option.some.inj e));have RJ:Below w w gZ:=(wW.out.grown gw (by omega) (fun k az=>by have:=Option.some.inj az;omega)).grown hL (by have:=gw.size;omega) (fun k az=>by have:=Option.some.inj az;omega);clear gw hL bN cf;replace I:=RJ;clear RJ
 have aD:=Ux.aP
 obtain⟨z0,bw,z2,z3,z4⟩:=tv.aP
 have bF:=tt.aP;have cf:=Nw.cC;have auC:=tv.lt;have auB:=Nw.lt;have bA:=pc;have bq:=UI;clear pc UI
 by_cases uS:cn + u= ae
 ·have xA:(cn + u == ae)= true:=beq_iff_eq.2 uS
  have e1:(jG ⟨af,ae,dF,ws,U⟩ n).sp= 0∧(jG ⟨af,ae,dF,ws,U⟩ n).U= fa (fa U ⟨dF,st,cn + u⟩) ⟨dF,st + 1,cn + u⟩:=by
   exact acN
  have oW:=J e1;have aeP:=J tt;have LC:=J bq;have aer:=J bA;have aeR:=J tv;have adR:=J (bA.apart bq (by decide));have zS:=J I;have atz:=(bq.lt g5 rfl).1;clear e1 uS
  go_upto_region 8 with fail
  clear tt bq bA tv Ux Nw aD z0 bw z2 z3 z4 bF cf
  go_wp2_with fail
  refine (aau aM.heap.size x af ae dF bg ws.length d2 g5 c5 (fa U ⟨dF,st,cn + u⟩) LN.out st (cn + u) Is.out (by omega) (by omega) _ cy (by omega) aeP.out LC.out).mono ?_
  rintro e oC ⟨rfl,g7,vW,wr,gw,hL,uK,qR,atP⟩
  have sy:=(aeR.out.kG gw (by intro e;have:=Option.some.inj e;omega)).kG hL (by intro e;have:=Option.some.inj e;omega);have pc:=(aer.out.kept gw (fun k az e=>adR.out k az (by rw [e];rfl))).kept hL (fun k az e=>(Ex.out k az).1 (Option.some.inj e));have zT:Below w w oC:=(zS.out.grown gw (by omega) (fun k az=>by have:=Option.some.inj az;omega)).grown hL (by have:=gw.size;omega) (fun k az=>by have:=Option.some.inj az;omega)
  replace I:=zT;clear zT
  obtain⟨z0,bw,z2,z3,z4⟩:=sy.aP
  have bF:=uK.aP;have bA:=pc;have bq:=qR;clear pc qR;have atc:=sy.frozen 0;have atd:=sy.frozen 1;have ate:=sy.frozen 2;have atf:=sy.frozen 3;have atg:=sy.frozen 4
  go_wp2
  clear z0 bw z2 z3 z4 bF
  refine gR 0 fun cS aC=>?_
  replace I:=aC.aE I;replace sy:=aC.iP sy;replace bA:=bA.bW aC (fun k az=>by first | exact ej k az | (have:=bA.lt k az;omega));replace bq:=bq.bW aC (fun k az=>by first | exact dK k az | (have:=bq.lt k az;omega))
  obtain⟨z0,bw,z2,z3,z4⟩:=sy.aP
  refine bodyPost_ret (v:= .tuple #[.agg #[af,ae,(0:Int),.slice bg ws d2,.slice g7 (fa (fa U ⟨dF,st,cn + u⟩) ⟨dF,st + 1,cn + u⟩).length vW],.int .i64 u,true]) (by simp [results,Tryz.results260,go_sem,z0,bw,z2,z3,z4]) rfl ?_
  rw [oW.out.1,oW.out.2]
  exact⟨bg,d2,some ⟨g7,0,none⟩,vW,rfl,⟨bA.base (by omega),bq.base (by omega),bA.apart bq (by decide)⟩,I⟩
 ·have xA:(cn + u == ae)= false:=beq_eq_false_iff_ne.2 uS
  have e1:(jG ⟨af,ae,dF,ws,U⟩ n).sp= dF∧(jG ⟨af,ae,dF,ws,U⟩ n).U= fa U ⟨dF,st,cn + u⟩:=by
   exact aaP
  have oW:=J e1;clear e1 uS;have asX:=tv.frozen 0;have asY:=tv.frozen 1;have asZ:=tv.frozen 2;have ata:=tv.frozen 3;have atb:=tv.frozen 4
  go_wp2
  clear aD z0 bw z2 z3 z4 bF cf
  refine gR 0 fun cS aC=>?_
  replace I:=aC.aE I;replace tv:=aC.iP tv;replace bA:=bA.bW aC (fun k az=>by first | exact ej k az | (have:=bA.lt k az;omega));replace bq:=bq.bW aC (fun k az=>by first | exact dK k az | (have:=bq.lt k az;omega))
  obtain⟨z0,bw,z2,z3,z4⟩:=tv.aP
  refine bodyPost_ret (v:= .tuple #[.agg #[af,ae,dF,.slice bg ws d2,.slice g5 (fa U ⟨dF,st,cn + u⟩).length c5],.int .i64 u,true]) (by simp [results,Tryz.results260,go_sem,z0,bw,z2,z3,z4]) rfl ?_
  rw [oW.out.1,oW.out.2]
  exact⟨bg,d2,some ⟨g5,0,none⟩,c5,rfl,⟨bA.base (by omega),bq.base (by omega),bA.apart bq (by decide)⟩,I⟩
open Go.RowKit Go.G9 Go.Sort
theorem WN (a:Int) (w:World):Calls Tryz.prog 302 #[a] w fun e ag=>e= .returned false∧ag= w:=by
 go_in
 go_wp2
 go_ret
 exact⟨by first | rfl | (refine ek ?_;simp),rfl⟩
theorem QN {p:Prop} (h:p:=by
 go_in
 go_wp2_with fail
 refine (WN a _).mono ?_
 rintro e w0 ⟨rfl,h0⟩
 rw [h0]
 clear h0 w0
 go_wp2_with fail
 refine (WN b _).mono ?_
 rintro e w0 ⟨rfl,h0⟩
 rw [h0]
 go_wp2
 go_ret
 exact⟨rfl,rfl⟩):p:=h
theorem afT (a b v:Int) (aw:Cu a b= v) (w:World):Calls Tryz.prog 252 #[a,b] w fun e ag=>e= .returned v∧ag= w:=by
 subst aw
 unfold Cu
 by_cases h1:a < b
 ·rw [if_pos h1]
  exact QN
 ·rw [if_neg h1]
  by_cases h2:b < a
  ·rw [if_pos h2]
   exact QN
  ·rw [if_neg h2]
   exact QN
theorem Tp (A:Option Addr) (c:Nat) (xs:List Int) (aY:xs.length≤1048576) (aR:A= none→xs= []∧c= 0) (w:World) (bL:aH 1 bR w A xs):
 Calls Tryz.prog 245 #[.slice A xs c] w fun e ag=>∃bo cM,e= .returned (.slice (some ⟨bo,0,none⟩) xs cM)∧aV w 3 1 bR ag (.slice (some ⟨bo,0,none⟩) xs cM) xs∧Below w w ag:=by
 obtain⟨i0,hi,dy,dC,dN⟩:=info_parts rN
 have bJ:=J (fun e=>(bL.below (bZ w (.cells #[] e))):∀e:TypeId,aH 1 bR (w.alloc (.cells #[] e)) A xs);clear bL
 go_in
 go_wp2_with ((at_builtin;refine zH rfl _ _ 38 rfl w.heap.size 3 i0 _ 1 8 Tryz.underlying38 hi dy dC dN rfl (by decide) bR fZ pj w.heap.size rfl (aq.new _ _ _) (Nat.le_refl _) A c xs rfl (bJ.out _) aR (by unfold maxLen;omega) (by omega) ?_;intro bo cM bd bP aB))
 go_ret
 exact⟨bo,cM,rfl,bP,ah (bZ _ _) aB⟩
theorem ahP {T:Type} [Inhabited T] {enc:T→Value} {w:World} {g o q:Nat} {d:Array T} {os:Array Obj}:w.grownBy (grow (putRow enc (Sort.ahead w q) g o d) os) (some g):=by
 refine⟨rfl,rfl,rfl,by simp,fun k az eP=>?_⟩
 rw [heap_grow_old _ _ (by simpa using az)]
 have:g≠k:=fun e=>eP (by rw [e])
 simp [putRow,mapBlock,Sort.ahead,Array.getElem?_modify,this]
theorem aal (lG:Nat) (n x:Int) (w:World) (bm:w.cell? ⟨lG,0,none⟩ =some (.int .i64 n)):Calls Tryz.prog 330 #[x,.pointer (some ⟨lG,0,none⟩)] w fun e ag=>e= .returned (.bool (x == n))∧ag= w:=by
 go_in
 go_wp2
 go_ret
 exact⟨rfl,rfl⟩
theorem agh (B g cap lG:Nat) (n:Int) (ls:List Int) (aS:ls.length≤1048576) (w:World) (bP:aV B 3 1 bR w (.slice g ls cap) ls) (bm:w.cell? ⟨lG,0,none⟩ =some (.int .i64 n)) (dU:lG < w.heap.size) (nE:lG≠g):
 Calls Tryz.prog 329 #[.slice g ls cap,.func (.func 330) #[] #[.pointer (some ⟨lG,0,none⟩)]] w fun e ag=>
  e= .returned (.slice g (ls.filter fun x=>!(x == n)).length cap)∧aV B 3 1 bR ag (.slice g (ls.filter fun x=>!(x == n)).length cap) (ls.filter fun x=>!(x == n))∧w.grownBy ag (some g):=by
 have fB:aV B 3 1 (fun x=>[Value.int .i64 x]) w (.slice g ls cap) ls:=bP
 obtain⟨h1,h2,h3,h4⟩:=anH fB
 have jK:∀W,w.grownBy W (some g)→W.cell? ⟨lG,0,none⟩ =some (.int .i64 n):=fun W bI=>(World.cell?_of_block (a:=⟨lG,0,none⟩) (bI.block lG dU (fun e=>nE (Option.some.inj e)))).trans bm
 have aO:PredAt Tryz.prog 330 #[.pointer (some ⟨lG,0,none⟩)] (Value.int .i64) (fun x=>x == n) w:=fun W x bI=>
  (aal lG n x W (jK W (lU bI _))).mono fun e ag ⟨he,hw⟩=>⟨he,0,hw⟩
 have Oy:PredOver Tryz.prog 330 #[.pointer (some ⟨lG,0,none⟩)] (Value.int .i64) (fun x=>x == n) g 0 ls.toArray.size w:=fun q os asL x az=>
  (aal lG n x _ (jK _ ahP)).mono fun e ag ⟨he,hw⟩=>⟨he,0,hw⟩
 have h:=Tryz.slices_DeleteFunc (Value.int .i64) (fun _=>rfl) (fun x=>x == n) 330 #[.pointer (some ⟨lG,0,none⟩)] (enters_of Tryz.func330 (by kernel_rfl) rfl) 0 Tryz.zeroValue3 g 0 cap ls.toArray w aO Oy h1 (by simp;omega) (by simpa using h3)
 rw [List.size_toArray] at h
 refine h.mono ?_
 rintro e ag ⟨rfl,q,rfl⟩
 have hle:(ls.filter fun x=>!(x == n)).length≤ls.length:=List.length_filter_le _ _;have h5:=anI (q:=q) (os:=#[]) (ys:=(ls.filter fun x=>!(x == n)) ++ List.replicate (ls.length - (ls.filter fun x=>!(x == n)).length) 0) fB (by rw [List.length_append,List.length_replicate];omega) hle
 rw [List.take_left' rfl,grow_empty] at h5
 exact⟨rfl,h5⟩
theorem arI (A:Option Addr) (c:Nat) (xs:List Int) (aY:xs.length≤1048576) (aR:A= none→xs= []∧c= 0) (n:Int) (w:World) (bL:aH 1 bR w A xs):
 Calls Tryz.prog 306 #[.slice A xs c,n] w fun e ag=>∃bo cM,e= .returned (.slice (some ⟨bo,0,none⟩) (xs.filter fun x=>!(x == n)).length cM)∧aV w 3 1 bR ag (.slice (some ⟨bo,0,none⟩) (xs.filter fun x=>!(x == n)).length cM) (xs.filter fun x=>!(x == n))∧Below w w ag:=by
 have bJ:=J bL;have gu:=J aR;clear bL aR
 go_in
 go_upto_region 1 with fail
 refine cR fun aF au bm=>?_
 have I:=au;have eb:=(bm.cell 0).trans (show _= some (.int .i64 n) from rfl);have ats:=bm.lt
 go_wp2_with fail
 refine (Tp A c xs aY gu.out _ (bJ.out.below (ah I av))).mono ?_
 rintro e aM ⟨g1,c1,rfl,cm,aN⟩
 have ao:=be aF aN;replace I:=ah I ao;replace bm:=bm.to ao;replace eb:=(bm.cell 0).trans (show _= some (.int .i64 n) from rfl);have gw:=(cm.lt g1 rfl).1;have aS:=bm.lt;have lB:=J cm;have rA:=J I;clear cm bm
 go_wp2_with fail
 refine (agh aF.heap.size g1 c1 w.heap.size n xs aY _ lB.out eb aS (by omega)).mono ?_
 rintro e bB ⟨rfl,bq,xC⟩
 have BL:Below w w bB:=rA.out.grown xC (rA.out.size) (fun k az=>by have:=Option.some.inj az;omega);clear eb
 go_wp2
 go_ret
 exact⟨g1,c1,rfl,bq.base (by omega),BL⟩
theorem aqB (lG:Nat) (af ae sp:Int) (aj:Option Addr) (xU c2:Nat) (ak:Option Addr) (c3:Nat) (U:List aI) (h3:U.length≤1048576) (a b:Int) (v:Int) (aw:Cu (ev U a).cZ (ev U b).cZ= v) (w:World)
  (bm:aq w lG 41 #[af,ae,sp,.slice aj xU c2,.slice ak U c3]) (bh:aH 3 aI.cells w ak U):
 Calls Tryz.prog 251 #[a,b,.pointer (some ⟨lG,0,none⟩)] w fun e ag=>e= .returned v∧Below w w ag:=by
 obtain⟨⟨dW,iM,xs⟩,ay⟩ :∃x,ev U a= x:=⟨_,rfl⟩
 obtain⟨⟨oF,px,ys⟩,hy⟩ :∃y,ev U b= y:=⟨_,rfl⟩
 rw [ay,hy] at aw
 simp only at aw
 have cb:=J ay;have iv:=J hy;have bC:=J aw;have bJ:=J bh;clear ay hy aw bh
 have f1:=fun W=>(show (Instr.field 214 (.agg #[dW,iM,xs]) 1).run Tryz.prog W= .ok (.int .i64 iM) W by kernel_rfl)
 have f2:=fun W=>(show (Instr.field 214 (.agg #[oF,px,ys]) 1).run Tryz.prog W= .ok (.int .i64 px) W by kernel_rfl)
 have c0:=fun K:ax w.heap.size w=>((bm.below K.below bm.lt).cell 0).trans (show _= some (.int .i64 af) from rfl)
 have c1:=fun K:ax w.heap.size w=>((bm.below K.below bm.lt).cell 1).trans (show _= some (.int .i64 ae) from rfl)
 have asz:=fun K:ax w.heap.size w=>((bm.below K.below bm.lt).cell 2).trans (show _= some (.int .i64 sp) from rfl)
 have asA:=fun K:ax w.heap.size w=>((bm.below K.below bm.lt).cell 3).trans (show _= some (.slice aj xU c2) from rfl)
 have c4:=fun K:ax w.heap.size w=>((bm.below K.below bm.lt).cell 4).trans (show _= some (.slice ak U c3) from rfl)
 clear bm
 go_in
 go_wp2
 refine ew (by kernel_rfl) (by kernel_rfl) ?_
 repeat (go_big_quiet_step (fail))
 go_big_quiet_step ((go_at_call 201;exact ax.call _ (by first | exact Nat.le_refl _ | omega) (yi af ae sp aj xU c2 ak c3 U h3 a ⟨dW,iM,xs⟩ cb.out _ (bJ.out.below (ax.below _)))))
 repeat (go_big_quiet_step (fail))
 go_big_quiet_step ((go_at_call 201;exact ax.call _ (by first | exact Nat.le_refl _ | omega) (yi af ae sp aj xU c2 ak c3 U h3 b ⟨oF,px,ys⟩ iv.out _ (bJ.out.below (ax.below _)))))
 repeat (go_big_quiet_step (fail))
 go_big_quiet_step ((go_at_call 252;exact ax.same _ (afT iM px v bC.out _)))
 repeat (go_big_quiet_step (fail))
 refine wpQuiet_nil ?_
 intro K
 go_wp2
 go_ret
 exact⟨rfl,K.below⟩
theorem ZE (af ae sp:Int) (aj:Option Addr) (c2:Nat) (ws:List Int) (ak:Option Addr) (c3:Nat) (U:List aI) (h2:ws.length≤1048576) (h3:U.length≤1048576) (n2:aj= none→ws= []∧c2= 0) (n3:ak= none→U= []∧c3= 0) (cp:ws.length≤c2) (hw:ws.length < 20) (w:World) (bj:aH 1 bR w aj ws) (bh:aH 3 aI.cells w ak U):
 Calls Tryz.prog 174 #[.agg #[af,ae,sp,.slice aj ws c2,.slice ak U c3]] w fun e ag=>∃bo cM,e= .returned (.slice (some ⟨bo,0,none⟩) (kM ⟨af,ae,sp,ws,U⟩).length cM)∧aV w 3 1 bR ag (.slice (some ⟨bo,0,none⟩) (kM ⟨af,ae,sp,ws,U⟩).length cM) (kM ⟨af,ae,sp,ws,U⟩)∧Below w w ag:=by
 have dX:=J bj;have cO:=J bh;have je:=J n2;clear bj bh n2 n3;have hlen:(kM ⟨af,ae,sp,ws,U⟩).length= ws.length:=DO _
 rw [hlen]
 clear hlen
 go_in
 go_upto_region 1 with fail
 refine cR fun aF au ai=>?_
 have I:=au;have aD:=ai.aP;have aty:=ai.lt
 go_wp2_with fail
 refine (Tp aj c2 ws h2 je.out _ (dX.out.below (ah I av))).mono ?_
 rintro e aM ⟨g1,c1,rfl,cm,aN⟩
 have ao:=be aF aN;replace I:=ah I ao;replace ai:=ai.to ao;clear aD;have gw:=(cm.lt g1 rfl).1;have wL:=ao.size;have lB:=J cm;have cB:=J ai;have rA:=J I;have sY:=J (cO.out.below I)
 have nb:Hid (∀jf,ak= some jf→0 < U.length→jf.block < w.heap.size):=J (fun jf e aY=>by
  obtain⟨b,off,e2,aB,_⟩:=cO.out aY
  rw [e] at e2;cases e2;exact aB)
 clear cm ai
 go_upto_region 2 with fail
 go_wp2_with fail
 refine (aqr (sn (jd ⟨af,ae,sp,ws,U⟩)) ws hw aF.heap.size g1 c1 w.heap.size _ gw wL lB.out ?_).mono ?_
 ·intro x z ay cc W bI
  have ahZ:=cB.out.kG bI (by intro e;have:=Option.some.inj e;omega)
  have aio:aH 3 aI.cells W ak U:=if aY:0 < U.length then sY.out.grown bI (fun jf e e2=>by have h1:=nb.out jf e aY;have h2:=Option.some.inj e2;have h3:=rA.out.size;omega) else fun h0=>absurd h0 aY
  exact aqB w.heap.size af ae sp aj ws.length c2 ak c3 U h3 x z _ rfl W ahZ aio
 rintro e bB ⟨rfl,bq,xC⟩
 have BL:Below w w bB:=rA.out.grown xC (rA.out.size) (fun k az=>by have:=Option.some.inj az;omega)
 go_wp2
 go_ret
 exact⟨g1,c1,rfl,bq.base (by omega),BL⟩
end Go.Proofs.YtlaaemmmbodaaaaGreatDoor
