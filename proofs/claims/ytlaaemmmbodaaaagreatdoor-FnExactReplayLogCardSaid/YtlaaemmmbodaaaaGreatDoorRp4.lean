/- Parts. -/
import Derived.Test.YtlaaemmmbodaaaaGreatDoorRp3
import Derived.Laws.NewBlocks
import Derived.Lib.AppendZerosOnto
import Derived.Lib.Overlaps
set_option maxHeartbeats 16000000
set_option maxRecDepth 100000
set_option linter.unnecessarySimpa false
set_option linter.unusedSimpArgs false
set_option linter.unusedVariables false
namespace Go.G9
open Go.RowKit
theorem wE {P:Program} {w:World} {ops:Array Oper} {rest:List Oper} {o:Oper} {a:Act} {Q:Exit→Act→World→Prop} (mC:o.guard= none) (s x:Operand) (t:TypeId)
  (cG:o.op= .call {callee:= .builtin .append,args:=#[s,x],argTypes:=#[t,t]})
  (B:Nat) (e:TypeId) (i:TypeInfo) (z:Value) (sz bytes:Nat) (ct:P.underlying t= some (.slice e)) (hi:P.info? e= some i) (ck:i.zero= some z)
  (tx:i.size= sz) (ti:i.bytes= bytes) (tF:z.cells.size= sz) (gN:0 < sz) {T:Type} (f:T→List Value) (hf:∀y,(f y).length= sz) (jR:∀y u,u ∈ f y→u.oneCell'= true)
  (g:Nat) (aV:a.eval s= .slice g 0 0) (cT:aB w g e #[]) (mR:B≤g) (an:Option Addr) (c2:Nat) (ys:List T) (aw:a.eval x= .slice an ys c2) (bn:aS sz f w an ys) (aX:an= none→ys= []∧c2= 0)
  (h63:ys.length≤maxLen) (tj:ys.length * bytes≤140737488355328)
  (h:∀bA cM ah,bd B e sz f ah (.slice (some ⟨bA,0,none⟩) ys cM) ys→Below w w ah→wpList P ops Q rest (a.put o.dst (.slice (some ⟨bA,0,none⟩) ys cM)) ah):wpList P ops Q (o ::rest) a w:=by
 cases an with
 | some iV=>exact Yd mC s x t cG B e i z sz bytes ct hi ck tx ti tF gN f hf jR g aV cT mR iV c2 ys aw bn h63 tj (fun bA cM ah h1 h2 _=>h bA cM ah h1 h2)
 | none=>
  obtain⟨rfl,rfl⟩:=aX rfl
  have bM:bd B e sz f w (.slice g 0 0) ([]:List T):=bd.Nr (xs:=[]) (cap:=0) cT mR (Nat.le_refl _) (Nat.zero_le _) (by simp) (fun i x aw=>by simp at aw) hf
  exact wpList_append_own_none mC s x t cG B e i sz ct hi (.slice g 0 0) 0 [] aV bM aw (h g 0 w bM (Below.refl _ _))
theorem Gp (v:Value):wI [v,.slice none 0 0,.slice none 0 0,.slice none 0 0,.slice none 0 0]:=by
 have aY:∀k:Nat,some k≠(Value.slice none 0 0).ownBlock:=fun k h=>by cases h
 have hm:∀k:Nat,(Value.slice none 0 0).ownBlock≠some k:=fun k h=>by cases h
 unfold wI
 refine List.Pairwise.cons (fun u hu k _=>?_) (List.Pairwise.cons (fun u hu k h=>absurd h (hm k)) (List.Pairwise.cons (fun u hu k h=>absurd h (hm k)) (List.Pairwise.cons (fun u hu k h=>absurd h (hm k)) (List.Pairwise.cons (fun u hu=>by simp at hu) List.Pairwise.nil))))
 simp only [List.mem_cons,List.not_mem_nil,or_false,or_self] at hu
 subst hu;exact aY k
end Go.G9
namespace Go.Proofs.YtlaaemmmbodaaaaGreatDoor
open Go.RowKit Go.G9
def iH (rs:List aK) (ag af:Int):Bool:=tJ ag af && js rs
def gg (rs:List aK) (ag af:Int):cw:=if iH rs ag af then ⟨rs,[],ag,af,0,[],[],[]⟩ else ⟨[],[],0,0,0,[],[],[]⟩
theorem Vt {rs:List aK} {ag af:Int} (h:iH rs ag af= true):gg rs ag af=⟨rs,[],ag,af,0,[],[],[]⟩:=by simp [gg,h]
theorem HZ {rs:List aK} {ag af:Int} (h:iH rs ag af= false):gg rs ag af=⟨[],[],0,0,0,[],[],[]⟩:=by simp [gg,h]
theorem Iq (x:aK):(aK.cells x).length= 7:=rfl
theorem Ww (x:aK):∀u,u ∈ aK.cells x→u.oneCell'= true:=by
 intro u hu
 simp only [aK.cells,List.mem_cons,List.not_mem_nil,or_false] at hu
 rcases hu with rfl | rfl | rfl | rfl | rfl | rfl | rfl <;> rfl
def Nl (rs:List aK) (e:TypeId):kq (Nat×Nat) where
 par:=fun n=>match n with
  | 2=>[0]
  | _=>[]
 val:=fun n p=>match n with
  | 0=> .slice (some ⟨p.1,0,none⟩) 0 0
  | 2=> .slice (some ⟨p.1,0,none⟩) rs.length p.2
  | _=>undef
 post:=fun n bl p cN V=>match n with
  | 0=>cN.heap.size= p.1∧aB V p.1 e #[]
  | 2=>bd (bl 0).1 e 7 aK.cells V (.slice (some ⟨p.1,0,none⟩) rs.length p.2) rs
  | _=>True
theorem aaj {p:Prop} (h:p:=by
 clear ak;have ak:=U.aI;have dM:=U.ib;have pn:=ai.lt;have lV:=U.lt
 go_wp2
 clear aC ak
 refine hR 0 fun cD aE=>?_
 replace I:=aE.aH I;replace ai:=aE.dV ai;replace U:=aE.ia U;have xN:=aE.sz;have aC:=ai.aM;have ak:=U.aI
 refine bodyPost_ret (v:= .tuple #[.agg #[.slice none 0 0,.slice none 0 0,(0:Int),(0:Int),(0:Int),.slice none 0 0,.slice none 0 0,.slice none 0 0],false]) (by simp [results,Tryz.results77,go_sem,ak]) rfl ?_
 rw [HZ iq.out,iq.out]
 exact⟨none,0,none,0,none,0,none,0,none,0,rfl,bd.nil,bd.nil,bd.nil,bd.nil,bd.nil,Gp _,I⟩):p:=h
theorem ZH {p:Prop} (h:p:=by
 change wpList _ _ _ (_ ::[]) _ _
 go_wp2
 exact hA ⟨(_,0),rfl,bT _ _,rfl,aB.new _ _ _⟩):p:=h
theorem aak {p:Prop} (h:p:=by
 change wpList _ _ _ (_ ::[]) _ _
 obtain⟨gI,rN,oq,⟨lb,kM⟩,kN⟩:=fq 0 (by simp [Nl])
 have kO:=kM.to kN;have oi:=J (eL.out.ae ((mH.out _).1 k.holds).1);have oh:=J kO;clear kO kM lb oq kN fq
 go_wp2_with ((at_builtin;refine wE rfl _ _ 29 rfl (bl 0).1 89 i0 _ 7 48 Tryz.underlying29 hi dn dC dz rfl (by decide) aK.cells Iq Ww (bl 0).1 rfl oh.out (Nat.le_refl _) A c rs rfl oi.out aX (by unfold maxLen;omega) (by omega) ?_;intro bA cM ah fJ fh))
 first | exact hA ⟨(bA,cM),rfl,fh,fJ⟩ | exact hA ⟨bA,cM,rfl,fh,fJ⟩):p:=h
theorem YD {p:Prop} (h:p:=by
 rw [Vt iq.out,iq.out]
 exact⟨some ⟨g9,0,none⟩,c9,none,0,none,0,none,0,none,0,rfl,bM.base (by omega),bd.nil,bd.nil,bd.nil,bd.nil,Gp _,I⟩):p:=h
theorem aik (A:Option Addr) (c:Nat) (rs:List aK) (aY:rs.length≤1048576) (ag af:Int) (w:World) (bn:aS 7 aK.cells w A rs) (aX:A= none→rs= []∧c= 0) (fo:rs.length≤c):
 Calls Tryz.prog 77 #[.slice A rs c,ag,af] w fun e ah=>∃bQ d0 cn d1 aZ d2 bk d3 bR d4,e= .returned (.tuple #[.agg #[.slice bQ (gg rs ag af).cx.length d0,.slice cn (gg rs ag af).cP.length d1,.int .i64 (gg rs ag af).ek,.int .i64 (gg rs ag af).dS,.int .i64 (gg rs ag af).fk,.slice aZ (gg rs ag af).ds.length d2,.slice bk (gg rs ag af).du.length d3,.slice bR (gg rs ag af).cl.length d4],.bool (iH rs ag af)])∧bd w 89 7 aK.cells ah (.slice bQ (gg rs ag af).cx.length d0) (gg rs ag af).cx∧bd w 115 3 aQ.cells ah (.slice cn (gg rs ag af).cP.length d1) (gg rs ag af).cP∧bd w 3 1 bV ah (.slice aZ (gg rs ag af).ds.length d2) (gg rs ag af).ds∧bd w 214 3 aO.cells ah (.slice bk (gg rs ag af).du.length d3) (gg rs ag af).du∧bd w 163 3 Out.cells ah (.slice bR (gg rs ag af).cl.length d4) (gg rs ag af).cl∧wI [.slice bQ (gg rs ag af).cx.length d0,.slice cn (gg rs ag af).cP.length d1,.slice aZ (gg rs ag af).ds.length d2,.slice bk (gg rs ag af).du.length d3,.slice bR (gg rs ag af).cl.length d4]∧Below w w ah:=by
 obtain⟨i0,hi,dn,dC,dz⟩:=info_parts EA
 have eL:=J bn;have po:=J aX;clear aX
 cases mX:tJ ag af
 ·have eZ:=J mX
  have iq:Hid (iH rs ag af= false):=J (by simp [iH,mX]);clear mX
  go_in
  go_upto_region 1 with fail
  refine cF fun aG au U=>?_
  replace bn:=bn.ae au;have I:=au;have ak:=U.aI;have fQ:=U.lt
  go_wp2_with fail
  refine (aij ag af eZ.out _).mono ?_
  rintro e aJ ⟨rfl,aL⟩
  have al:=be aG aL;replace I:=aj I al;replace bn:=bn.ae al;replace U:=U.to al;clear ak;have ak:=U.aI;have FF:=al.size
  go_upto_region 2 with fail
  refine cF fun uZ aP ai=>?_
  replace bn:=bn.ae aP;replace I:=aj I aP;have aC:=ai.aM;replace U:=U.to aP
  exact aaj
 cases gB:js rs
 ·have eZ:=J mX
  have bo:=J gB;have iq:Hid (iH rs ag af= false):=J (by simp [iH,gB]);clear mX gB
  go_in
  go_upto_region 1 with fail
  refine cF fun aG au U=>?_
  replace bn:=bn.ae au;have I:=au;have ak:=U.aI;have fQ:=U.lt
  go_wp2_with fail
  refine (TT ag af eZ.out _).mono ?_
  rintro e aJ ⟨rfl,aL⟩
  have al:=be aG aL;replace I:=aj I al;replace bn:=bn.ae al;replace U:=U.to al;clear ak;have ak:=U.aI;have FF:=al.size
  go_upto_region 2 with fail
  refine cF fun uZ aP ai=>?_
  replace bn:=bn.ae aP;replace I:=aj I aP;have aC:=ai.aM;replace U:=U.to aP;clear ak;have ak:=U.aI
  go_wp2_with fail
  refine (zp A c rs aY fo _ bo.out _ (bn.ae az)).mono ?_
  rintro e bU ⟨rfl,cY⟩
  have bN:=be uZ cY;replace I:=aj I bN;replace bn:=bn.ae bN;replace ai:=ai.to bN;clear aC;have aC:=ai.aM;replace U:=U.to bN
  exact aaj
 ·have eZ:=J mX
  have bo:=J gB;have iq:Hid (iH rs ag af= true):=J (by simp [iH,mX,gB]);clear mX gB
  go_in
  go_upto_region 1 with fail
  refine cF fun aG au U=>?_
  replace bn:=bn.ae au;have I:=au;have ak:=U.aI;have fQ:=U.lt
  go_wp2_with fail
  refine (TT ag af eZ.out _).mono ?_
  rintro e aJ ⟨rfl,aL⟩
  have al:=be aG aL;replace I:=aj I al;replace bn:=bn.ae al;replace U:=U.to al;clear ak;have ak:=U.aI;have FF:=al.size
  go_upto_region 2 with fail
  refine cF fun uZ aP ai=>?_
  replace bn:=bn.ae aP;replace I:=aj I aP;have aC:=ai.aM;replace U:=U.to aP;clear ak;have ak:=U.aI
  go_wp2_with fail
  refine (zp A c rs aY fo _ bo.out _ (bn.ae az)).mono ?_
  rintro e bU ⟨rfl,cY⟩
  have bN:=be uZ cY;replace I:=aj I bN;replace bn:=bn.ae bN;replace ai:=ai.to bN;clear aC;have aC:=ai.aM;replace U:=U.to bN;clear ak;have ak:=U.aI;have xw:=U.lt;have Hn:=I.size;have aX:=po.out
  obtain⟨xV,Du⟩ :∃X:World→Prop,∀V,X V↔(Below w w V∧aB V (aJ.heap.size) 41 #[ag,af,(0:Int),.slice none 0 0,.slice none 0 0]):=⟨_,fun _=>Iff.rfl⟩
  have mH:=J Du;clear Du
  haveI:Nonempty (cH xV):=⟨⟨bU,((mH.out _).2 ⟨I,ai⟩)⟩⟩
  clear aC;clear ak;have aC:=aB.jH (fun K:cH xV=>((mH.out _).1 K.holds).2)
  go_wp2
  refine wF (Nl rs 89) xV [([],0),([1],2)] [3,4] [([],5)] [6] (by kernel_rfl) (by kernel_rfl) ((mH.out _).2 ⟨I.drew,ai⟩) (fun W eF h k=>((mH.out _).2 ⟨((mH.out _).1 h).1.trans (k.mono ((mH.out _).1 h).1.size),((mH.out _).1 h).2.ae k ((mH.out _).1 h).2.lt⟩)) ?_
  intro bl
  refine hI (some 24) rfl (.slice (some ⟨(bl 0).1,0,none⟩) 0 0) rfl fun hz eb=>?_
  change wpQuiet _ _ _ _ ([]) _
  refine wpQuiet_nil ?_
  refine⟨fun k fq=>?_,eb _ ?_⟩
  ·exact ZH
  simp only [Act.put]
  go_simp
  refine hI (some 26) rfl (.slice (some ⟨(bl 2).1,0,none⟩) rs.length (bl 2).2) rfl fun hz eb=>?_
  change wpQuiet _ _ _ _ (_ ::[]) _
  repeat (go_big_quiet_step (fail))
  refine wpQuiet_nil ?_
  refine⟨fun k fq=>?_,eb _ ?_⟩
  ·exact aak
  simp only [Act.put]
  go_simp
  refine qJ ?_
  change wpQuiet _ _ _ _ (_ ::_ ::[]) _
  repeat (go_big_quiet_step (fail))
  refine wpQuiet_nil ?_
  intro cN V W aU bL
  have je:bd (bl 0).1 89 7 aK.cells (V 2) (.slice (some ⟨(bl 2).1,0,none⟩) rs.length (bl 2).2) rs:=aU.post 2 (by simp)
  obtain⟨EU,_⟩ :(cN 0).heap.size= (bl 0).1∧aB (V 0) (bl 0).1 89 #[]:=aU.post 0 (by simp)
  have En:=(aU.lN 0 (by simp)).size;have bM:=(je.bm (aU.bm 2 (by simp))).base (B':=bU.heap.size) (by rw [← EU];exact En);clear aC;have eQ:Below bU bU W:=aj az (aU.whole 2 (by simp)).oM;replace I:=aj I eQ;replace bn:=bn.ae eQ;replace ai:=ai.to eQ;have aC:=ai.aM;replace U:=U.to eQ;have ak:=U.aI;clear aU je En EU bL
  generalize bl 0= ch at *
  generalize bl 2= cZ at *
  obtain⟨g9,c9⟩:=cZ
  refine gr fun fT dv=>?_
  change wpQuiet _ _ _ _ ([]) _
  refine wpQuiet_nil ?_
  change wpList _ _ _ (_ ::[]) _ _
  have dM:=U.ib;have pn:=ai.lt;have lV:=U.lt
  go_wp2
  clear aC ak
  refine hR 0 fun Ay hS=>?_
  replace I:=hS.aH I;replace ai:=hS.dV ai;replace U:=hS.ia U;have aeL:=hS.fC;have anJ:=hS.sz;replace bM:=bM.bY hS (fun k aD=>by first | exact nehO k aD | (have:=bM.lt k aD;omega));have aC:=ai.aM;have ak:=U.aI
  refine gw (((mH.out _).2 ⟨I,ai⟩)) (dv _ _ ?_)
  refine kD ?_
  change wpQuiet _ _ _ _ (_ ::[]) _
  repeat (go_big_quiet_step (fail))
  refine wpQuiet_nil ?_
  go_wp2
  refine bodyPost_ret (v:= .tuple #[.agg #[.slice g9 rs c9,.slice none 0 0,ag,af,(0:Int),.slice none 0 0,.slice none 0 0,.slice none 0 0],true]) (by simp [results,Tryz.results77,go_sem,ak]) rfl ?_
  exact YD
theorem abo {p:Prop} (h:p:=by
 go_in
 go_upto_region 1 with fail
 refine cF fun aG au U=>?_
 replace bn:=bn.ae au;have I:=au;have ak:=U.aI;have fQ:=U.lt
 go_wp2_with fail
 refine (amL ag af eZ.out _).mono ?_
 rintro e aJ ⟨rfl,aL⟩
 have al:=be aG aL;replace I:=aj I al;replace bn:=bn.ae al;replace U:=U.to al;clear ak;have ak:=U.aI;have FF:=al.size
 go_upto_region 2 with fail
 refine cF fun uZ aP ai=>?_
 replace bn:=bn.ae aP;replace I:=aj I aP;have aC:=ai.aM;replace U:=U.to aP;clear ak;have ak:=U.aI
 go_wp2_with fail
 refine (zv A c rs aY _ bo.out _ (bn.ae az)).mono ?_
 rintro e bU ⟨rfl,cY⟩
 have bN:=be uZ cY;replace I:=aj I bN;replace bn:=bn.ae bN;replace ai:=ai.to bN;clear aC;have aC:=ai.aM;replace U:=U.to bN;clear ak;have ak:=U.aI;have dM:=U.ib;have pn:=ai.lt;have lV:=U.lt
 go_wp2
 clear aC ak
 refine hR 0 fun cD aE=>?_
 replace I:=aE.aH I;replace ai:=aE.dV ai;replace U:=aE.ia U;have xN:=aE.sz;have aC:=ai.aM;have ak:=U.aI
 refine bodyPost_ret (v:= .tuple #[.agg #[.slice none 0 0,.slice none 0 0,(0:Int),(0:Int),(0:Int),.slice none 0 0,.slice none 0 0,.slice none 0 0],false]) (by simp [results,Tryz.results78,go_sem,ak]) rfl ?_
 rw [HZ iq.out,iq.out]
 exact⟨none,0,none,0,none,0,none,0,none,0,rfl,bd.nil,bd.nil,bd.nil,bd.nil,bd.nil,Gp _,I⟩):p:=h
theorem amM (A:Option Addr) (c:Nat) (rs:List aK) (aY:rs.length≤1048576) (ag af:Int) (w:World) (bn:aS 7 aK.cells w A rs) (aX:A= none→rs= []∧c= 0) (fo:rs.length≤c):
 Calls Tryz.prog 78 #[.slice A rs c,ag,af] w fun e ah=>∃bQ d0 cn d1 aZ d2 bk d3 bR d4,e= .returned (.tuple #[.agg #[.slice bQ (gg rs ag af).cx.length d0,.slice cn (gg rs ag af).cP.length d1,.int .i64 (gg rs ag af).ek,.int .i64 (gg rs ag af).dS,.int .i64 (gg rs ag af).fk,.slice aZ (gg rs ag af).ds.length d2,.slice bk (gg rs ag af).du.length d3,.slice bR (gg rs ag af).cl.length d4],.bool (iH rs ag af)])∧bd w 89 7 aK.cells ah (.slice bQ (gg rs ag af).cx.length d0) (gg rs ag af).cx∧bd w 115 3 aQ.cells ah (.slice cn (gg rs ag af).cP.length d1) (gg rs ag af).cP∧bd w 3 1 bV ah (.slice aZ (gg rs ag af).ds.length d2) (gg rs ag af).ds∧bd w 214 3 aO.cells ah (.slice bk (gg rs ag af).du.length d3) (gg rs ag af).du∧bd w 163 3 Out.cells ah (.slice bR (gg rs ag af).cl.length d4) (gg rs ag af).cl∧wI [.slice bQ (gg rs ag af).cx.length d0,.slice cn (gg rs ag af).cP.length d1,.slice aZ (gg rs ag af).ds.length d2,.slice bk (gg rs ag af).du.length d3,.slice bR (gg rs ag af).cl.length d4]∧Below w w ah:=by
 obtain⟨i0,hi,dn,dC,dz⟩:=info_parts EA
 have eL:=J bn;have po:=J aX;clear aX
 cases gB:js rs
 ·have bo:=J gB
  have iq:Hid (iH rs ag af= false):=J (by simp [iH,gB]);clear gB
  cases mX:tJ ag af
  ·have eZ:=J mX
   clear mX
   exact abo
  ·have eZ:=J mX
   clear mX
   go_in
   go_upto_region 1 with fail
   refine cF fun aG au U=>?_
   replace bn:=bn.ae au;have I:=au;have ak:=U.aI;have fQ:=U.lt
   go_wp2_with fail
   refine (WO ag af eZ.out _).mono ?_
   rintro e aJ ⟨rfl,aL⟩
   have al:=be aG aL;replace I:=aj I al;replace bn:=bn.ae al;replace U:=U.to al;clear ak;have ak:=U.aI;have FF:=al.size
   go_upto_region 2 with fail
   refine cF fun uZ aP ai=>?_
   replace bn:=bn.ae aP;replace I:=aj I aP;have aC:=ai.aM;replace U:=U.to aP;clear ak;have ak:=U.aI
   go_wp2_with fail
   refine (zv A c rs aY _ bo.out _ (bn.ae az)).mono ?_
   rintro e bU ⟨rfl,cY⟩
   have bN:=be uZ cY;replace I:=aj I bN;replace bn:=bn.ae bN;replace ai:=ai.to bN;clear aC;have aC:=ai.aM;replace U:=U.to bN;clear ak;have ak:=U.aI;have dM:=U.ib;have pn:=ai.lt;have lV:=U.lt
   go_wp2
   clear aC ak
   refine hR 0 fun cD aE=>?_
   replace I:=aE.aH I;replace ai:=aE.dV ai;replace U:=aE.ia U;have xN:=aE.sz;have aC:=ai.aM;have ak:=U.aI
   refine bodyPost_ret (v:= .tuple #[.agg #[.slice none 0 0,.slice none 0 0,(0:Int),(0:Int),(0:Int),.slice none 0 0,.slice none 0 0,.slice none 0 0],false]) (by simp [results,Tryz.results78,go_sem,ak]) rfl ?_
   rw [HZ iq.out,iq.out]
   exact⟨none,0,none,0,none,0,none,0,none,0,rfl,bd.nil,bd.nil,bd.nil,bd.nil,bd.nil,Gp _,I⟩
 cases mX:tJ ag af
 ·have eZ:=J mX
  have bo:=J gB;have iq:Hid (iH rs ag af= false):=J (by simp [iH,mX]);clear mX gB
  exact abo
 ·have eZ:=J mX
  have bo:=J gB;have iq:Hid (iH rs ag af= true):=J (by simp [iH,mX,gB]);clear mX gB
  go_in
  go_upto_region 1 with fail
  refine cF fun aG au U=>?_
  replace bn:=bn.ae au;have I:=au;have ak:=U.aI;have fQ:=U.lt
  go_wp2_with fail
  refine (WO ag af eZ.out _).mono ?_
  rintro e aJ ⟨rfl,aL⟩
  have al:=be aG aL;replace I:=aj I al;replace bn:=bn.ae al;replace U:=U.to al;clear ak;have ak:=U.aI;have FF:=al.size
  go_upto_region 2 with fail
  refine cF fun uZ aP ai=>?_
  replace bn:=bn.ae aP;replace I:=aj I aP;have aC:=ai.aM;replace U:=U.to aP;clear ak;have ak:=U.aI
  go_wp2_with fail
  refine (zv A c rs aY _ bo.out _ (bn.ae az)).mono ?_
  rintro e bU ⟨rfl,cY⟩
  have bN:=be uZ cY;replace I:=aj I bN;replace bn:=bn.ae bN;replace ai:=ai.to bN;clear aC;have aC:=ai.aM;replace U:=U.to bN;clear ak;have ak:=U.aI;have xw:=U.lt;have Hn:=I.size;have aX:=po.out
  obtain⟨xV,Du⟩ :∃X:World→Prop,∀V,X V↔(Below w w V∧aB V (aJ.heap.size) 41 #[ag,af,(0:Int),.slice none 0 0,.slice none 0 0]):=⟨_,fun _=>Iff.rfl⟩
  have mH:=J Du;clear Du
  haveI:Nonempty (cH xV):=⟨⟨bU,((mH.out _).2 ⟨I,ai⟩)⟩⟩
  clear aC;clear ak;have aC:=aB.jH (fun K:cH xV=>((mH.out _).1 K.holds).2)
  go_wp2
  refine wF (Nl rs 89) xV [([],0),([1],2)] [3,4] [([],5)] [6] (by kernel_rfl) (by kernel_rfl) ((mH.out _).2 ⟨I.drew,ai⟩) (fun W eF h k=>((mH.out _).2 ⟨((mH.out _).1 h).1.trans (k.mono ((mH.out _).1 h).1.size),((mH.out _).1 h).2.ae k ((mH.out _).1 h).2.lt⟩)) ?_
  intro bl
  refine hI (some 24) rfl (.slice (some ⟨(bl 0).1,0,none⟩) 0 0) rfl fun hz eb=>?_
  change wpQuiet _ _ _ _ ([]) _
  refine wpQuiet_nil ?_
  refine⟨fun k fq=>?_,eb _ ?_⟩
  ·exact ZH
  simp only [Act.put]
  go_simp
  refine hI (some 26) rfl (.slice (some ⟨(bl 2).1,0,none⟩) rs.length (bl 2).2) rfl fun hz eb=>?_
  change wpQuiet _ _ _ _ (_ ::[]) _
  repeat (go_big_quiet_step (fail))
  refine wpQuiet_nil ?_
  refine⟨fun k fq=>?_,eb _ ?_⟩
  ·exact aak
  simp only [Act.put]
  go_simp
  refine qJ ?_
  change wpQuiet _ _ _ _ (_ ::_ ::[]) _
  repeat (go_big_quiet_step (fail))
  refine wpQuiet_nil ?_
  intro cN V W aU bL
  have je:bd (bl 0).1 89 7 aK.cells (V 2) (.slice (some ⟨(bl 2).1,0,none⟩) rs.length (bl 2).2) rs:=aU.post 2 (by simp)
  obtain⟨EU,_⟩ :(cN 0).heap.size= (bl 0).1∧aB (V 0) (bl 0).1 89 #[]:=aU.post 0 (by simp)
  have En:=(aU.lN 0 (by simp)).size;have bM:=(je.bm (aU.bm 2 (by simp))).base (B':=bU.heap.size) (by rw [← EU];exact En);clear aC;have eQ:Below bU bU W:=aj az (aU.whole 2 (by simp)).oM;replace I:=aj I eQ;replace bn:=bn.ae eQ;replace ai:=ai.to eQ;have aC:=ai.aM;replace U:=U.to eQ;have ak:=U.aI;clear aU je En EU bL
  generalize bl 0= ch at *
  generalize bl 2= cZ at *
  obtain⟨g9,c9⟩:=cZ
  refine gr fun fT dv=>?_
  change wpQuiet _ _ _ _ ([]) _
  refine wpQuiet_nil ?_
  change wpList _ _ _ (_ ::[]) _ _
  have dM:=U.ib;have pn:=ai.lt;have lV:=U.lt
  go_wp2
  clear aC ak
  refine hR 0 fun Ay hS=>?_
  replace I:=hS.aH I;replace ai:=hS.dV ai;replace U:=hS.ia U;have aeL:=hS.fC;have anJ:=hS.sz;replace bM:=bM.bY hS (fun k aD=>by first | exact nehO k aD | (have:=bM.lt k aD;omega));have aC:=ai.aM;have ak:=U.aI
  refine gw (((mH.out _).2 ⟨I,ai⟩)) (dv _ _ ?_)
  refine kD ?_
  change wpQuiet _ _ _ _ (_ ::[]) _
  repeat (go_big_quiet_step (fail))
  refine wpQuiet_nil ?_
  go_wp2
  refine bodyPost_ret (v:= .tuple #[.agg #[.slice g9 rs c9,.slice none 0 0,ag,af,(0:Int),.slice none 0 0,.slice none 0 0,.slice none 0 0],true]) (by simp [results,Tryz.results78,go_sem,ak]) rfl ?_
  exact YD
open Go.RowKit Go.G9
theorem adB (A:Option Addr) (c:Nat) (xs:List Int) (aY:xs.length≤1048576) (aX:A= none→xs= []∧c= 0) (w:World) (bn:aS 1 bV w A xs):
 Calls Tryz.prog 245 #[.slice A xs c] w fun e ah=>∃kS cM,e= .returned (.slice kS xs cM)∧bd w 3 1 bV ah (.slice kS xs cM) xs∧Below w w ah:=by
 obtain⟨i0,hi,dn,dC,dz⟩:=info_parts rr
 exact aaz
theorem ig (x:aO):(aO.cells x).length= 3:=rfl
theorem uT (x:aO):∀u,u ∈ aO.cells x→u.oneCell'= true:=by
 intro u hu
 simp only [aO.cells,List.mem_cons,List.not_mem_nil,or_false] at hu
 rcases hu with rfl | rfl | rfl <;> rfl
structure jC (B:Nat) (w:World) (aZ:Option Addr) (d2:Nat) (bk:Option Addr) (d3:Nat) (ws:List Int) (ad:List aO):Prop where
 fi:bd B 3 1 bV w (.slice aZ ws.length d2) ws
 fO:bd B 214 3 aO.cells w (.slice bk ad.length d3) ad
 ap:∀k,(Value.slice aZ ws.length d2).ownBlock= some k→some k≠(Value.slice bk ad.length d3).ownBlock
theorem jC.bm {B:Nat} {w ah:World} {aZ:Option Addr} {d2:Nat} {bk:Option Addr} {d3:Nat} {ws:List Int} {ad:List aO} (h:jC B w aZ d2 bk d3 ws ad) (aF:Below w w ah):jC B ah aZ d2 bk d3 ws ad:=⟨h.fi.bm aF,h.fO.bm aF,h.ap⟩
theorem jC.base {B B':Nat} {w:World} {aZ:Option Addr} {d2:Nat} {bk:Option Addr} {d3:Nat} {ws:List Int} {ad:List aO} (h:jC B w aZ d2 bk d3 ws ad) (aF:B'≤B):jC B' w aZ d2 bk d3 ws ad:=⟨h.fi.base aF,h.fO.base aF,h.ap⟩
theorem EM (ag af sp:Int) (an:Option Addr) (c2:Nat) (ws:List Int) (ao:Option Addr) (c3:Nat) (ad:List aO) (h2:ws.length≤1048576) (h3:ad.length≤1048576) (n2:an= none→ws= []∧c2= 0) (n3:ao= none→ad= []∧c3= 0) (w:World) (bw:aS 1 bV w an ws) (bt:aS 3 aO.cells w ao ad):
 Calls Tryz.prog 166 #[.agg #[ag,af,sp,.slice an ws c2,.slice ao ad c3]] w fun e ah=>∃aZ d2 g3 d3,e= .returned (.agg #[ag,af,sp,.slice aZ ws d2,.slice (some ⟨g3,0,none⟩) ad d3])∧jC w.heap.size ah aZ d2 (some ⟨g3,0,none⟩) d3 ws ad∧Below w w ah:=by
 obtain⟨i0,hi,dn,dC,dz⟩:=info_parts Bp
 have dQ:=J bw;have cQ:=J bt;have iU:=J n2;have iK:=J n3;clear bw bt n2 n3
 go_in
 go_upto_region 1 with fail
 refine fe fun aG au ai U=>?_
 have I:=au;have aC:=ai.aM;have ak:=U.aM;have fQ:=U.lt
 go_wp2_with fail
 refine (adB an c2 ws h2 iU.out _ (dQ.out.ae (aj I az))).mono ?_
 rintro e aJ ⟨aZ,d2,rfl,bI,aL⟩
 have al:=be aG aL;replace I:=aj I al;replace ai:=ai.to al;clear aC;have aC:=ai.aM;replace U:=U.to al;clear ak;have ak:=U.aM;have apb:=ai.frozen 3;have pn:=ai.lt;have lV:=U.lt
 go_upto_region 2 with fail
 clear aC ak
 refine mF 3 fun kr qI=>?_
 replace I:=qI.aH I;replace ai:=qI.EX ai;replace U:=qI.dV U;replace bI:=bI.bY qI (fun k aD=>by first | exact ez k aD | (have:=bI.lt k aD;omega));have aC:=ai.aM;have ak:=U.aM
 have jm:∀k,(Value.slice aZ ws d2).ownBlock= some k→k < kr.heap.size:=fun k aD=>(bI.lt k aD).2
 have pn:=ai.lt;have lV:=U.lt;have oe:=J jm;clear jm;have acv:=J (fun e=>(cQ.out.ae (aj I (bT kr (.cells #[] e)))):∀e:TypeId,aS 3 aO.cells (kr.alloc (.cells #[] e)) ao ad);have sd:=iK.out
 go_upto_region 3 with ((at_builtin;refine wE rfl _ _ 39 rfl kr.heap.size 214 i0 _ 3 24 Tryz.underlying39 hi dn dC dz rfl (by decide) aO.cells ig uT kr.heap.size rfl (aB.new _ _ _) (Nat.le_refl _) ao c3 ad rfl (acv.out _) sd (by unfold maxLen;omega) (by omega) ?_;intro g3 d3 bB bD bx;have DW:Below kr kr bB:=aj (bT _ _) bx;have KU:=ai.to DW;have mQ:=KU.frozen 4;have aet:=(KU.cell 4).trans (show _= some (Value.slice ao ad c3) from rfl)))
 clear KU mQ aet sd;have aP:=be kr bx;replace I:=aj I aP;replace bI:=bI.bm aP;replace ai:=ai.to aP;clear aC;have aC:=ai.aM;replace U:=U.to aP;clear ak;have ak:=U.aM;have xq:=(bD.lt g3 rfl).1;clear aC ak
 refine mF 4 fun Ay hS=>?_
 replace I:=hS.aH I;replace ai:=hS.VP ai;replace U:=hS.dV U;replace bI:=bI.bY hS (fun k aD=>by first | exact ez k aD | (have:=bI.lt k aD;omega));replace bD:=bD.bY hS (fun k aD=>by first | exact dG k aD | (have:=bD.lt k aD;omega))
 have aC:=ai.aM;have ak:=U.aM;have dM:=U.iE
 go_wp2
 clear aC ak
 refine gF 0 fun cD aE=>?_
 replace I:=aE.aH I;replace U:=aE.hV U;replace bI:=bI.bY aE (fun k aD=>by first | exact ez k aD | (have:=bI.lt k aD;omega));replace bD:=bD.bY aE (fun k aD=>by first | exact dG k aD | (have:=bD.lt k aD;omega));have ak:=U.aM
 exact hD ⟨aZ,d2,g3,d3,rfl,⟨bI.base (by omega),bD.base (by omega),fun k aD e=>by have h5:=oe.out k aD;have h6:k= g3:=Option.some.inj e;omega⟩,I⟩ (by simp [results,Tryz.results166,go_sem,ak])
end Go.Proofs.YtlaaemmmbodaaaaGreatDoor
namespace Go.G9
open Go.RowKit
theorem aog {P:Program} {w:World} {ops:Array Oper} {rest:List Oper} {o:Oper} {a:Act} {Q:Exit→Act→World→Prop} (mC:o.guard= none) (s x:Operand) (t:TypeId)
  (cG:o.op= .call {callee:= .builtin .append,args:=#[s,x],argTypes:=#[t,t]})
  (B:Nat) (e:TypeId) (i:TypeInfo) (z:Value) (sz bytes:Nat) (ct:P.underlying t= some (.slice e)) (hi:P.info? e= some i) (ck:i.zero= some z)
  (tx:i.size= sz) (ti:i.bytes= bytes) (tF:z.cells.size= sz) (gN:0 < sz) {T:Type} (f:T→List Value) (hf:∀y,(f y).length= sz) (jR:∀y u,u ∈ f y→u.oneCell'= true)
  (g:Nat) (aV:a.eval s= .slice g 0 0) (cT:aB w g e #[]) (mR:B≤g) (an:Option Addr) (c2:Nat) (ys:List T) (aw:a.eval x= .slice an ys c2) (bn:aS sz f w an ys) (aX:an= none→ys= []∧c2= 0)
  (h63:ys.length≤maxLen) (tj:ys.length * bytes≤140737488355328)
  (h:∀bA cM ah,bd B e sz f ah (.slice (some ⟨bA,0,none⟩) ys cM) ys→Below w w ah→(bA= g∨w.heap.size≤bA)→wpList P ops Q rest (a.put o.dst (.slice (some ⟨bA,0,none⟩) ys cM)) ah):wpList P ops Q (o ::rest) a w:=by
 cases an with
 | some iV=>exact Yd mC s x t cG B e i z sz bytes ct hi ck tx ti tF gN f hf jR g aV cT mR iV c2 ys aw bn h63 tj (fun bA cM ah h1 h2 h3=>h bA cM ah h1 h2 h3)
 | none=>
  obtain⟨rfl,rfl⟩:=aX rfl
  have bM:bd B e sz f w (.slice g 0 0) ([]:List T):=bd.Nr (xs:=[]) (cap:=0) cT mR (Nat.le_refl _) (Nat.zero_le _) (by simp) (fun i x aw=>by simp at aw) hf
  exact wpList_append_own_none mC s x t cG B e i sz ct hi (.slice g 0 0) 0 [] aV bM aw (h g 0 w bM (Below.refl _ _) (.inl rfl))
end Go.G9
namespace Go.Proofs.YtlaaemmmbodaaaaGreatDoor
open Go.RowKit Go.G9
def UG (ws:List Int) (ad:List aO):kq (Option Addr×Nat) where
 par:=fun n=>match n with
  | 12=>[9]
  | _=>[]
 val:=fun n p=>match n with
  | 8=> .slice p.1 ws.length p.2
  | 9=> .slice p.1 0 0
  | 12=> .slice p.1 ad.length p.2
  | _=>undef
 post:=fun n bl p cN V=>match n with
  | 8=>bd cN.heap.size 3 1 bV V (.slice p.1 ws.length p.2) ws
  | 9=>p.1= some ⟨cN.heap.size,0,none⟩∧aB V cN.heap.size 214 #[]
  | 12=>∃g bA,(bl 9).1= some ⟨g,0,none⟩∧p.1= some ⟨bA,0,none⟩∧(bA= g∨cN.heap.size≤bA)∧bd g 214 3 aO.cells V (.slice p.1 ad.length p.2) ad
  | _=>True
theorem EE (ag af sp:Int) (an:Option Addr) (c2:Nat) (ws:List Int) (ao:Option Addr) (c3:Nat) (ad:List aO) (h2:ws.length≤1048576) (h3:ad.length≤1048576) (n2:an= none→ws= []∧c2= 0) (n3:ao= none→ad= []∧c3= 0) (w:World) (bw:aS 1 bV w an ws) (bt:aS 3 aO.cells w ao ad):
 Calls Tryz.prog 183 #[.agg #[ag,af,sp,.slice an ws c2,.slice ao ad c3]] w fun e ah=>∃aZ d2 bk d3,e= .returned (.agg #[ag,af,sp,.slice aZ ws d2,.slice bk ad d3])∧jC w.heap.size ah aZ d2 bk d3 ws ad∧Below w w ah:=by
 obtain⟨i0,hi,dn,dC,dz⟩:=info_parts Bp
 have dQ:=J bw;have cQ:=J bt;have iU:=J n2;have iK:=J n3;clear bw bt n2 n3
 go_in
 go_upto_region 1 with fail
 refine fe fun aG au ai U=>?_
 have I:=au;have aC:=ai.aM;have ak:=U.aM;have fQ:=U.lt;have sd:=iK.out
 obtain⟨sH,xd⟩ :∃X:World→Prop,∀V,X V↔(Below w w V∧aB V (w.heap.size) 41 #[ag,af,sp,.slice an ws c2,.slice ao ad c3]):=⟨_,fun _=>Iff.rfl⟩
 have iB:=J xd;clear xd
 haveI:Nonempty (cH sH):=⟨⟨aG,((iB.out _).2 ⟨I,ai⟩)⟩⟩
 clear aC;clear ak;have aC:=aB.jH (fun K:cH sH=>((iB.out _).1 K.holds).2)
 go_wp2
 refine wF (UG ws ad) sH [([0,1,2,3,4,5,6,7],8),([],9),([10,11],12)] [13] [([],14)] [] (by kernel_rfl) (by kernel_rfl) ((iB.out _).2 ⟨I.drew,ai⟩) (fun W eF h k=>((iB.out _).2 ⟨((iB.out _).1 h).1.trans (k.mono ((iB.out _).1 h).1.size),((iB.out _).1 h).2.ae k ((iB.out _).1 h).2.lt⟩)) ?_
 intro bl
 refine hI (some 11) rfl (.slice (bl 8).1 ws.length (bl 8).2) rfl fun hz eb=>?_
 change wpQuiet _ _ _ _ (_ ::_ ::_ ::_ ::_ ::_ ::_ ::_ ::[]) _
 repeat (go_big_quiet_step (fail))
 refine wpQuiet_nil ?_
 refine⟨fun k fq=>?_,eb _ ?_⟩
 ·change wpList _ _ _ (_ ::[]) _ _
  go_wp2_with fail
  refine (aja an c2 ws h2 iU.out _ (dQ.out.ae ((iB.out _).1 k.holds).1)).mono ?_
  rintro e mG ⟨aZ,d2,rfl,bI,fL⟩
  go_wp2
  exact hA ⟨(aZ,d2),rfl,fL,bI⟩
 simp only [Act.put]
 go_simp
 refine hI (some 12) rfl (.slice (bl 9).1 0 0) rfl fun hz eb=>?_
 change wpQuiet _ _ _ _ ([]) _
 refine wpQuiet_nil ?_
 refine⟨fun k fq=>?_,eb _ ?_⟩
 ·change wpList _ _ _ (_ ::[]) _ _
  go_wp2
  exact hA ⟨(some ⟨k.world.heap.size,0,none⟩,0),rfl,bT _ _,rfl,aB.new _ _ _⟩
 simp only [Act.put]
 go_simp
 refine hI (some 15) rfl (.slice (bl 12).1 ad.length (bl 12).2) rfl fun hz eb=>?_
 change wpQuiet _ _ _ _ (_ ::_ ::[]) _
 repeat (go_big_quiet_step (fail))
 refine wpQuiet_nil ?_
 refine⟨fun k fq=>?_,eb _ ?_⟩
 ·change wpList _ _ _ (_ ::[]) _ _
  obtain⟨gI,rN,oq,⟨lb,kM⟩,kN⟩:=fq 9 (by simp [UG])
  have kO:=kM.to kN;have jI:(bl 9).1= some ⟨gI.heap.size,0,none⟩:=lb;have oi:=J (cQ.out.ae ((iB.out _).1 k.holds).1);have oh:=J kO;clear kO kM lb oq kN fq
  rw [jI]
  have lu:=J jI;clear jI
  go_wp2_with ((at_builtin;refine aog rfl _ _ 39 rfl gI.heap.size 214 i0 _ 3 24 Tryz.underlying39 hi dn dC dz rfl (by decide) aO.cells ig uT gI.heap.size rfl oh.out (Nat.le_refl _) ao c3 ad rfl oi.out sd (by unfold maxLen;omega) (by omega) ?_;intro bA cM ah fJ fh Ed))
  first | exact hA ⟨(some ⟨bA,0,none⟩,cM),rfl,fh,gI.heap.size,bA,lu.out,rfl,Ed,fJ⟩ | exact hA ⟨some ⟨bA,0,none⟩,cM,rfl,fh,gI.heap.size,bA,lu.out,rfl,Ed,fJ⟩
 simp only [Act.put]
 go_simp
 refine qJ ?_
 change wpQuiet _ _ _ _ (_ ::[]) _
 repeat (go_big_quiet_step (fail))
 refine wpQuiet_nil ?_
 intro cN V W aU bL
 have Lf:bd (cN 8).heap.size 3 1 bV (V 8) (.slice (bl 8).1 ws.length (bl 8).2) ws:=aU.post 8 (by simp)
 obtain⟨g,bA,e9,e12,Bf,mA⟩ :∃g bA,(bl 9).1= some ⟨g,0,none⟩∧(bl 12).1= some ⟨bA,0,none⟩∧(bA= g∨(cN 12).heap.size≤bA)∧bd g 214 3 aO.cells (V 12) (.slice (bl 12).1 ad.length (bl 12).2) ad:=aU.post 12 (by simp)
 obtain⟨Rj,yG⟩ :(bl 9).1= some ⟨(cN 9).heap.size,0,none⟩∧aB (V 9) (cN 9).heap.size 214 #[]:=aU.post 9 (by simp)
 have Dg:(cN 9).heap.size= g:=by rw [Rj] at e9;exact congrArg Addr.block (Option.some.inj e9)
 have ku:g < (V 9).heap.size:=Dg ▸ yG.lt;have WC:=(aU.lN 8 (by simp)).size;have WD:=(aU.lN 9 (by simp)).size;have a1:=aU.apart 8 (by simp) 9 (by simp) (by decide);have a2:=aU.apart 8 (by simp) 12 (by simp) (by decide);have bI:=(Lf.bm (aU.bm 8 (by simp))).base (B':=aG.heap.size) WC;have bD:=(mA.bm (aU.bm 12 (by simp))).base (B':=aG.heap.size) (by rw [← Dg];exact WD)
 have jm:∀k,(Value.slice (bl 8).1 ws.length (bl 8).2).ownBlock= some k→some k≠(Value.slice (bl 12).1 ad.length (bl 12).2).ownBlock:=fun k aD e=>by
  have h5:=Lf.lt k aD
  rw [e12] at e
  have h6:k= bA:=Option.some.inj e;have h10:=mA.lt bA (by rw [e12];rfl)
  rcases Bf with h | h <;> rcases a1 with h1 | h1 <;> rcases a2 with h2 | h2 <;> omega
 have oe:=J jm;clear aC;have aP:Below aG aG W:=aj az (aU.whole 8 (by simp)).oM;replace I:=aj I aP;replace ai:=ai.to aP;replace U:=U.to aP;have ak:=U.aM;clear aU Lf mA yG jm bL a1 a2 WC WD ku Dg e9 Rj e12 Bf
 generalize bl 8= akw at *
 generalize bl 12= akv at *
 obtain⟨aZ,d2⟩:=akw
 obtain⟨bk,d3⟩:=akv
 refine gr fun fT dv=>?_
 change wpQuiet _ _ _ _ ([]) _
 refine wpQuiet_nil ?_
 change wpList _ _ _ (_ ::[]) _ _
 have dM:=U.iE
 go_wp2
 clear ak
 refine gF 0 fun cD aE=>?_
 replace I:=aE.aH I;replace ai:=aE.dV ai;replace U:=aE.hV U;replace bI:=bI.bY aE (fun k aD=>by first | exact ez k aD | (have:=bI.lt k aD;omega));replace bD:=bD.bY aE (fun k aD=>by first | exact dG k aD | (have:=bD.lt k aD;omega));have ak:=U.aM
 refine gw (((iB.out _).2 ⟨I,ai⟩)) (dv _ _ ?_)
 refine kD ?_
 change wpQuiet _ _ _ _ ([]) _
 refine wpQuiet_nil ?_
 go_wp2
 exact hD ⟨aZ,d2,bk,d3,rfl,⟨bI.base (by omega),bD.base (by omega),oe.out⟩,I⟩ (by simp [results,Tryz.results183,go_sem,ak])
end Go.Proofs.YtlaaemmmbodaaaaGreatDoor
namespace Go.G9
open Go.RowKit
theorem Ir {P:Program} (w:World) (QX amW ty elem:TypeId) (i:TypeInfo) (g o m QW adD:Nat) (a:Addr) (WI alZ:Nat) (cur:Array Value) (t:TypeId) (cs:List Value)
  (hu:P.underlying QX= some (.slice elem)) (hi:P.info? elem= some i) (cT:aB w g t cur) (hm:Nat.min WI QW= m) (aY:cs.length= m * i.size)
  (ze:∀j v,cs[j]? =some v→w.cell? (a.add j)= some v) (vO:o + cs.length≤cur.size) (h1:∀v ∈ cs,v.oneCell'= true):
  (Builtin.copy_ #[QX,amW] ty #[.slice (some ⟨g,o,none⟩) QW adD,.slice (some a) WI alZ]).run P w =
   .ok (goInt m) (w.setRow g (cur.toList.take o ++ cs ++ cur.toList.drop (o + cs.length)).toArray):=by
 have aT:=run_loadCells_list (P:=P) w a cs ze;have iF:=run_storeCells_at (P:=P) g o t cs 0 cur w cT (by simpa using vO) h1
 simp [Builtin.copy_,run_underlying hu,Builtin.lenOf,Builtin.firstCells,sizeOf,typeInfo,hi,hm,← aY,aT,iF]
theorem IP {P:Program} (w:World) {ops:Array Oper} {rest:List Oper} {o:Oper} {a:Act} {Q:Exit→Act→World→Prop} (mC:o.guard= none) (d s:Operand) (t fg:TypeId)
  (cG:o.op= .call {callee:= .builtin .copy,args:=#[d,s],argTypes:=#[t,fg]}) (v u:Value) (bJ:a.eval d= v) (aV:a.eval s= u) {ln:Value} {ah:World}
  (bp:(Builtin.copy_ #[t,fg] o.type #[v,u]).run P w= .ok ln ah) (h:wpList P ops Q rest (a.put o.dst ln) ah):wpList P ops Q (o ::rest) a w:=
 wpList_plain mC fun _ gf=>by
  unfold Oper.wp execOp
  simp only [cG,resolve,invoke,builtin,Sem.run_bind,Sem.run_pure,Result.andThen_ok,List.map_toArray,List.map_cons,List.map_nil,bJ,aV,bp]
  exact gf _ _ h
theorem aiL {T:Type} {sz:Nat} {f:T→List Value} (hf:∀y,(f y).length= sz) (xs:List T) (i:Nat) (hi:i≤xs.length) (s:T) (cur wZ:List Value) (N:Nat) (aT:cur.length= N * sz) (eH:xs.length + 1≤N)
  (oZ:cur.take (i * sz)= (xs.take i).flatMap f) (h2:wZ= cur.take (i * sz) ++ f s ++ (xs.drop i).flatMap f ++ cur.drop ((xs.length + 1) * sz)):
  wZ.length= N * sz∧wZ.take ((xs.length + 1) * sz)= (xs.take i ++ s ::xs.drop i).flatMap f:=by
 have e1:((xs.drop i).flatMap f).length= (xs.length - i) * sz:=by rw [lz hf];simp
 have e2:((xs.take i).flatMap f).length= i * sz:=by rw [lz hf,List.length_take,Nat.min_eq_left hi]
 have e3:(xs.length + 1) * sz= i * sz + sz + (xs.length - i) * sz:=by
  conv=>lhs;rw [show xs.length + 1= i + 1 + (xs.length - i) by omega,Nat.add_mul,Nat.add_mul,Nat.one_mul]
 have e4:(xs.length + 1) * sz≤N * sz:=Nat.mul_le_mul_right sz eH
 have e5:(cur.take (i * sz) ++ f s ++ (xs.drop i).flatMap f).length= (xs.length + 1) * sz:=by
  rw [oZ];simp only [List.length_append,e1,e2,hf];omega
 refine⟨?_,?_⟩
 ·rw [h2,List.length_append,e5,List.length_drop,aT];omega
 ·rw [h2,List.take_left' e5,oZ]
  simp
theorem Ue {T:Type} {B sz:Nat} {f:T→List Value} {e:TypeId} (hf:∀y,(f y).length= sz) (xs:List T) (i:Nat) (hi:i≤xs.length) (s:T) (cur wZ:List Value) (N g:Nat) (W:World) (aT:cur.length= N * sz) (eH:xs.length + 1≤N) (afh:N≤maxLen)
  (oZ:cur.take (i * sz)= (xs.take i).flatMap f) (h2:wZ= cur.take (i * sz) ++ f s ++ (xs.drop i).flatMap f ++ cur.drop ((xs.length + 1) * sz)) (bG:aB W g e wZ.toArray) (mR:B≤g):
  bd B e sz f W (.slice g (xs.length + 1) N) (xs.take i ++ s ::xs.drop i):=by
 obtain⟨h3,h4⟩:=aiL hf xs i hi s cur wZ N aT eH oZ h2
 have hlen:(xs.take i ++ s ::xs.drop i).length= xs.length + 1:=by simp;omega
 unfold bd
 rw [hlen]
 refine⟨by rw [lz hf,hlen],.inr ⟨g,N,wZ.toArray,rfl,mR,bG,eH,afh,by simp [h3],?_⟩⟩
 simpa using h4
theorem KH {T:Type} {sz:Nat} {f:T→List Value} (hf:∀y,(f y).length= sz):∀(xs:List T) (k:Nat),(xs.take k).flatMap f= (xs.flatMap f).take (k * sz)
 | [],k=>by simp
 | x ::xs,0=>by simp
 | x ::xs,k + 1=>by
  have er:=KH hf xs k
  have aD:(k + 1) * sz= sz + k * sz:=by rw [Nat.succ_mul];omega
  simp only [List.take_succ_cons,List.flatMap_cons]
  rw [er,aD,List.take_append,hf,List.take_of_length_le (l:=f x) (by rw [hf];omega)]
  congr 2
  omega
theorem bd.parts {T:Type} {B sz:Nat} {f:T→List Value} {e:TypeId} {w:World} {g n c:Nat} {xs:List T} (h:bd B e sz f w (.slice g n c) xs):
  n= xs.length∧B≤g∧xs.length≤c∧c≤maxLen∧∃cur:Array Value,aB w g e cur∧cur.size= c * sz∧cur.toList.take (xs.length * sz)= xs.flatMap f:=by
 rcases h.2 with ⟨h0,_⟩ | ⟨bA,cap,cur,ax,bG,fc,qo,mh,lA,uF⟩
 ·cases h0
 ·injection ax with e1 e2 e3
  cases e1;subst e3
  exact⟨e2,bG,qo,mh,cur,fc,lA,uF⟩
theorem aB.shape {w:World} {g:Nat} {t:TypeId} {cs:Array Value} (h:aB w g t cs):w.shape? g= some (t,cs.size):=by
 unfold aB at h
 simp [World.shape?,h]
end Go.G9
namespace Go.Proofs.YtlaaemmmbodaaaaGreatDoor
open Go.RowKit Go.G9
theorem aat {p:Prop} (h:p:=by
 go_in
 go_wp2_with ((at_builtin;refine kC rfl _ _ 39 rfl B 214 i0 _ 3 24 Tryz.underlying39 hi dn dC dz rfl (by decide) aO.cells ig uT _ xs rfl dm.out ⟨iT,0,none⟩ 1 s rfl An.out (by unfold maxLen;omega) (by omega) mS ?_;intro v4 bU fb gq ld))
 have qn:w.grownBy bU (some g):=gq;clear gq ld;have Sb:=fb
 obtain⟨bA,cap,cs,rfl,_,_,_,_,_,_⟩:=fb.whole ig (by simp)
 go_wp2
 go_ret
 have aT:(xs ++ [s]).length= xs.length + 1:=by simp
 rw [aT] at Sb
 exact⟨bA,cap,by rw [aT];rfl,Sb,qn⟩):p:=h
theorem aiH (B:Nat) (g c:Nat) (xs:List aO) (aY:xs.length≤1048575) (s:aO) (iT:Nat) (w:World) (mS:B≤w.heap.size)
  (bM:bd B 214 3 aO.cells w (.slice g xs c) xs) (hM:aB w iT 214 (aO.cells s).toArray):
 Calls Tryz.prog 331 #[.slice g xs c,.int .i64 (xs.length:Int),.slice iT 1 1] w fun e ah=>
  ∃bA cM,e= .returned (.slice (some ⟨bA,0,none⟩) (xs.length + 1) cM)∧bd B 214 3 aO.cells ah (.slice (some ⟨bA,0,none⟩) (xs.length + 1) cM) (xs ++ [s])∧w.grownBy ah (some g):=by
 obtain⟨i0,hi,dn,dC,dz⟩:=info_parts Bp
 have Sd:aS 3 aO.cells w (some ⟨iT,0,none⟩) [s]:=fun _=>⟨iT,0,rfl,hM.lt,fun i y hy j u hu=>by
  have h0:i= 0:=by have:=(List.getElem?_eq_some_iff.1 hy).1;simp at this;omega
  subst h0;simp at hy;subst hy
  rw [Nat.zero_mul,Nat.zero_add]
  exact (hM.cell _).trans (by simpa using hu)⟩
 have Sz:xs.length≤c:=bM.parts.2.2.1;have An:=J Sd;have dm:=J bM;clear Sd hM bM
 by_cases nu:c= xs.length
 ·subst nu
  exact aat
 ·skip
  exact aat
theorem anj:∀w,(Go.sizeOf 214).run Tryz.prog w= .ok 3 w:=fun _=>by kernel_rfl
theorem aiJ (B:Nat) (g c:Nat) (xs:List aO) (aY:xs.length≤1048575) (i:Nat) (LN:i < xs.length) (Mw:xs.length + 1≤c) (s:aO) (iT:Nat) (w:World) (eM:iT≠g)
  (bM:bd B 214 3 aO.cells w (.slice g xs c) xs) (hM:aB w iT 214 (aO.cells s).toArray):
 Calls Tryz.prog 331 #[.slice g xs c,.int .i64 (i:Int),.slice iT 1 1] w fun e ah=>
  ∃bA cM,e= .returned (.slice (some ⟨bA,0,none⟩) (xs.length + 1) cM)∧bd B 214 3 aO.cells ah (.slice (some ⟨bA,0,none⟩) (xs.length + 1) cM) (xs.take i ++ s ::xs.drop i)∧w.grownBy ah (some g):=by
 obtain⟨i0,hi,dn,dC,dz⟩:=info_parts Bp
 obtain⟨_,mR,_,mh,cur,bG,lA,vV⟩:=bM.parts
 have apO:c≤9223372036854775807:=mh
 have oZ:cur.toList.take (i * 3)= (xs.take i).flatMap aO.cells:=by
  rw [KH ig,← vV,List.take_take]
  congr 1;omega
 have ze:∀j v,((xs.drop i).flatMap aO.cells)[j]? =some v→w.cell? (Addr.add ⟨g,i * 3,none⟩ j)= some v:=fun j v ax=>by
  have h1:=Rv ig xs i j v ax
  rw [← vV,List.getElem?_take] at h1
  split at h1
  ·have e:Addr.add ⟨g,i * 3,none⟩ j=⟨g,i * 3 + j,none⟩:=by unfold Addr.add;split <;> simp_all
   rw [e,bG.cell]
   simpa using h1
  ·cases h1
 have nw:((xs.drop i).flatMap aO.cells).length= (xs.length - i) * 3:=by rw [lz ig];simp
 have Dr:∀v ∈ (xs.drop i).flatMap aO.cells,v.oneCell'= true:=fun u hu=>by obtain⟨y,_,hy⟩:=List.mem_flatMap.1 hu;exact uT y u hy
 have Tp:∀xC Kp,(callFunc 341 #[.slice iT 1 1,.slice (some ⟨g,(i + 1) * 3,none⟩) xC Kp]).run Tryz.prog w= .ok (.value (.bool false)) w:=fun xC Kp=>by
  rw [run_callFunc_extern Tryz.func341 (by kernel_rfl) (by kernel_rfl) (by kernel_rfl) (e:=Extern.SlicesOverlaps.overlaps #[39,39] #[4]) (by kernel_rfl),
   Lib.run_overlaps_apart w 39 4 214 Tryz.underlying39 3 anj ⟨iT,0,none⟩ ⟨g,(i + 1) * 3,none⟩ 1 1 xC Kp eM _ _ _ _ hM.shape bG.shape (by rw [lA];omega) (hM.frozen 0) (hM.frozen _)]
  rfl
 have oY:∀ty pD fm,(Builtin.copy_ #[39,39] ty #[.slice (some ⟨g,(i + 1) * 3,none⟩) (xs.length - i) pD,.slice (some ⟨g,i * 3,none⟩) (xs.length + 1 - i) fm]).run Tryz.prog w.drew= .ok (goInt ((xs.length - i:Nat):Int)) (w.drew.setRow g (cur.toList.take ((i + 1) * 3) ++ (xs.drop i).flatMap aO.cells ++ cur.toList.drop ((i + 1) * 3 + ((xs.drop i).flatMap aO.cells).length)).toArray):=fun ty pD fm=>
  Ir w.drew _ _ ty 214 i0 g ((i + 1) * 3) (xs.length - i) (xs.length - i) pD ⟨g,i * 3,none⟩ (xs.length + 1 - i) fm cur 214 ((xs.drop i).flatMap aO.cells) Tryz.underlying39 hi bG (by simp only [Nat.min_def];split <;> omega) (by rw [nw,dC]) ze (by rw [nw,lA];omega) Dr
 obtain⟨av,gL⟩ :∃av,av= (cur.toList.take ((i + 1) * 3) ++ (xs.drop i).flatMap aO.cells ++ cur.toList.drop ((i + 1) * 3 + ((xs.drop i).flatMap aO.cells).length)):=⟨_,rfl⟩
 rw [← gL] at oY
 have jw:cur.toList.length= c * 3:=by rw [Array.length_toList];exact lA
 have uC:av.length= c * 3:=by
  rw [gL];simp only [List.length_append,List.length_take,List.length_drop,nw,jw];omega
 have xb:aB (w.drew.setRow g av.toArray) g 214 av.toArray:=(show aB w.drew g 214 cur from bG).setRow;have ha:w.grownBy (w.drew.setRow g av.toArray) (some g):=pH (ly (Below.refl _ _).drew (some g)) Dp;have Sh:aB (w.drew.setRow g av.toArray) iT 214 (aO.cells s).toArray:=(ha.block iT hM.lt (fun e=>eM (Option.some.inj e))).trans hM
 generalize w.drew.setRow g av.toArray= mf at *
 have mi:∀ty pD,(Builtin.copy_ #[39,39] ty #[.slice (some ⟨g,i * 3,none⟩) (xs.length + 1 - i) pD,.slice iT 1 1]).run Tryz.prog mf= .ok (goInt 1) (mf.setRow g (av.take (i * 3) ++ aO.cells s ++ av.drop (i * 3 + (aO.cells s).length)).toArray):=fun ty pD=>by
  have h:=Ir (P:=Tryz.prog) mf 39 39 ty 214 i0 g (i * 3) 1 (xs.length + 1 - i) pD ⟨iT,0,none⟩ 1 1 av.toArray 214 (aO.cells s) Tryz.underlying39 hi xb (by simp only [Nat.min_def];split <;> omega) (by rw [dC];rfl)
   (fun j v bE=>by
    have e:Addr.add ⟨iT,0,none⟩ j=⟨iT,j,none⟩:=by unfold Addr.add;split <;> simp_all
    rw [e,Sh.cell];simpa using bE) (by rw [ig,List.size_toArray,uC];omega) (fun v ax=>uT s v ax)
  simpa using h
 obtain⟨c2,jn⟩ :∃c2,c2= av.take (i * 3) ++ aO.cells s ++ av.drop (i * 3 + (aO.cells s).length):=⟨_,rfl⟩
 rw [← jn] at mi
 have ov:c2= cur.toList.take (i * 3) ++ aO.cells s ++ (xs.drop i).flatMap aO.cells ++ cur.toList.drop ((xs.length + 1) * 3):=by
  have t1:(cur.toList.take ((i + 1) * 3)).length= (i + 1) * 3:=by rw [List.length_take,jw];omega
  have a1:av.take (i * 3)= cur.toList.take (i * 3):=by
   rw [gL,List.append_assoc,List.take_append,t1,List.take_take,show min (i * 3) ((i + 1) * 3)= i * 3 by omega,show i * 3 - (i + 1) * 3= 0 by omega,List.take_zero,List.append_nil]
  have a2:av.drop (i * 3 + (aO.cells s).length)= (xs.drop i).flatMap aO.cells ++ cur.toList.drop ((xs.length + 1) * 3):=by
   rw [ig,show i * 3 + 3= (i + 1) * 3 by omega,gL,List.append_assoc,List.drop_left' t1,nw,show (i + 1) * 3 + (xs.length - i) * 3= (xs.length + 1) * 3 by omega]
  rw [jn,a1,a2,List.append_assoc,List.append_assoc,List.append_assoc]
 have gJ:aB (mf.setRow g c2.toArray) g 214 c2.toArray:=xb.setRow;have Ep:=Ue (B:=B) ig xs i (by omega) s cur.toList c2 c g _ jw Mw mh oZ ov gJ mR;have hN:w.grownBy (mf.setRow g c2.toArray) (some g):=pH ha Dp;have Cz:=J Ep;have Cn:=J hN;clear Ep hN gJ ov jn Sh xb uC gL ze oZ vV Dr nw ha jw
 have br:¬(c= i):=by omega
 have aL:¬(c= i + 1):=by omega
 have Ct:=J oY;have Cu:=J mi;have wO:=J Tp;clear oY mi Tp bM bG hM
 haveI:Nonempty (cH (fun _:World=>True)):=⟨⟨w,trivial⟩⟩
 go_in
 go_wp2_with (simp only [wO.out])
 refine nh (fun _=>True) [([0,1,2,3,4,5,6,7],8)] [] (by kernel_rfl) (by kernel_rfl) trivial ?_
 refine gr fun K gf=>?_
 change wpQuiet _ _ _ _ (_ ::_ ::_ ::_ ::_ ::_ ::_ ::_ ::[]) _
 repeat (go_big_quiet_step (fail))
 refine wpQuiet_nil ?_
 change wpList _ _ _ (_ ::[]) _ _
 go_wp2_with (with_reducible refine IP _ rfl _ _ 39 39 rfl _ _ rfl rfl (Ct.out _ _ _) ?_)
 refine gw (C:=fun _:World=>True) trivial (gf _ _ ?_)
 refine kD ?_
 refine wpQuiet_nil ?_
 go_wp2_with (with_reducible refine IP _ rfl _ _ 39 39 rfl _ _ rfl rfl (Cu.out _ _) ?_)
 go_wp2
 go_ret
 exact⟨g,c,rfl,Cz.out,Cn.out⟩
theorem aiI (B:Nat) (g:Nat) (xs:List aO) (aY:xs.length≤1048575) (i:Nat) (LN:i < xs.length) (s:aO) (iT:Nat) (w:World) (mS:B≤w.heap.size)
  (bM:bd B 214 3 aO.cells w (.slice g xs xs) xs) (hM:aB w iT 214 (aO.cells s).toArray):
 Calls Tryz.prog 331 #[.slice g xs xs,.int .i64 (i:Int),.slice iT 1 1] w fun e ah=>
  ∃bA cM,e= .returned (.slice (some ⟨bA,0,none⟩) (xs.length + 1) cM)∧bd B 214 3 aO.cells ah (.slice (some ⟨bA,0,none⟩) (xs.length + 1) cM) (xs.take i ++ s ::xs.drop i)∧w.grownBy ah (some g):=by
 obtain⟨i0,hi,dn,dC,dz⟩:=info_parts Bp
 obtain⟨_,mR,_,mh,cur,bG,lA,vV⟩:=bM.parts
 have Tq:cur.toList.take (i * 3)= (xs.take i).flatMap aO.cells:=by
  rw [KH ig,← vV,List.take_take]
  congr 1;omega
 have ze:∀(W:World),aB W g 214 cur→∀j v,((xs.drop i).flatMap aO.cells)[j]? =some v→W.cell? (Addr.add ⟨g,i * 3,none⟩ j)= some v:=fun W bL j v ax=>by
  have h1:=Rv ig xs i j v ax
  rw [← vV,List.getElem?_take] at h1
  split at h1
  ·have e:Addr.add ⟨g,i * 3,none⟩ j=⟨g,i * 3 + j,none⟩:=by unfold Addr.add;split <;> simp_all
   rw [e,bL.cell]
   simpa using h1
  ·cases h1
 have nw:((xs.drop i).flatMap aO.cells).length= (xs.length - i) * 3:=by rw [lz ig];simp
 have Be:((xs.take i).flatMap aO.cells).length= i * 3:=by rw [lz ig,List.length_take,Nat.min_eq_left (by omega)]
 have Dr:∀v ∈ (xs.drop i).flatMap aO.cells,v.oneCell'= true:=fun u hu=>by obtain⟨y,_,hy⟩:=List.mem_flatMap.1 hu;exact uT y u hy
 have hold:(Builtin.firstCells i0.size i (.slice g i xs.length)).run Tryz.prog w.drew= .ok ((xs.take i).flatMap aO.cells).toArray w.drew:=by
  rw [dC]
  exact run_firstCells_some w.drew 3 i ⟨g,0,none⟩ i xs.length ((xs.take i).flatMap aO.cells) Be (fun j v bE=>by
   have e:Addr.add ⟨g,0,none⟩ j=⟨g,j,none⟩:=by unfold Addr.add;split <;> simp_all
   rw [e,(show aB w.drew g 214 cur from bG).cell]
   rw [← Tq,List.getElem?_take] at bE
   split at bE
   ·simpa using bE
   ·cases bE)
 have Bh:(xs.length:Int) + 1 - (i:Int)= ((xs.length + 1 - i:Nat):Int):=by omega
 have LO:i + (xs.length + 1 - i)= xs.length + 1:=by omega
 obtain⟨G,cL⟩ :∃G,G= grownCap w (xs.length + 1) xs.length 214:=⟨_,rfl⟩
 obtain⟨z,ck⟩ :∃z:Value,z= .agg #[(0:Int),(0:Int),(0:Int)]:=⟨_,rfl⟩
 rw [← ck] at dn
 have Hv:z.cells.size= 3:=by rw [ck];rfl
 obtain⟨me,GV⟩ :∃me:Array Value,me= ((xs.take i).flatMap aO.cells).toArray ++ Builtin.zeroCells z.cells (xs.length + 1 - i) ++ Builtin.zeroCells z.cells (G - (xs.length + 1)):=⟨_,rfl⟩
 have aeZ:xs.length + 1≤G:=by rw [cL];exact grownCap_ge w _ _ _
 have RW:G≤maxLen:=by rw [cL];exact grownCap_le_maxLen w _ _ _ (by unfold maxLen;omega)
 have apF:G≤9223372036854775807:=RW
 have Hm:∀ty,(Builtin.append_ #[39,3] ty #[.slice g i xs.length,.int .i64 ((xs.length:Int) + 1 - (i:Int))]).run Tryz.prog w= .ok (.slice w.heap.size (xs.length + 1) G) (w.drew.alloc (.cells me 214)):=fun ty=>by
  have h:=Lib.run_append_grow_zeros w 39 3 ty 214 i0 z .i64 .i64 Tryz.underlying39 Tryz.underlying3 hi dn (some ⟨g,0,none⟩) i xs.length ((xs.take i).flatMap aO.cells) hold (xs.length + 1 - i) (by omega) (by omega) (by omega) (by omega) (by rw [dz];omega) (by rw [dz,LO];exact growslice_fits (by omega) (by omega))
  rw [LO,← cL,← GV] at h
  rw [Bh]
  exact h
 have Lh:me.size= G * 3:=by
  rw [GV]
  simp only [Array.size_append,List.size_toArray,size_zeroCells,Hv,Be]
  omega
 have GX:me.toList.length= G * 3:=by rw [Array.length_toList];exact Lh
 have oZ:me.toList.take (i * 3)= (xs.take i).flatMap aO.cells:=by
  rw [GV]
  simp only [Array.toList_append,List.append_assoc]
  exact List.take_left' Be
 have AR:aB (w.drew.alloc (.cells me 214)) w.heap.size 214 me:=aB.new w.drew 214 me;have Dt:Below w w (w.drew.alloc (.cells me 214)):=(Below.refl _ _).drew.alloc (Nat.le_refl _) _;have Ll:=hM.to Dt;have He:=bG.to Dt;have afW:=bG.lt;have agU:=hM.lt
 obtain⟨N,eH⟩ :∃N,N= w.heap.size:=⟨_,rfl⟩
 rw [← eH] at Hm AR afW agU
 clear GV hold LO Bh bG hM
 obtain⟨mf,AU⟩ :∃mf,mf= w.drew.alloc (.cells me 214):=⟨_,rfl⟩
 rw [← AU] at Hm AR Dt Ll He
 have oY:∀ty pD,(Builtin.copy_ #[39,39] ty #[.slice (some ⟨N,i * 3,none⟩) (xs.length + 1 - i) pD,.slice iT 1 1]).run Tryz.prog mf= .ok (goInt 1) (mf.setRow N (me.toList.take (i * 3) ++ aO.cells s ++ me.toList.drop (i * 3 + (aO.cells s).length)).toArray):=fun ty pD=>by
  have h:=Ir (P:=Tryz.prog) mf 39 39 ty 214 i0 N (i * 3) 1 (xs.length + 1 - i) pD ⟨iT,0,none⟩ 1 1 me 214 (aO.cells s) Tryz.underlying39 hi AR (by simp only [Nat.min_def];split <;> omega) (by rw [dC];rfl)
   (fun j v bE=>by
    have e:Addr.add ⟨iT,0,none⟩ j=⟨iT,j,none⟩:=by unfold Addr.add;split <;> simp_all
    rw [e,Ll.cell];simpa using bE) (by rw [ig,Lh];omega) (fun v ax=>uT s v ax)
  simpa using h
 obtain⟨av,gL⟩ :∃av,av= me.toList.take (i * 3) ++ aO.cells s ++ me.toList.drop (i * 3 + (aO.cells s).length):=⟨_,rfl⟩
 rw [← gL] at oY
 have uC:av.length= G * 3:=by
  rw [gL];simp only [List.length_append,List.length_take,List.length_drop,ig,GX];omega
 have xb:aB (mf.setRow N av.toArray) N 214 av.toArray:=AR.setRow;have ha:mf.grownBy (mf.setRow N av.toArray) (some N):=Dp;have LL:aB (mf.setRow N av.toArray) g 214 cur:=(ha.block g He.lt (fun e=>by have:=Option.some.inj e;omega)).trans He
 obtain⟨kr,Si⟩ :∃kr,kr= mf.setRow N av.toArray:=⟨_,rfl⟩
 rw [← Si] at oY xb ha LL
 have mi:∀ty pD fm,(Builtin.copy_ #[39,39] ty #[.slice (some ⟨N,(i + 1) * 3,none⟩) (xs.length - i) pD,.slice (some ⟨g,i * 3,none⟩) (xs.length - i) fm]).run Tryz.prog kr.drew= .ok (goInt ((xs.length - i:Nat):Int)) (kr.drew.setRow N (av.take ((i + 1) * 3) ++ (xs.drop i).flatMap aO.cells ++ av.drop ((i + 1) * 3 + ((xs.drop i).flatMap aO.cells).length)).toArray):=fun ty pD fm=>by
  have h:=Ir (P:=Tryz.prog) kr.drew 39 39 ty 214 i0 N ((i + 1) * 3) (xs.length - i) (xs.length - i) pD ⟨g,i * 3,none⟩ (xs.length - i) fm av.toArray 214 ((xs.drop i).flatMap aO.cells) Tryz.underlying39 hi xb (by simp only [Nat.min_def];split <;> omega) (by rw [nw,dC]) (ze _ LL) (by rw [nw,List.size_toArray,uC];omega) Dr
  simpa using h
 obtain⟨c2,jn⟩ :∃c2,c2= av.take ((i + 1) * 3) ++ (xs.drop i).flatMap aO.cells ++ av.drop ((i + 1) * 3 + ((xs.drop i).flatMap aO.cells).length):=⟨_,rfl⟩
 rw [← jn] at mi
 have ov:c2= me.toList.take (i * 3) ++ aO.cells s ++ (xs.drop i).flatMap aO.cells ++ me.toList.drop ((xs.length + 1) * 3):=by
  have t1:(me.toList.take (i * 3) ++ aO.cells s).length= (i + 1) * 3:=by rw [List.length_append,List.length_take,GX,ig];omega
  have a1:av.take ((i + 1) * 3)= me.toList.take (i * 3) ++ aO.cells s:=by
   rw [gL,List.take_left' t1]
  have a2:av.drop ((i + 1) * 3 + ((xs.drop i).flatMap aO.cells).length)= me.toList.drop ((xs.length + 1) * 3):=by
   rw [nw,← List.drop_drop,gL,List.drop_left' t1,List.drop_drop,ig]
   congr 1;omega
  rw [jn,a1,a2]
 have gJ:aB (kr.drew.setRow N c2.toArray) N 214 c2.toArray:=(show aB kr.drew N 214 av.toArray from xb).setRow;have Ep:=Ue (B:=B) ig xs i (by omega) s me.toList c2 G N _ GX aeZ RW oZ ov gJ (by omega)
 have hN:w.grownBy (kr.drew.setRow N c2.toArray) (some g):=by
  have h1:Below w w kr:=(KL (ha) (eH ▸ (show N≤mf.heap.size from Nat.le_of_lt AR.lt)) (fun k aD=>by have:=Option.some.inj aD;omega):Below w mf kr) |> Dt.trans;have h2:Below w w (kr.drew.setRow N c2.toArray):=h1.drew.trans (KL (Dp (w:=kr.drew)) (by have:=h1.size;show w.heap.size≤kr.heap.size;exact this) (fun k aD=>by have:=Option.some.inj aD;omega))
  exact ly h2 _
 have Cz:=J Ep;have Cn:=J hN
 have tr:¬(G= i):=by omega
 have kP:¬(G= i + 1):=by omega
 have agi:¬(xs.length= i):=by omega
 have xw:(xs.length:Int) < (xs.length:Int) + 1:=by omega
 have Ct:=J oY;have Cu:=J mi;have acz:=J Hm;clear oY mi Hm Ep hN gJ ov jn LL ha xb uC gL Ll He Dt AR oZ GX Lh ck Hv ze vV Tq Dr nw Be bM AU Si cL eH
 haveI:Nonempty (cH (fun _:World=>True)):=⟨⟨w,trivial⟩⟩
 go_in
 go_wp2_with (first
  | (at_builtin;refine Lib.wpList_append_run _ rfl _ _ _ _ rfl _ _ rfl rfl _ _ (acz.out _) ?_)
  | (with_reducible refine IP _ rfl _ _ 39 39 rfl _ _ rfl rfl (Ct.out _ _) ?_))
 refine nh (fun _=>True) [([0,1,2,3,4,5,6,7],8)] [] (by kernel_rfl) (by kernel_rfl) trivial ?_
 refine gr fun K gf=>?_
 change wpQuiet _ _ _ _ (_ ::_ ::_ ::_ ::_ ::_ ::_ ::_ ::[]) _
 repeat (go_big_quiet_step (fail))
 refine wpQuiet_nil ?_
 change wpList _ _ _ (_ ::[]) _ _
 go_wp2_with (with_reducible refine IP _ rfl _ _ 39 39 rfl _ _ rfl rfl (Cu.out _ _ _) ?_)
 refine gw (C:=fun _:World=>True) trivial (gf _ _ ?_)
 refine kD ?_
 refine wpQuiet_nil ?_
 go_wp2
 go_ret
 exact⟨N,G,rfl,Cz.out,Cn.out⟩
theorem Ud (B:Nat) (g c:Nat) (xs:List aO) (aY:xs.length≤1048575) (i:Nat) (hi:i≤xs.length) (s:aO) (iT:Nat) (w:World) (mS:B≤w.heap.size) (eM:iT≠g)
  (bM:bd B 214 3 aO.cells w (.slice g xs c) xs) (hM:aB w iT 214 (aO.cells s).toArray):
 Calls Tryz.prog 331 #[.slice g xs c,.int .i64 (i:Int),.slice iT 1 1] w fun e ah=>
  ∃bA cM,e= .returned (.slice (some ⟨bA,0,none⟩) (xs.length + 1) cM)∧bd B 214 3 aO.cells ah (.slice (some ⟨bA,0,none⟩) (xs.length + 1) cM) (xs.take i ++ s ::xs.drop i)∧w.grownBy ah (some g):=by
 by_cases h1:i= xs.length
 ·subst h1
  rw [List.take_length,List.drop_length]
  exact aiH B g c xs aY s iT w mS bM hM
 ·by_cases h2:xs.length + 1≤c
  ·exact aiJ B g c xs aY i (by omega) h2 s iT w eM bM hM
  ·have h3:=bM.parts.2.2.1
   obtain rfl:c= xs.length:=by omega
   exact aiI B g xs aY i (by omega) s iT w mS bM hM
open Go.RowKit Go.G9
theorem jz (x:aQ):(aQ.cells x).length= 3:=rfl
theorem sq (x:aQ):∀u,u ∈ aQ.cells x→u.oneCell'= true:=by
 intro u hu
 simp only [aQ.cells,List.mem_cons,List.not_mem_nil,or_false] at hu
 rcases hu with rfl | rfl | rfl <;> rfl
def iR {T:Type} (o:Option (List T)):List T:=o.getD []
theorem Rx {T V:Type} {sz:Nat} {f:T→List V} (hf:∀y,(f y).length= sz) {y:T} {u:V} {i:Nat} (hi:i < sz):∀(xs:List T) (j:Nat) (x:T),xs[j]? =some x→f y= (f x).set i u→(xs.set j y).flatMap f= (xs.flatMap f).set (j * sz + i) u
 | [],j,x,h,_=>by simp at h
 | z ::xs,0,x,h,hy=>by
  simp at h;subst h
  simp only [List.set_cons_zero,List.flatMap_cons,Nat.zero_mul,Nat.zero_add]
  rw [List.set_append_left _ _ (by rw [hf];exact hi),hy]
 | z ::xs,j + 1,x,h,hy=>by
  have er:=Rx hf hi xs j x (by simpa using h) hy
  simp only [List.set_cons_succ,List.flatMap_cons]
  rw [er,List.set_append_right _ _ (by rw [hf,Nat.succ_mul];omega),hf]
  congr 1
  congr 1
  rw [Nat.succ_mul];omega
theorem zF {T:Type} {B:Nat} {e:TypeId} {sz:Nat} {f:T→List Value} {w:World} {g n c:Nat} {xs:List T} (h:bd B e sz f w (.slice g n c) xs) (hf:∀y,(f y).length= sz) {j i:Nat} {x y:T} {u:Value} (aw:xs[j]? =some x) (hi:i < sz) (hy:f y= (f x).set i u):bd B e sz f (w.setCell ⟨g,j * sz + i,none⟩ u) (.slice g n c) (xs.set j y):=by
 unfold bd at h ⊢
 rw [List.length_set,Rx hf hi xs j x aw hy]
 exact VD h rfl
theorem zE {T:Type} {B:Nat} {e:TypeId} {sz:Nat} {f:T→List Value} {w:World} {g n c:Nat} {xs:List T} (h:bd B e sz f w (.slice g n c) xs) (hf:∀y,(f y).length= sz) {j i:Nat} (bE:j < xs.length) (hi:i < sz):w.frozen? ⟨g,j * sz + i,none⟩ =false:=by
 refine (VC h rfl ?_).2
 rw [lz hf]
 have:(j + 1) * sz≤xs.length * sz:=Nat.mul_le_mul_right _ bE
 rw [Nat.succ_mul] at this
 omega
theorem qz {T:Type} {sz:Nat} {f:T→List Value} {B:Nat} {e:TypeId} {w:World} {g n c:Nat} {xs:List T} (h:bd B e sz f w (.slice g n c) xs) (hf:∀y,(f y).length= sz) {j:Nat} {x:T} (aw:xs[j]? =some x) {i:Nat} {u:Value} (hu:(f x)[i]? =some u):w.cell? ⟨g,j * sz + i,none⟩ =some u:=by
 obtain⟨kS,cM,gz,_,bn,_⟩:=h.form hf
 injection gz with e1 _ _
 subst e1
 obtain⟨sT,aqv,y,e9,_,hy,aH⟩:=bn.at_ (Below.refl _ _) (k:=j) (List.getElem?_eq_some_iff.1 aw).1
 cases e9
 obtain rfl:x= y:=Option.some.inj (aw.symm.trans hy)
 have:=aH i u hu (ay.self _)
 simp only [ay.self,Nat.zero_add] at this
 exact this
theorem tT {P:Program} {w:World} {ops:Array Oper} {rest:List Oper} {o:Oper} {a:Act} {Q:Exit→Act→World→Prop} (mC:o.guard= none) (s x:Operand) (t:TypeId)
  (cG:o.op= .call {callee:= .builtin .append,args:=#[s,x],argTypes:=#[t,t]})
  (B:Nat) (e:TypeId) (i:TypeInfo) (z:Value) (sz bytes:Nat) (ct:P.underlying t= some (.slice e)) (hi:P.info? e= some i) (ck:i.zero= some z)
  (tx:i.size= sz) (ti:i.bytes= bytes) (tF:z.cells.size= sz) (gN:0 < sz) {T:Type} (f:T→List Value) (hf:∀y,(f y).length= sz) (jR:∀y u,u ∈ f y→u.oneCell'= true)
  (g:Nat) (aV:a.eval s= .slice g 0 0) (cT:aB w g e #[]) (mR:B≤g) (an:Option Addr) (c2:Nat) (ys:List T) (n:Nat) (aY:n= ys.length) (aw:a.eval x= .slice an n c2) (bn:aS sz f w an ys) (aX:an= none→ys= []∧c2= 0)
  (h63:ys.length≤maxLen) (tj:ys.length * bytes≤140737488355328)
  (h:∀bA cM ah,bd B e sz f ah (.slice (some ⟨bA,0,none⟩) ys cM) ys→Below w w ah→wpList P ops Q rest (a.put o.dst (.slice (some ⟨bA,0,none⟩) n cM)) ah):wpList P ops Q (o ::rest) a w:=by
 subst aY
 exact wE mC s x t cG B e i z sz bytes ct hi ck tx ti tF gN f hf jR g aV cT mR an c2 ys aw bn aX h63 tj h
def lk (rs:List aK) (qs:List aQ):Bool:=dt rs qs && jx rs qs
theorem OT {p:Prop} (h:p:=by
 rintro e bh ⟨rfl,br⟩
 have au:=be w br;have I:Below w w bh:=au
 go_wp2
 go_ret
 exact⟨rfl,(aj I az)⟩):p:=h
theorem zx (aq:Option Addr) (c0:Nat) (rs:List aK) (h0:rs.length≤1048576) (fo:rs.length≤c0) (ar:Option Addr) (av:Nat) (qs:List aQ) (h1:qs.length≤1048576) (v:Bool) (ax:lk rs qs= v) (w:World) (bf:aS 7 aK.cells w aq rs) (aW:aS 3 aQ.cells w ar qs):Calls Tryz.prog 262 #[.slice aq rs c0,.slice ar qs av] w fun e ah=>e= .returned (.bool v)∧Below w w ah:=by
 subst ax
 cases aN:dt rs qs
 ·have ea:=J aN
  have e:lk rs qs= false:=by simp [lk,aN]
  rw [e]
  clear aN e
  go_in
  go_wp2_with fail
  refine (mx aq c0 rs h0 fo ar av qs h1 _ ea.out _ (bf.ae az) (aW.ae az)).mono ?_
  exact OT
 ·by_cases ix:qs.length= 0
  ·have ea:=J aN
   have e:lk rs qs= false:=by rw [lk,HL ix,Bool.and_false]
   rw [e]
   clear aN e
   obtain rfl:=List.length_eq_zero_iff.1 ix
   clear ix
   go_in
   go_wp2_with fail
   refine (mx aq c0 rs h0 fo ar av [] h1 _ ea.out _ (bf.ae az) (aW.ae az)).mono ?_
   exact OT
  ·obtain⟨j,bE⟩ :∃j,qs.length= j + 1:=⟨qs.length - 1,by omega⟩
   obtain⟨dY,gP,q,rfl,_,bj,_⟩:=aW.at_ (Below.refl _ _) (k:=j) (by omega)
   obtain⟨t,ct⟩:=nd aN bj
   have e:lk rs qs= jS t q:=by rw [lk,aN,wa bE bj ct];rfl
   rw [e]
   obtain⟨qr,cb,dp⟩:=q
   have ea:=J aN;have dH:=J bj;have bO:=J ct;have eA:=J bE
   have ic:j≤1048576:=by omega
   clear aN bj ct e ix
   obtain⟨v,ax⟩ :∃v,jS t ⟨qr,cb,dp⟩ =v:=⟨_,rfl⟩
   have bo:=J ax
   rw [ax]
   clear ax;have cW:=J (fun W (h:aS 7 aK.cells W aq rs) (dj:aS 3 aQ.cells W (some ⟨dY,gP,none⟩) qs)=>mx aq c0 rs h0 fo (some ⟨dY,gP,none⟩) av qs h1 _ ea.out W h dj)
   rw [bE] at cW ⊢
   clear bE
   go_in
   go_wp2_with fail
   refine (cW.out _ (bf.ae az) (aW.ae az)).mono ?_
   rintro e bh ⟨rfl,br⟩
   have au:=be w br;have I:Below w w bh:=au;replace bf:=bf.ae au;replace aW:=aW.ae au
   obtain⟨_,_,y,e9,fL,hy,cX⟩:=aW.at_ (Below.refl _ _) (k:=j) (by have:=eA.out;omega)
   cases e9
   obtain rfl:(⟨qr,cb,dp⟩ :aQ)= y:=Option.some.inj (dH.out.symm.trans hy)
   clear hy;have ch:=cX 0 _ rfl;have dq:=cX 1 _ rfl;have cZ:=cX 2 _ rfl
   simp only [Nat.add_zero] at ch
   have g0:=ch (ay.self _);have g1:=dq (ay.self _);have g2:=cZ (ay.self _)
   simp only [ay.self] at g0
   simp only [ay.self] at g1
   simp only [ay.self] at g2
   clear cX ch dq cZ
   go_wp2_with fail
   refine (tI aq c0 rs h0 ⟨qr,cb,dp⟩ t bO.out v bo.out _ (bf.ae az)).mono ?_
   rintro e aJ ⟨rfl,aL⟩
   have al:=be bh aL;replace I:=aj I al
   go_wp2
   go_ret
   exact⟨rfl,(aj I az)⟩
theorem Vh {rs:List aK} {qs:List aQ} {id mem:Int} (h:dt rs qs= false):jy rs qs id mem= none:=by simp [jy,h]
theorem Vi {rs:List aK} {qs:List aQ} {id mem:Int} (h:ey mem= false):jy rs qs id mem= none:=by simp [jy,h]
theorem Vj {rs:List aK} {qs:List aQ} {id mem:Int} (h:hasB (hv rs qs) id= false):jy rs qs id mem= none:=by simp [jy,h]
theorem Vk {rs:List aK} {qs:List aQ} {id mem:Int} (h:dt rs qs= true) (h2:ey mem= true) (h3:hasB (hv rs qs) id= true):jy rs qs id mem= some (qs ++ [⟨id,mem,false⟩]):=by simp [jy,h,h2,h3]
theorem abi {p:Prop} (h:p:=by
 clear aN
 go_in
 go_wp2_with fail
 refine (mx aq c0 rs h0 fo ar av qs h1 _ ea.out _ (bf.ae az) (aW.ae az)).mono ?_
 rintro e bh ⟨rfl,br⟩
 have au:=be w br;have I:Below w w bh:=au
 go_wp2
 go_ret2
 exact⟨none,0,rfl,bd.nil,(aj I az)⟩):p:=h
theorem abp {p:Prop} (h:p:=by
 rintro e bh ⟨rfl,br⟩
 have au:=be w br;have I:Below w w bh:=au
 go_wp2_with fail
 refine (iG mem _ dP.out _).mono ?_
 rintro e w0 ⟨rfl,h0⟩
 rw [h0]
 clear h0 w0
 go_wp2
 go_ret2
 exact⟨none,0,rfl,bd.nil,(aj I az)⟩):p:=h
theorem Ys {p:Prop} (h:p:=by
 rintro e bB ⟨rfl,bx⟩
 have aP:=be aJ bx;replace I:=aj I aP;replace aW:=aW.ae aP;clear wX;have aX:=po.out;have gh:=J (fun e u=>(aW.ae (bT bB (.cells #[] e))):∀(e:TypeId) (u:Unit),aS 3 aQ.cells (bB.alloc (.cells #[] e)) ar qs);have sx:=I.size
 go_wp2_with ((first
  | (at_builtin;refine wE rfl _ _ 37 rfl bB.heap.size 115 i0 _ 3 24 Tryz.underlying37 hi dn dC dz rfl (by decide) aQ.cells jz sq bB.heap.size rfl (aB.new _ _ _) (Nat.le_refl _) ar av qs rfl (gh.out _ ()) aX (by unfold maxLen;omega) (by omega) ?_;intro bA cM mo fJ fh;have mV:Below bB bB mo:=aj (bT _ _) fh;have Ok:=mV.size;clear aX)
  | (at_builtin;refine kC rfl _ _ 37 rfl bB.heap.size 115 i0 _ 3 24 Tryz.underlying37 hi dn dC dz rfl (by decide) aQ.cells jz sq _ qs rfl (fJ.alloc _) ⟨mo.heap.size,0,none⟩ 1 ⟨id,mem,false⟩ rfl (aS.one (f:=aQ.cells) ⟨id,mem,false⟩ _) (by unfold maxLen;omega) (by omega) (by simp;omega) ?_;intro v4 bU fb gq ld)))
 have gS:Below bB bB bU:=(mV.alloc (by omega) _).grown gq (by simp;omega) (fun q bj=>(fJ.lt q bj).1)
 obtain⟨Y,gV,rfl,_,_,_⟩:=fb.form jz
 go_wp2
 go_ret2
 exact⟨Y,gV,rfl,fb.base (by omega),aj I gS⟩):p:=h
theorem TS (aq:Option Addr) (c0:Nat) (rs:List aK) (h0:rs.length≤1048576) (fo:rs.length≤c0) (ar:Option Addr) (av:Nat) (qs:List aQ) (h1:qs.length≤1048576) (aX:ar= none→qs= []∧av= 0) (id mem:Int) (w:World) (bf:aS 7 aK.cells w aq rs) (aW:aS 3 aQ.cells w ar qs):Calls Tryz.prog 254 #[.slice aq rs c0,.slice ar qs av,id,mem] w fun e ah=>∃A c,e= .returned (.tuple #[.slice A (iR (jy rs qs id mem)).length c,.bool (jy rs qs id mem).isSome])∧bd w 115 3 aQ.cells ah (.slice A (iR (jy rs qs id mem)).length c) (iR (jy rs qs id mem))∧Below w w ah:=by
 obtain⟨i0,hi,dn,dC,dz⟩:=info_parts si
 have po:=J aX;clear aX
 cases aN:dt rs qs
 ·have ea:=J aN
  rw [Vh aN]
  exact abi
 cases hm:ey mem
 ·have ea:=J aN;have dP:=J hm
  rw [Vi hm]
  clear aN hm
  go_in
  go_wp2_with fail
  refine (mx aq c0 rs h0 fo ar av qs h1 _ ea.out _ (bf.ae az) (aW.ae az)).mono ?_
  exact abp
 have jo:(hv rs qs).length≤1048576:=Nat.le_trans (US rs qs) h0
 cases aV:hasB (hv rs qs) id
 ·have ea:=J aN;have dP:=J hm;have dU:=J aV
  rw [Vj aV]
  clear aN hm aV
  go_in
  go_wp2_with fail
  refine (mx aq c0 rs h0 fo ar av qs h1 _ ea.out _ (bf.ae az) (aW.ae az)).mono ?_
  rintro e bh ⟨rfl,br⟩
  have au:=be w br;have I:Below w w bh:=au;replace bf:=bf.ae au;replace aW:=aW.ae au
  go_wp2_with fail
  refine (iG mem _ dP.out _).mono ?_
  rintro e w0 ⟨rfl,h0⟩
  rw [h0]
  clear h0 w0
  go_wp2_with fail
  refine (Nc aq c0 rs h0 ar av qs h1 ea.out _ (bf.ae az) (aW.ae az)).mono ?_
  rintro e aJ ⟨oc,c5,rfl,iu,aL⟩
  have al:=be bh aL;replace I:=aj I al;have wX:=iu.hj (hf:=fW);clear iu
  go_wp2_with fail
  refine (yA oc c5 (hv rs qs) id jo _ dU.out _ (wX.ae az)).mono ?_
  rintro e bB ⟨rfl,bx⟩
  have aP:=be aJ bx;replace I:=aj I aP
  go_wp2
  go_ret2
  exact⟨none,0,rfl,bd.nil,(aj I az)⟩
 ·have ea:=J aN;have dP:=J hm;have dU:=J aV
  rw [Vk aN hm aV]
  clear aN hm aV
  go_in
  go_wp2_with fail
  refine (mx aq c0 rs h0 fo ar av qs h1 _ ea.out _ (bf.ae az) (aW.ae az)).mono ?_
  rintro e bh ⟨rfl,br⟩
  have au:=be w br;have I:Below w w bh:=au;replace bf:=bf.ae au;replace aW:=aW.ae au
  go_wp2_with fail
  refine (iG mem _ dP.out _).mono ?_
  rintro e w0 ⟨rfl,h0⟩
  rw [h0]
  clear h0 w0
  go_wp2_with fail
  refine (Nc aq c0 rs h0 ar av qs h1 ea.out _ (bf.ae az) (aW.ae az)).mono ?_
  rintro e aJ ⟨oc,c5,rfl,iu,aL⟩
  have al:=be bh aL;replace I:=aj I al;replace aW:=aW.ae al;have wX:=iu.hj (hf:=fW);clear iu
  go_wp2_with fail
  refine (yA oc c5 (hv rs qs) id jo _ dU.out _ (wX.ae az)).mono ?_
  exact Ys
end Go.Proofs.YtlaaemmmbodaaaaGreatDoor
namespace Go.G9
open Go.RowKit
theorem aB.kb {w ah:World} {g:Nat} {row:Option Nat} {t:TypeId} {cs:Array Value} (h:aB w g t cs) (cT:w.grownBy ah row) (eM:some g≠row):aB ah g t cs:=(cT.block g h.lt eM).trans h
open Go.RowKit
theorem bd.wj {T:Type} {B sz:Nat} {f:T→List Value} {e t:TypeId} {w:World} {g n c p:Nat} {xs:List T} {cs:Array Value} (h:bd B e sz f w (.slice g n c) xs) (aF:aB w p t cs) (eM:t≠e):p≠g:=by
 rintro rfl
 obtain⟨_,_,_,_,cur,bG,_⟩:=h.parts
 unfold aB at aF bG
 rw [aF] at bG
 injection bG with h1
 injection h1 with _ h2 _
 exact eM h2
theorem bd.qv {T:Type} {B sz:Nat} {f:T→List Value} {e t:TypeId} {w:World} {v:Value} {p:Nat} {xs:List T} {cs:Array Value} (h:bd B e sz f w v xs) (aF:aB w p t cs) (eM:t≠e):∀k,v.ownBlock= some k→k≠p:=by
 rintro k aD rfl
 rcases h.2 with ⟨rfl,_⟩ | ⟨g,cap,cur,rfl,bG,fc,r⟩
 ·cases aD
 ·have a1:g= k:=Option.some.inj aD
  subst a1
  unfold aB at aF
  rw [aF] at fc
  injection fc with h1
  injection h1 with _ h2 _
  exact eM h2
theorem bd.cu {T:Type} {B sz:Nat} {f:T→List Value} {e t:TypeId} {w:World} {v:Value} {p:Nat} {xs:List T} {cs:Array Value} (h:bd B e sz f w v xs) (aF:aB w p t cs) (eM:t≠e:=by decide):∀k,v.ownBlock= some k→k≠p:=h.qv aF eM
theorem bd.apart {T Qo:Type} {B B' sz anA:Nat} {f:T→List Value} {aC:Qo→List Value} {e gz:TypeId} {w:World} {v ln:Value} {xs:List T} {ys:List Qo} (h:bd B e sz f w v xs) (dj:bd B' gz anA aC w ln ys) (eM:e≠gz):∀k,v.ownBlock= some k→some k≠ln.ownBlock:=by
 intro k aD e1
 rcases h.2 with ⟨rfl,_⟩ | ⟨g,cap,cur,rfl,bG,fc,r⟩
 ·cases aD
 ·rcases dj.2 with ⟨rfl,_⟩ | ⟨bA,Ko,aoQ,rfl,nN,SQ,fX⟩
  ·cases e1
  ·have a1:g= k:=Option.some.inj aD
   have a2:k= bA:=Option.some.inj e1
   subst a1;subst a2
   rw [fc] at SQ
   injection SQ with h1
   injection h1 with _ h2 _
   exact eM h2
end Go.G9
namespace Go.Proofs.YtlaaemmmbodaaaaGreatDoor
open Go.RowKit Go.G9
theorem ang {xs:List aO} {s x:aO} {k:Nat} (aD:k < xs.length) (h1:∀i y,i < k→xs[i]? =some y→y.mem < s.mem) (aw:xs[k]? =some x) (h2:¬x.mem < s.mem) (h3:x.mem= s.mem):eW xs s= xs.set k s:=by
 rw [BO (k:=k) (by omega) h1 (fun y hy=>by rw [aw] at hy;cases hy;exact h2),aw]
 simp only [h3,if_true]
 rw [List.set_eq_take_append_cons_drop,if_pos aD]
theorem Xc {xs:List aO} {s:aO} {k:Nat} (aD:k≤xs.length) (h1:∀i y,i < k→xs[i]? =some y→y.mem < s.mem) (h2:∀x,xs[k]? =some x→¬x.mem < s.mem) (h3:∀x,xs[k]? =some x→x.mem≠s.mem):eW xs s= xs.take k ++ s ::xs.drop k:=by
 rw [BO aD h1 h2]
 cases aw:xs[k]? with
 | none=>simp only [List.drop_of_length_le (List.getElem?_eq_none_iff.1 aw)]
 | some x=>simp only [if_neg (h3 x aw)]
theorem abe {p:Prop} (h:p:=by
 rintro e II ⟨bA,cM,rfl,gY,ha⟩
 have Dz:=Cm.out.kb ha (by intro e;exact yY (Option.some.inj e));have agF:=gY.wj Dz (by decide);have hN:=pH (ly rJ.out (some g)) ha;clear FK Cm FY wO rJ ha
 go_wp2
 refine wU (dv _ _ ?_)
 refine oa fun CF tb=>?_
 refine wpQuiet_nil ?_
 change wpQuiet _ _ _ _ (_ ::_ ::[]) _
 repeat (go_big_quiet_step (fail))
 refine wpQuiet_nil ?_
 change wpList _ _ _ (_ ::[]) _ _
 have aeK:=Dz.frozen 4;have aes:=(Dz.cell 4).trans (show _= some (.slice g ad c) from rfl);have Cl:=J (Dz.gE 4 (.slice bA (ad.length + 1) cM));have lY:=J (gY.kept (uu (j:=4) (vE II (some p)) (.slice bA (ad.length + 1) cM)) (fun q bj e=>by have h1:bA= q:=Option.some.inj bj;have h2:q= p:=Option.some.inj e;omega))
 have abT:=J hN;have abU:=J (uu (j:=4) (vE II (some p)) (.slice bA (ad.length + 1) cM));clear Dz gY hN
 go_wp2
 refine wU (tb _ _ ?_)
 refine xR ?_
 refine wpQuiet_nil ?_
 refine wpQuiet_nil ?_
 go_wp2
 have hle:(eW ad s).length= ad.length + 1:=by rw [cv.out,List.length_append,List.length_cons,List.length_take,List.length_drop];omega
 refine⟨rfl,Value.tuple #[],by simp [results,Tryz.results307,go_sem],rfl,bA,cM,II,abT.out,abU.out,?_,?_,agF⟩
 ·rw [hle];exact Cl.out
 ·have h:=lY.out
  rw [hle,cv.out,es];exact h):p:=h
theorem Xd (B p:Nat) (ag af sp:Int) (sA:Value) (g c:Nat) (ad:List aO) (aY:ad.length≤1048575) (sm st cm:Int) (s:aO) (es:s=⟨sm,st,cm⟩) (w:World) (KR:B≤p) (mS:B≤w.heap.size) (yY:p≠g)
  (ai:aB w p 41 #[ag,af,sp,sA,.slice g ad c]) (bM:bd B 214 3 aO.cells w (.slice g ad c) ad):
 Calls Tryz.prog 307 #[.pointer (some ⟨p,0,none⟩),.agg #[sm,st,cm]] w fun e ah=>e= .returned (.tuple #[])∧∃bA cM bh,w.grownBy bh (some g)∧bh.grownBy ah (some p)∧aB ah p 41 #[ag,af,sp,sA,.slice (some ⟨bA,0,none⟩) (eW ad s).length cM]∧bd B 214 3 aO.cells ah (.slice (some ⟨bA,0,none⟩) (eW ad s).length cM) (eW ad s)∧p≠bA:=by
 have Jq:=J ai;have kV:=J bM;have Mo:=ai.lt;clear ai bM
 go_in
 go_upto_region 1 with fail
 have nu:Below w w (w.alloc (.cells #[sm,st,cm] 214)):=bT w _;have bH:=aB.new w 214 #[sm,st,cm];have ai:=Jq.out.ae nu Jq.out.lt;have bM:=kV.out.bm nu
 obtain⟨w0,qp⟩ :∃w0,w0= w.alloc (.cells #[sm,st,cm] 214):=⟨_,rfl⟩
 rw [← qp] at nu bH ai bM
 have dU:=J bH;have cC:=J ai;have dm:=J bM;clear bH ai bM Jq kV
 generalize w.alloc (.cells #[sm,st,cm] 214)= Fy at *
 subst qp
 go_wp2
 go_loopw [4] (fun i wr=>∃k:Nat,k≤ad.length∧i= .int .i64 k∧(∀j x,j < k→ad[j]? =some x→x.mem < s.mem)∧Below w0 w0 wr) (fun i _=>ad.length - (intOf i).toNat)
 case atStart=>exact⟨0,Nat.zero_le _,rfl,fun j x h=>absurd h (by omega),Below.refl _ _⟩
 case round=>
  obtain⟨k,aD,rfl,aT,aF⟩:=hrel
  have cB:=J aT;clear aT;have fK:=cC.out.ae aF cC.out.lt;have gZ:=dU.out.ae aF dU.out.lt;have hOr:=dm.out.bm aF
  have c4:=fun K:ay wr.heap.size wr=>((fK.ae K.ae fK.lt).cell 4).trans (show _= some (.slice g ad c) from rfl)
  have bZ:=aB.jv (fun K:ay wr.heap.size wr=>(gZ.ae K.ae gZ.lt));have jY:=J fK;have kW:=J gZ;have lZ:=J hOr;clear fK gZ hOr
  by_cases bu:k < ad.length
  ·obtain⟨⟨dO,iA,xS⟩,aw⟩ :∃x,ad[k]? =some x:=⟨_,List.getElem?_eq_getElem bu⟩
   have dd:=fun K:ay wr.heap.size wr=>qz (lZ.out.bm K.ae) ig aw (i:=0) (u:= .int .i64 dO) rfl
   simp only [Nat.add_zero] at dd
   have cc:=J aw;clear aw;have Bi:decide ((k:Int) < (ad.length:Int))= true:=decide_eq_true (by omega)
   by_cases hm:dO < sm
   ·go_wp2
    refine eK (by kernel_rfl) (by kernel_rfl) ?_
    repeat (go_big_quiet_step ((fail)))
    refine wpQuiet_nil ?_
    intro K
    clear c4 bZ dd
    go_wp2
    go_roundw
    case rel=>exact⟨k + 1,by omega,by go_num,fun j y bE hy=>by
     by_cases e:j= k
     ·subst e;rw [cc.out] at hy;cases hy;rw [es];exact hm
     ·exact cB.out j y (by omega) hy,aj aF K.ae⟩
    case measure=>simp [intOf];omega
   ·have Bj:decide (dO < sm)= false:=decide_eq_false hm
    go_wp2
    refine eK (by kernel_rfl) (by kernel_rfl) ?_
    repeat (go_big_quiet_step ((fail)))
    refine wpQuiet_nil ?_
    intro K
    clear c4 bZ dd Bj;have fh:=aj aF K.ae;have fK:=jY.out.ae K.ae jY.out.lt;have gZ:=kW.out.ae K.ae kW.out.lt;have hOr:=lZ.out.bm K.ae;clear jY kW lZ
    generalize K.world= mq at *
    have c4:=fun K:ay mq.heap.size mq=>((fK.ae K.ae fK.lt).cell 4).trans (show _= some (.slice g ad c) from rfl)
    have bZ:=aB.jv (fun K:ay mq.heap.size mq=>(gZ.ae K.ae gZ.lt))
    have dd:=fun K:ay mq.heap.size mq=>qz (hOr.bm K.ae) ig cc.out (i:=0) (u:= .int .i64 dO) rfl
    simp only [Nat.add_zero] at dd
    have jY:=J fK;have kW:=J gZ;have lZ:=J hOr;clear fK gZ hOr
    by_cases he:dO= sm
    ·go_wp2
     refine eK (by kernel_rfl) (by kernel_rfl) ?_
     repeat (go_big_quiet_step ((fail)))
     refine wpQuiet_nil ?_
     intro K
     clear c4 bZ dd;have afB:=aj fh K.ae;have fK:=jY.out.ae K.ae jY.out.lt;have gZ:=kW.out.ae K.ae kW.out.lt;have hOr:=lZ.out.bm K.ae;clear jY kW lZ
     generalize K.world= wn at *
     have c4:=fun K:ay wn.heap.size wn=>((fK.ae K.ae fK.lt).cell 4).trans (show _= some (.slice g ad c) from rfl)
     have bZ:=aB.jv (fun K:ay wn.heap.size wn=>(gZ.ae K.ae gZ.lt));have jY:=J fK;have lZ:=J hOr;clear fK gZ hOr
     go_wp2
     refine Fv 7 (by kernel_rfl) (by kernel_rfl) ?_
     change wpQuiet _ _ _ _ (_ ::_ ::_ ::_ ::_ ::_ ::_ ::[]) _
     repeat (go_big_quiet_step (fail))
     refine wpQuiet_nil ?_
     intro K
     change wpList _ _ _ (_ ::[]) _ _
     clear c4 bZ;have bx:=aj afB K.ae;have fK:=jY.out.ae K.ae jY.out.lt;have hOr:=lZ.out.bm K.ae;clear jY lZ
     generalize K.world= hJ at *
     have z0:=zE hOr ig (j:=k) (i:=0) bu (by decide);have bW:=zE hOr ig (j:=k) (i:=1) bu (by decide);have z2:=zE hOr ig (j:=k) (i:=2) bu (by decide);have kE:=qz hOr ig cc.out (i:=0) (u:= .int .i64 dO) rfl;have zZ:=qz hOr ig cc.out (i:=1) (u:= .int .i64 iA) rfl;have jB:=qz hOr ig cc.out (i:=2) (u:= .int .i64 xS) rfl
     simp only [Nat.add_zero] at z0 kE
     have e1:eW ad s= ad.set k s:=ang bu (fun j y bE hy=>cB.out j y bE hy) cc.out (by rw [es];show¬dO < sm;omega) (by rw [es];exact he);have gY:=zF hOr ig (y:=⟨sm,iA,xS⟩) (u:= .int .i64 sm) (i:=0) cc.out (by decide) rfl;have nO:=zF gY ig (j:=k) (x:=⟨sm,iA,xS⟩) (y:=⟨sm,st,xS⟩) (u:= .int .i64 st) (i:=1) (by rw [List.getElem?_set_self bu]) (by decide) rfl
     have mA:=zF nO ig (j:=k) (x:=⟨sm,st,xS⟩) (y:=⟨sm,st,cm⟩) (u:= .int .i64 cm) (i:=2) (by rw [List.getElem?_set_self (by rw [List.length_set];exact bu)]) (by decide) rfl
     simp only [List.set_set,Nat.add_zero] at mA
     rw [← es,← e1] at mA
     have RR:=((fK.ur (p:=⟨g,k * 3,none⟩) yY (.int .i64 sm)).ur (p:=⟨g,k * 3 + 1,none⟩) yY (.int .i64 st)).ur (p:=⟨g,k * 3 + 2,none⟩) yY (.int .i64 cm);have Bf:=pH (ly (aj nu bx) (some g)) (uu (j:=k * 3 + 2) (uu (j:=k * 3 + 1) (uu (j:=k * 3) (vE hJ (some g)) (.int .i64 sm)) (.int .i64 st)) (.int .i64 cm));have ji:=J mA
     have abQ:=J RR;have abV:=J Bf;have cv:=J e1;clear gY nO mA RR Bf e1 hOr fK
     go_wp2
     refine⟨rfl,Value.tuple #[],by simp [results,Tryz.results307,go_sem],rfl,g,c,_,abV.out,vE _ _,?_,?_,yY⟩
     ·have hle:(eW ad s).length= ad.length:=by rw [cv.out,List.length_set]
      rw [hle];exact abQ.out
     ·have hle:(eW ad s).length= ad.length:=by rw [cv.out,List.length_set]
      have h:=ji.out
      rw [hle];exact h
    ·have tm:(dO == sm)= false:=beq_eq_false_iff_ne.2 he
     go_wp2
     refine eK (by kernel_rfl) (by kernel_rfl) ?_
     repeat (go_big_quiet_step ((fail)))
     refine wpQuiet_nil ?_
     intro K
     clear c4 bZ dd tm Bi;have DW:=aj fh K.ae;have fK:=jY.out.ae K.ae jY.out.lt;have gZ:=kW.out.ae K.ae kW.out.lt;have hOr:=lZ.out.bm K.ae;clear jY kW lZ
     generalize K.world= wn at *
     have e1:eW ad s= ad.take k ++ s ::ad.drop k:=Xc aD (fun j y bE hy=>cB.out j y bE hy) (fun y hy=>by rw [cc.out] at hy;cases hy;rw [es];show¬dO < sm;omega) (fun y hy=>by rw [cc.out] at hy;cases hy;rw [es];exact he);have DU:=aj nu DW
     haveI:Nonempty (cH (fun V=>aB V p 41 #[ag,af,sp,sA,.slice g ad c]∧aB V w.heap.size 214 #[sm,st,cm])):=⟨⟨wn,fK,gZ⟩⟩
     haveI:Nonempty (cH (fun _=>True)):=⟨⟨wn,trivial⟩⟩
     have c4:=fun K:cH (fun V=>aB V p 41 #[ag,af,sp,sA,.slice g ad c]∧aB V w.heap.size 214 #[sm,st,cm])=>(K.holds.1.cell 4).trans (show _= some (.slice g ad c) from rfl)
     have bZ:=aB.jv (fun K:cH (fun V=>aB V p 41 #[ag,af,sp,sA,.slice g ad c]∧aB V w.heap.size 214 #[sm,st,cm])=>K.holds.2);have jY:=J fK;have kW:=J gZ;have lZ:=J hOr;have cv:=J e1;clear fK gZ hOr e1
     go_wp2
     refine Fx (fun V=>aB V p 41 #[ag,af,sp,sA,.slice g ad c]∧aB V w.heap.size 214 #[sm,st,cm]) [([1,2,3,4,5,6],[0],7,false),([],[],8,true),([],[9,10],11,true)] [] [] (by kernel_rfl) (by kernel_rfl) ⟨jY.out,kW.out⟩ ?_
     refine oa fun K gf=>?_
     change wpQuiet _ _ _ _ (_ ::_ ::_ ::_ ::_ ::_ ::[]) _
     repeat (go_big_quiet_step (fail))
     refine wpQuiet_nil ?_
     change wpQuiet _ _ _ _ (_ ::[]) _
     repeat (go_big_quiet_step (fail))
     refine wpQuiet_nil ?_
     change wpList _ _ _ (_ ::[]) _ _
     clear c4 bZ;have fK:aB wn.drew p 41 #[ag,af,sp,sA,.slice g ad c]:=jY.out;have gZ:aB wn.drew w.heap.size 214 #[sm,st,cm]:=kW.out;have hOr:=lZ.out.bm (Below.refl _ wn).drew;have cY:Below w w wn.drew:=DU.drew;clear jY kW lZ
     generalize wn.drew= wd at *
     have FK:=J (aB.new wd 214 #[sm,st,cm]);have Cm:=J (fK.alloc (.cells #[sm,st,cm] 214));have FY:=J (gZ.alloc (.cells #[sm,st,cm] 214));have wO:=J (hOr.alloc (.cells #[sm,st,cm] 214));have rJ:=J (aj cY (bT wd (.cells #[sm,st,cm] 214)))
     have mC:=(hOr.lt g rfl).2;clear fK gZ hOr
     go_wp2
     refine wV ⟨Cm.out,FY.out⟩ (gf _ _ ?_)
     refine oa fun fT dv=>?_
     refine wpQuiet_nil ?_
     refine wpQuiet_nil ?_
     change wpList _ _ _ (_ ::[]) _ _
     go_wp2_with fail
     refine (Ud B g c ad aY k (by omega) ⟨sm,st,cm⟩ wd.heap.size _ (by have:=rJ.out.size;omega) (by omega) wO.out FK.out).mono ?_
     exact abe
  ·obtain rfl:k= ad.length:=by omega
   go_wp2
   refine eK (by kernel_rfl) (by kernel_rfl) ?_
   repeat (go_big_quiet_step ((fail)))
   refine wpQuiet_nil ?_
   intro K
   clear c4 bZ;have fh:=aj aF K.ae;have fK:=jY.out.ae K.ae jY.out.lt;have gZ:=kW.out.ae K.ae kW.out.lt;have hOr:=lZ.out.bm K.ae;clear jY kW lZ
   generalize K.world= mq at *
   have c4:=fun K:ay mq.heap.size mq=>((fK.ae K.ae fK.lt).cell 4).trans (show _= some (.slice g ad c) from rfl)
   have bZ:=aB.jv (fun K:ay mq.heap.size mq=>(gZ.ae K.ae gZ.lt));have jY:=J fK;have kW:=J gZ;have lZ:=J hOr;clear fK gZ hOr
   go_wp2
   refine eK (by kernel_rfl) (by kernel_rfl) ?_
   repeat (go_big_quiet_step ((fail)))
   refine wpQuiet_nil ?_
   intro K
   clear c4 bZ;have DW:=aj fh K.ae;have fK:=jY.out.ae K.ae jY.out.lt;have gZ:=kW.out.ae K.ae kW.out.lt;have hOr:=lZ.out.bm K.ae;clear jY kW lZ
   generalize K.world= wn at *
   have e1:eW ad s= ad.take ad.length ++ s ::ad.drop ad.length:=Xc (Nat.le_refl _) (fun j y bE hy=>cB.out j y bE hy) (fun y hy=>by have:=(List.getElem?_eq_some_iff.1 hy).1;omega) (fun y hy=>by have:=(List.getElem?_eq_some_iff.1 hy).1;omega);have DU:=aj nu DW
   obtain⟨k,Hh⟩ :∃k,k= ad.length:=⟨_,rfl⟩
   haveI:Nonempty (cH (fun V=>aB V p 41 #[ag,af,sp,sA,.slice g ad c]∧aB V w.heap.size 214 #[sm,st,cm])):=⟨⟨wn,fK,gZ⟩⟩
   haveI:Nonempty (cH (fun _=>True)):=⟨⟨wn,trivial⟩⟩
   have c4:=fun K:cH (fun V=>aB V p 41 #[ag,af,sp,sA,.slice g ad c]∧aB V w.heap.size 214 #[sm,st,cm])=>(K.holds.1.cell 4).trans (show _= some (.slice g ad c) from rfl)
   have bZ:=aB.jv (fun K:cH (fun V=>aB V p 41 #[ag,af,sp,sA,.slice g ad c]∧aB V w.heap.size 214 #[sm,st,cm])=>K.holds.2);have jY:=J fK;have kW:=J gZ;have lZ:=J hOr;have cv:=J e1;clear fK gZ hOr e1
   go_wp2
   refine Fx (fun V=>aB V p 41 #[ag,af,sp,sA,.slice g ad c]∧aB V w.heap.size 214 #[sm,st,cm]) [([1,2,3,4,5,6],[0],7,false),([],[],8,true),([],[9,10],11,true)] [] [] (by kernel_rfl) (by kernel_rfl) ⟨jY.out,kW.out⟩ ?_
   refine oa fun K gf=>?_
   change wpQuiet _ _ _ _ (_ ::_ ::_ ::_ ::_ ::_ ::[]) _
   repeat (go_big_quiet_step (fail))
   refine wpQuiet_nil ?_
   change wpQuiet _ _ _ _ (_ ::[]) _
   repeat (go_big_quiet_step (fail))
   refine wpQuiet_nil ?_
   change wpList _ _ _ (_ ::[]) _ _
   clear c4 bZ;have fK:aB wn.drew p 41 #[ag,af,sp,sA,.slice g ad c]:=jY.out;have gZ:aB wn.drew w.heap.size 214 #[sm,st,cm]:=kW.out;have hOr:=lZ.out.bm (Below.refl _ wn).drew;have cY:Below w w wn.drew:=DU.drew;clear jY kW lZ
   generalize wn.drew= wd at *
   have FK:=J (aB.new wd 214 #[sm,st,cm]);have Cm:=J (fK.alloc (.cells #[sm,st,cm] 214));have FY:=J (gZ.alloc (.cells #[sm,st,cm] 214));have wO:=J (hOr.alloc (.cells #[sm,st,cm] 214));have rJ:=J (aj cY (bT wd (.cells #[sm,st,cm] 214)))
   have mC:=(hOr.lt g rfl).2;clear fK gZ hOr
   go_wp2
   refine wV ⟨Cm.out,FY.out⟩ (gf _ _ ?_)
   refine oa fun fT dv=>?_
   refine wpQuiet_nil ?_
   refine wpQuiet_nil ?_
   change wpList _ _ _ (_ ::[]) _ _
   go_wp2_with fail
   refine (Ud B g c ad aY ad.length (Nat.le_refl _) ⟨sm,st,cm⟩ wd.heap.size _ (by have:=rJ.out.size;omega) (by omega) wO.out FK.out).mono ?_
   exact abe
open Go.RowKit Go.G9
theorem KI {f:eo} (h:f.ok= true):f.ws.length≤10∧f.ad.length≤99:=by
 have H:=ks.1 h
 refine⟨H.l,Nb (N:=99) (lo:=0) H.ord fun x aw=>?_⟩
 have:=tQ.1 (H.ok x aw);have:=qt.1 this.1
 omega
def aoo (sp st cm:Int):kq Nat where
 par:=fun _=>[]
 val:=fun n p=>match n with
  | 7=> .agg #[.int .i64 sp,.int .i64 st,.int .i64 cm]
  | 8=> .pointer (some ⟨p,0,none⟩)
  | _=>undef
 post:=fun n _ p cN V=>match n with
  | 8=>cN.heap.size= p∧aB V p 214 #[.int .i64 0,.int .i64 0,.int .i64 0]
  | _=>True
theorem OU {p:Prop} (h:p:=by
 change wpList _ _ _ (_ ::[]) _ _
 go_wp2
 exact hA ⟨k.world.heap.size,rfl,bT _ _,rfl,aB.new _ _ _⟩):p:=h
theorem Yf (B p:Nat) (ag af sp:Int) (an:Option Addr) (wh Gw:Nat) (g c:Nat) (ad:List aO) (aY:ad.length≤1048575) (st cm:Int) (aV:ej ad sp=⟨sp,st,cm⟩) (h0:0≤st) (h1:st≤1000) (w:World) (KR:B≤p) (mS:B≤w.heap.size)
  (ai:aB w p 41 #[ag,af,sp,.slice an wh Gw,.slice g ad c]) (bM:bd B 214 3 aO.cells w (.slice g ad c) ad):
 Calls Tryz.prog 308 #[.pointer (some ⟨p,0,none⟩)] w fun e ah=>e= .returned (.tuple #[])∧∃bA cM bh,w.grownBy bh (some g)∧bh.grownBy ah (some p)∧aB ah p 41 #[ag,af,(0:Int),.slice an wh Gw,.slice (some ⟨bA,0,none⟩) (eW ad ⟨sp,st + 1,cm⟩).length cM]∧bd B 214 3 aO.cells ah (.slice (some ⟨bA,0,none⟩) (eW ad ⟨sp,st + 1,cm⟩).length cM) (eW ad ⟨sp,st + 1,cm⟩)∧p≠bA:=by
 have Mo:=ai.lt;have yY:=bM.wj ai (by decide);have cC:=J ai;have dm:=J bM;have dU:=J aV;clear ai bM aV
 go_in
 obtain⟨vg,xc⟩ :∃X:World→Prop,∀V,X V↔(Below w w V):=⟨_,fun _=>Iff.rfl⟩
 have lH:=J xc;clear xc
 haveI:Nonempty (cH vg):=⟨⟨w,((lH.out _).2 ((Below.refl _ _)))⟩⟩
 obtain⟨c0,av,c2,c3,c4⟩:=aB.jH (fun K:cH vg=>(cC.out.ae ((lH.out _).1 K.holds) cC.out.lt))
 go_wp2
 refine wF (aoo sp st cm) vg [([0,1,2,3,4,5,6],7),([],8)] [] [([],9)] [] (by kernel_rfl) (by kernel_rfl) ((lH.out _).2 ((Below.refl _ _).drew)) (fun W eF h k=>((lH.out _).2 (((lH.out _).1 h).trans (k.mono ((lH.out _).1 h).size)))) ?_
 intro bl
 refine hI (some 10) rfl (.agg #[sp,st,cm]) rfl fun hz eb=>?_
 change wpQuiet _ _ _ _ (_ ::_ ::_ ::_ ::_ ::_ ::_ ::[]) _
 repeat (go_big_quiet_step (fail))
 refine wpQuiet_nil ?_
 refine⟨fun k fq=>?_,eb _ ?_⟩
 ·change wpList _ _ _ (_ ::[]) _ _
  go_wp2_with fail
  refine (wA ag af sp an wh Gw (some ⟨g,0,none⟩) c ad (by omega) sp ⟨sp,st,cm⟩ dU.out _ (dm.out.bm ((lH.out _).1 k.holds)).hj).mono ?_
  rintro e mG ⟨rfl,fL⟩
  go_wp2
  exact hA ⟨0,rfl,fL,trivial⟩
 simp only [Act.put]
 go_simp
 refine hI (some 2) rfl (.pointer (some ⟨bl 8,0,none⟩)) rfl fun hz eb=>?_
 change wpQuiet _ _ _ _ ([]) _
 refine wpQuiet_nil ?_
 refine⟨fun k fq=>?_,eb _ ?_⟩
 ·exact OU
 simp only [Act.put]
 go_simp
 refine qJ ?_
 change wpQuiet _ _ _ _ ([]) _
 refine wpQuiet_nil ?_
 intro cN V W aU bL
 clear c0 av c2 c3 c4
 obtain⟨tq,cL⟩ :(cN 8).heap.size= bl 8∧aB (V 8) (bl 8) 214 #[(0:Int),(0:Int),(0:Int)]:=aU.post 8 (by simp)
 have aqp:w.heap.size≤bl 8:=tq ▸ (aU.lN 8 (by simp)).size;have vH:=cL.ae (aU.bm 8 (by simp)) cL.lt;have al:Below w w W:=aj az (aU.whole 8 (by simp)).oM;have I:Below w w W:=al;clear aU cL tq bL
 generalize bl 8= q at *
 have ff:=vH.cq
 refine gr fun fT dv=>?_
 change wpQuiet _ _ _ _ ([]) _
 refine wpQuiet_nil ?_
 change wpList _ _ _ (_ ::[]) _ _
 obtain⟨apc,aew,apd⟩:=vH.mQ
 go_wp2
 clear ff
 refine su 0 fun Ay hS=>?_
 replace I:=hS.aH I;replace vH:=hS.uh vH;have ff:=vH.cq
 refine gw (((lH.out _).2 I)) (dv _ _ ?_)
 refine kD ?_
 change wpQuiet _ _ _ _ ([]) _
 refine wpQuiet_nil ?_
 have rp:IntKind.i64.wrap (st + 1)= st + 1:=by rw [IntKind.wrap_i64];omega
 have aew:=vH.frozen 1
 go_upto_region 2 with fail
 clear ff
 refine mF 1 fun nK fy=>?_
 replace I:=fy.aH I;replace vH:=fy.VO vH;have ff:=vH.cq;have RS:=cC.out.ae I cC.out.lt;have fb:=dm.out.bm I;have Tu:=I.size;have abR:=J RS;have kp:=J fb;clear RS fb
 go_wp2_with fail
 refine (Xd B p ag af sp (.slice an wh Gw) g c ad aY sp (st + 1) cm _ rfl _ KR (by omega) yY abR.out kp.out).mono ?_
 rintro e dB ⟨rfl,bA,cM,bh,ha,hN,GN,tc,Mn⟩
 have aeK:=GN.frozen 2;have aes:=(GN.cell 2).trans (show _= some (.int .i64 sp) from rfl);have Cl:=J (GN.gE 2 (.int .i64 0));have lY:=J (tc.kept (uu (j:=2) (vE dB (some p)) (.int .i64 0)) (fun k aD e=>by have h1:bA= k:=Option.some.inj aD;have h2:k= p:=Option.some.inj e;omega));have abS:=J (pH (ly I (some g)) ha);have Cn:=J (uu (j:=2) hN (.int .i64 0))
 clear GN tc ha hN ff
 go_wp2
 exact⟨rfl,Value.tuple #[],by simp [results,Tryz.results308,go_sem],rfl,bA,cM,bh,abS.out,Cn.out,Cl.out,lY.out,Mn⟩
theorem aiz (ag af sp:Int) (an:Option Addr) (c2:Nat) (ws:List Int) (ao:Option Addr) (c3:Nat) (ad:List aO) (h2:ws.length≤1048576) (h3:ad.length≤1048576) (n2:an= none→ws= []∧c2= 0) (n3:ao= none→ad= []∧c3= 0) (cp:ws.length≤c2) (ax:lE ⟨ag,af,sp,ws,ad⟩ =false) (w:World) (bw:aS 1 bV w an ws) (bt:aS 3 aO.cells w ao ad):
 Calls Tryz.prog 261 #[.agg #[ag,af,sp,.slice an ws c2,.slice ao ad c3]] w fun e ah=>e= .returned (.tuple #[.agg #[(0:Int),(0:Int),(0:Int),.slice none 0 0,.slice none 0 0],false])∧Below w w ah:=by
 have dQ:=J bw;have cQ:=J bt;clear bw bt n2 n3
 cases hf:gd ag af sp ws ad
 ·have bo:=J hf
  clear hf ax
  go_in
  go_upto_region 1 with fail
  refine fe fun aG au ai U=>?_
  have I:=au;have aC:=ai.aM;have ak:=U.aM
  go_wp2_with fail
  refine (lh ag af sp an ws c2 ao c3 ad h2 h3 cp _ bo.out _ (dQ.out.ae (aj I az)) (cQ.out.ae (aj I az))).mono ?_
  rintro e aJ ⟨rfl,aL⟩
  have al:=be aG aL;replace I:=aj I al;clear aC;replace U:=U.to al;clear ak;have ak:=U.aM;have dM:=U.iE
  go_wp2
  clear ak
  refine gF 0 fun cD aE=>?_
  replace I:=aE.aH I;replace U:=aE.hV U;have ak:=U.aM
  exact hD ⟨rfl,I⟩ (by simp [results,Tryz.results261,go_sem,ak])
 ·have aV:(sp == 0)= true:=by simpa [lE,eo.ok,hf] using ax
  have bo:=J hf;clear hf ax
  go_in
  go_upto_region 1 with fail
  refine fe fun aG au ai U=>?_
  have I:=au;have aC:=ai.aM;have ak:=U.aM
  go_wp2_with fail
  refine (lh ag af sp an ws c2 ao c3 ad h2 h3 cp _ bo.out _ (dQ.out.ae (aj I az)) (cQ.out.ae (aj I az))).mono ?_
  rintro e aJ ⟨rfl,aL⟩
  have al:=be aG aL;replace I:=aj I al;replace ai:=ai.to al;clear aC;have aC:=ai.aM;replace U:=U.to al;clear ak;have ak:=U.aM;have dM:=U.iE
  go_wp2
  clear aC ak
  refine gF 0 fun cD aE=>?_
  replace I:=aE.aH I;replace U:=aE.hV U;have ak:=U.aM
  exact hD ⟨rfl,I⟩ (by simp [results,Tryz.results261,go_sem,ak])
theorem aiA (ag af sp:Int) (an:Option Addr) (c2:Nat) (ws:List Int) (ao:Option Addr) (c3:Nat) (ad:List aO) (h2:ws.length≤1048576) (h3:ad.length≤1048576) (n2:an= none→ws= []∧c2= 0) (n3:ao= none→ad= []∧c3= 0) (cp:ws.length≤c2) (ax:lE ⟨ag,af,sp,ws,ad⟩ =true) (w:World) (bw:aS 1 bV w an ws) (bt:aS 3 aO.cells w ao ad):
 Calls Tryz.prog 261 #[.agg #[ag,af,sp,.slice an ws c2,.slice ao ad c3]] w fun e ah=>∃aZ d2 bk d3,e= .returned (.tuple #[.agg #[ag,af,(0:Int),.slice aZ ws d2,.slice bk (lW ⟨ag,af,sp,ws,ad⟩).ad.length d3],true])∧jC w.heap.size ah aZ d2 bk d3 ws (lW ⟨ag,af,sp,ws,ad⟩).ad∧Below w w ah:=by
 have dQ:=J bw;have cQ:=J bt;have iU:=J n2;have iK:=J n3;clear bw bt n2 n3
 have ga:(⟨ag,af,sp,ws,ad⟩ :eo).ok= true:=by simp only [lE,Bool.and_eq_true] at ax;exact ax.1
 have aV:(sp == 0)= false:=by simp only [lE,Bool.and_eq_true,Bool.not_eq_true'] at ax;exact ax.2
 have hlen:=KI ga
 obtain⟨oY,mi,oz⟩:=BD ga (beq_eq_false_iff_ne.1 aV)
 have zf:=(ks.1 ga).t
 obtain⟨au,al,aP⟩:=tQ.1 mi
 have kl:=Ix (xs:=ad) (m:=sp)
 obtain⟨⟨dA,st,cm⟩,kn⟩ :∃x,ej ad sp= x:=⟨_,rfl⟩
 have Di:sG ⟨ag,af,sp,ws,ad⟩ =⟨sp,st + 1,cm⟩:=by simp [sG,kn]
 have e1:(lW ⟨ag,af,sp,ws,ad⟩).ad= eW ad ⟨sp,st + 1,cm⟩:=by simp [lW,Di]
 simp only at oz al aP
 rw [kn] at oz al aP kl
 simp only at oz al aP kl zf
 subst kl
 rw [e1]
 have bo:Hid (gd ag af dA ws ad= true):=J ga;have lr:=J kn
 have Mz:ad.length≤1048575:=by simp only at hlen;omega
 clear ga ax oY mi au kn Di e1 hlen
 go_in
 go_upto_region 1 with fail
 refine fe fun aG au ai U=>?_
 have I:=au;have aC:=ai.aM;have ak:=U.aM;have fQ:=U.lt
 go_wp2_with fail
 refine (lh ag af dA an ws c2 ao c3 ad h2 h3 cp _ bo.out _ (dQ.out.ae (aj I az)) (cQ.out.ae (aj I az))).mono ?_
 rintro e aJ ⟨rfl,aL⟩
 have al:=be aG aL;replace I:=aj I al;replace ai:=ai.to al;clear aC;have aC:=ai.aM;replace U:=U.to al;clear ak;have ak:=U.aM
 go_wp2_with fail
 refine (EM ag af dA an c2 ws ao c3 ad h2 h3 iU.out iK.out _ (dQ.out.ae (aj I az)) (cQ.out.ae (aj I az))).mono ?_
 rintro e bB ⟨aZ,d2,g3,d3,rfl,di,bx⟩
 have aP:=be aJ bx;replace I:=aj I aP;clear aC;replace U:=U.to aP;clear ak;have ak:=U.aM
 go_upto_region 4 with fail
 have fb:=di.bm (bT bB (.cells #[ag,af,dA,.slice aZ ws d2,.slice g3 ad d3] 41));have jw:=(di.fO.lt g3 rfl)
 have jn:=fun k aD=>(di.fi.lt k aD).2
 have mB:aJ.heap.size≤bB.heap.size:=bx.size;have abI:=J jn;clear di jn;have bN:Below bB bB (World.alloc bB (.cells #[ag,af,dA,.slice aZ ws d2,.slice g3 ad d3] 41)):=bT bB _
 have aR:=aB.new bB 41 #[ag,af,dA,.slice aZ ws d2,.slice g3 ad d3]
 generalize World.alloc bB (.cells #[ag,af,dA,.slice aZ ws d2,.slice g3 ad d3] 41)= bU at *
 replace I:=aj I bN;have bF:=aR.aM;clear ak;replace U:=U.to bN;have ak:=U.aM;have pb:=aR.lt;have uX:=al.size;have cc:=J aR;have dm:=J fb;clear aR fb bF
 go_wp2_with fail
 refine (Yf aJ.heap.size bB.heap.size ag af dA aZ ws.length d2 g3 d3 ad Mz st cm lr.out (by omega) (by omega) _ (by omega) (by omega) cc.out dm.out.fO).mono ?_
 rintro e dB ⟨rfl,g5,c5,ju,ha,hN,kj,tc,Mn⟩
 have cE:=(U.kb ha (by intro e;have:=Option.some.inj e;omega)).kb hN (by intro e;have:=Option.some.inj e;omega);have nO:=(dm.out.fi.kept ha (fun k aD e=>dm.out.ap k aD (by rw [e];rfl))).kept hN (fun k aD e=>by have h1:=abI.out k aD;have h2:k= bB.heap.size:=Option.some.inj e;omega);have ya:Below w w dB:=(I.grown ha (by omega) (fun k aD=>by have:=Option.some.inj aD;omega)).grown hN (by have:=ha.size;omega) (fun k aD=>by have:=Option.some.inj aD;omega)
 have lY:=J tc;have hs:=J nO;clear tc nO ha hN Mn U ak ai;replace I:=ya;clear ya;have ak:=cE.aM;have bF:=kj.aM;have apf:=cE.frozen 0;have apg:=cE.frozen 1;have aph:=cE.frozen 2;have api:=cE.frozen 3;have apj:=cE.frozen 4;have bI:=hs.out;have bD:=lY.out
 go_wp2
 clear ak bF
 refine gF 0 fun cD aE=>?_
 replace I:=aE.aH I;replace cE:=aE.hV cE;replace bI:=bI.bY aE (fun k aD=>by first | exact ez k aD | (have:=bI.lt k aD;omega));replace bD:=bD.bY aE (fun k aD=>by first | exact dG k aD | (have:=bD.lt k aD;omega));have ak:=cE.aM
 refine bodyPost_ret (v:= .tuple #[.agg #[ag,af,(0:Int),.slice aZ ws d2,.slice g5 (eW ad ⟨dA,st + 1,cm⟩).length c5],true]) (by simp [results,Tryz.results261,go_sem,ak]) rfl ?_
 exact⟨aZ,d2,some ⟨g5,0,none⟩,c5,rfl,⟨bI.base (by omega),bD.base (by omega),bI.apart bD (by decide)⟩,I⟩
open Go.RowKit Go.G9
def anq (ag af sp st cm:Int) (ws:List Int) (ad:List aO):kq ((Option Addr×Nat)×Nat×Nat) where
 par:=fun _=>[]
 val:=fun n p=>match n with
  | 1=> .agg #[.int .i64 ag,.int .i64 af,.int .i64 sp,.slice p.1.1 ws.length p.1.2,.slice (some ⟨p.2.1,0,none⟩) ad.length p.2.2]
  | 5=> .agg #[.int .i64 sp,.int .i64 st,.int .i64 cm]
  | 6=> .pointer (some ⟨p.2.1,0,none⟩)
  | 7=> .pointer (some ⟨p.2.1,0,none⟩)
  | _=>undef
 post:=fun n _ p cN V=>match n with
  | 1=>jC cN.heap.size V p.1.1 p.1.2 (some ⟨p.2.1,0,none⟩) p.2.2 ws ad
  | 6=>cN.heap.size= p.2.1∧aB V p.2.1 41 #[.int .i64 0,.int .i64 0,.int .i64 0,.slice none 0 0,.slice none 0 0]
  | 7=>cN.heap.size= p.2.1∧aB V p.2.1 214 #[.int .i64 0,.int .i64 0,.int .i64 0]
  | _=>True
theorem air (ag af sp:Int) (an:Option Addr) (c2:Nat) (ws:List Int) (ao:Option Addr) (c3:Nat) (ad:List aO) (h2:ws.length≤1048576) (h3:ad.length≤1048576) (n2:an= none→ws= []∧c2= 0) (n3:ao= none→ad= []∧c3= 0) (cp:ws.length≤c2) (n:Int) (ax:nf ⟨ag,af,sp,ws,ad⟩ n= false) (w:World) (bw:aS 1 bV w an ws) (bt:aS 3 aO.cells w ao ad):
 Calls Tryz.prog 260 #[.agg #[ag,af,sp,.slice an ws c2,.slice ao ad c3],n] w fun e ah=>e= .returned (.tuple #[.agg #[(0:Int),(0:Int),(0:Int),.slice none 0 0,.slice none 0 0],(0:Int),false])∧Below w w ah:=by
 have dQ:=J bw;have cQ:=J bt;clear bw bt n2 n3
 cases hf:gd ag af sp ws ad
 ·have bo:=J hf
  clear hf ax
  go_in
  go_upto_region 1 with fail
  refine fe fun aG au ai U=>?_
  have I:=au;have aC:=ai.aM;have ak:=U.aM
  go_wp2_with fail
  refine (lh ag af sp an ws c2 ao c3 ad h2 h3 cp _ bo.out _ (dQ.out.ae (aj I az)) (cQ.out.ae (aj I az))).mono ?_
  rintro e aJ ⟨rfl,aL⟩
  have al:=be aG aL;replace I:=aj I al;clear aC;replace U:=U.to al;clear ak;have ak:=U.aM;have dM:=U.iE
  go_wp2
  clear ak
  refine gF 0 fun cD aE=>?_
  replace I:=aE.aH I;replace U:=aE.hV U;have ak:=U.aM
  exact hD ⟨rfl,I⟩ (by simp [results,Tryz.results260,go_sem,ak])
 ·cases aV:(sp == 0)
  case true=>
   have bo:=J hf;clear hf ax
   go_in
   go_upto_region 1 with fail
   refine fe fun aG au ai U=>?_
   have I:=au;have aC:=ai.aM;have ak:=U.aM
   go_wp2_with fail
   refine (lh ag af sp an ws c2 ao c3 ad h2 h3 cp _ bo.out _ (dQ.out.ae (aj I az)) (cQ.out.ae (aj I az))).mono ?_
   rintro e aJ ⟨rfl,aL⟩
   have al:=be aG aL;replace I:=aj I al;replace ai:=ai.to al;clear aC;have aC:=ai.aM;replace U:=U.to al;clear ak;have ak:=U.aM;have dM:=U.iE
   go_wp2
   clear aC ak
   refine gF 0 fun cD aE=>?_
   replace I:=aE.aH I;replace U:=aE.hV U;have ak:=U.aM
   exact hD ⟨rfl,I⟩ (by simp [results,Tryz.results260,go_sem,ak])
  case false=>
   have hi:eT n 1 3600= false:=by simpa [nf,eo.ok,hf,aV] using ax
   have bo:=J hf;have hT:=J hi;clear hf ax hi
   go_in
   go_upto_region 1 with fail
   refine fe fun aG au ai U=>?_
   have I:=au;have aC:=ai.aM;have ak:=U.aM
   go_wp2_with fail
   refine (lh ag af sp an ws c2 ao c3 ad h2 h3 cp _ bo.out _ (dQ.out.ae (aj I az)) (cQ.out.ae (aj I az))).mono ?_
   rintro e aJ ⟨rfl,aL⟩
   have al:=be aG aL;replace I:=aj I al;replace ai:=ai.to al;clear aC;have aC:=ai.aM;replace U:=U.to al;clear ak;have ak:=U.aM
   go_wp2_with fail
   refine (iX n 1 3600 _ hT.out _).mono ?_
   rintro e w0 ⟨rfl,h0⟩
   rw [h0]
   clear h0 w0;have dM:=U.iE
   go_wp2
   clear aC ak
   refine gF 0 fun cD aE=>?_
   replace I:=aE.aH I;replace U:=aE.hV U;have ak:=U.aM
   exact hD ⟨rfl,I⟩ (by simp [results,Tryz.results260,go_sem,ak])
theorem aaB {p:Prop} (h:p:=by
 have e0:(qH ⟨ag,af,dA,ws,ad⟩ n).dS= (⟨ag,af,dA,ws,ad⟩ :eo).af:=by rw [Cd.out];exact tn
 have e2:uU ⟨ag,af,dA,ws,ad⟩ n=⟨ag,af,dA,ws,eW ad ⟨dA,st,cm + u⟩⟩:=by simp only [uU];rw [Cd.out]
 rw [jt,if_pos e0,e2]
 refine⟨rfl,?_⟩
 have e3:sG ⟨ag,af,dA,ws,eW ad ⟨dA,st,cm + u⟩⟩ =⟨dA,st + 1,cm + u⟩:=by simp only [sG];rw [FX.out]
 simp only [lW];rw [e3]):p:=h
theorem YC {p:Prop} (h:p:=by
 have e0:¬(qH ⟨ag,af,dA,ws,ad⟩ n).dS= (⟨ag,af,dA,ws,ad⟩ :eo).af:=by rw [Cd.out];exact tn
 rw [jt,if_neg e0]
 refine⟨rfl,?_⟩
 simp only [uU];rw [Cd.out]):p:=h
theorem ais (ag af sp:Int) (an:Option Addr) (c2:Nat) (ws:List Int) (ao:Option Addr) (c3:Nat) (ad:List aO) (h2:ws.length≤1048576) (h3:ad.length≤1048576) (n2:an= none→ws= []∧c2= 0) (n3:ao= none→ad= []∧c3= 0) (cp:ws.length≤c2) (n:Int) (ax:nf ⟨ag,af,sp,ws,ad⟩ n= true) (w:World) (bw:aS 1 bV w an ws) (bt:aS 3 aO.cells w ao ad):
 Calls Tryz.prog 260 #[.agg #[ag,af,sp,.slice an ws c2,.slice ao ad c3],n] w fun e ah=>∃aZ d2 bk d3,e= .returned (.tuple #[.agg #[ag,af,.int .i64 (jt ⟨ag,af,sp,ws,ad⟩ n).sp,.slice aZ ws d2,.slice bk (jt ⟨ag,af,sp,ws,ad⟩ n).ad.length d3],.int .i64 (ss ⟨ag,af,sp,ws,ad⟩ n),true])∧jC w.heap.size ah aZ d2 bk d3 ws (jt ⟨ag,af,sp,ws,ad⟩ n).ad∧Below w w ah:=by
 have dQ:=J bw;have cQ:=J bt;have iU:=J n2;have iK:=J n3;clear bw bt n2 n3
 obtain⟨ga,pR,oX,tt⟩:=Fk ax
 have aV:(sp == 0)= false:=beq_eq_false_iff_ne.2 pR;have hlen:=KI ga
 obtain⟨oY,mi,oz⟩:=BD ga pR
 have zf:=(ks.1 ga).t;have tv:=(ks.1 ga).s
 obtain⟨au,al,aP⟩:=tQ.1 mi
 have kl:=Ix (xs:=ad) (m:=sp);have yX:=(ks.1 ga).ord
 obtain⟨⟨dA,st,cm⟩,kn⟩ :∃x,ej ad sp= x:=⟨_,rfl⟩
 simp only at oz al aP yX
 rw [kn] at oz al aP kl
 simp only at oz al aP kl zf tv
 have MA:=kn
 subst kl
 obtain⟨u,hu⟩ :∃u,u= (if n < af - cm then n else af - cm):=⟨_,rfl⟩
 have yD:ss ⟨ag,af,dA,ws,ad⟩ n= u:=by simp [ss,kn,hu]
 have agT:0≤u∧u≤af - cm:=by rw [hu];split <;> omega
 have Df:qH ⟨ag,af,dA,ws,ad⟩ n=⟨dA,st,cm + u⟩:=by simp [qH,kn,yD]
 rw [yD]
 have bo:Hid (gd ag af dA ws ad= true):=J ga;have hT:Hid (eT n 1 3600= true):=J (qt.2 ⟨oX,tt⟩);have lr:=J kn;have Cd:=J Df;have JK:=J hu
 have Mz:ad.length≤1048574:=by simp only at hlen;omega
 have Et:(eW ad ⟨dA,st,cm + u⟩).length≤1048575:=by have:=Oa ad ⟨dA,st,cm + u⟩;omega
 have Eu:ej (eW ad ⟨dA,st,cm + u⟩) dA=⟨dA,st,cm + u⟩:=by rw [BP dA yX,if_pos rfl]
 have FX:=J Eu;have JJ:=J Et;clear ga ax oY mi au kn hlen MA yX Df Eu Et pR hu yD oX tt
 go_in
 go_upto_region 1 with fail
 refine fe fun aG au ai U=>?_
 have I:=au;have aC:=ai.aM
 obtain⟨z0,bW,z2,z3,z4⟩:=U.aM
 have fQ:=U.lt
 go_wp2_with fail
 refine (lh ag af dA an ws c2 ao c3 ad h2 h3 cp _ bo.out _ (dQ.out.ae (aj I az)) (cQ.out.ae (aj I az))).mono ?_
 rintro e aJ ⟨rfl,aL⟩
 have al:=be aG aL;replace I:=aj I al;replace ai:=ai.to al;clear aC;have aC:=ai.aM;replace U:=U.to al;clear z0 bW z2 z3 z4
 obtain⟨z0,bW,z2,z3,z4⟩:=U.aM
 go_wp2_with fail
 refine (iX n 1 3600 _ hT.out _).mono ?_
 rintro e w0 ⟨rfl,h0⟩
 rw [h0]
 clear h0 w0;have uX:=al.size
 go_upto_region 3 with fail
 have afb:=I
 obtain⟨Jg,RL⟩ :∃X:World→Prop,∀V,X V↔(Below w w V∧aB V (w.heap.size) 41 #[ag,af,dA,.slice an ws c2,.slice ao ad c3]):=⟨_,fun _=>Iff.rfl⟩
 have qK:=J RL;clear RL
 haveI:Nonempty (cH Jg):=⟨⟨aJ,((qK.out _).2 ⟨I,ai⟩)⟩⟩
 clear aC;clear z0 bW z2 z3 z4;have aC:=aB.jH (fun K:cH Jg=>((qK.out _).1 K.holds).2)
 go_wp2
 refine wF (anq ag af dA st cm ws ad) Jg [([0],1),([2,3,4],5),([],6),([],7)] [] [([],8),([],9)] [] (by kernel_rfl) (by kernel_rfl) ((qK.out _).2 ⟨I.drew,ai⟩) (fun W eF h k=>((qK.out _).2 ⟨((qK.out _).1 h).1.trans (k.mono ((qK.out _).1 h).1.size),((qK.out _).1 h).2.ae k ((qK.out _).1 h).2.lt⟩)) ?_
 intro bl
 refine hI (some 25) rfl (.agg #[ag,af,dA,.slice (bl 1).1.1 ws.length (bl 1).1.2,.slice (some ⟨(bl 1).2.1,0,none⟩) ad.length (bl 1).2.2]) rfl fun hz eb=>?_
 change wpQuiet _ _ _ _ (_ ::[]) _
 repeat (go_big_quiet_step (fail))
 refine wpQuiet_nil ?_
 refine⟨fun k fq=>?_,eb _ ?_⟩
 ·change wpList _ _ _ (_ ::[]) _ _
  go_wp2_with fail
  refine (EM ag af dA an c2 ws ao c3 ad h2 h3 iU.out iK.out _ (dQ.out.ae ((qK.out _).1 k.holds).1) (cQ.out.ae ((qK.out _).1 k.holds).1)).mono ?_
  rintro e mG ⟨aZ,d2,g3,d3,rfl,di,fL⟩
  go_wp2
  exact hA ⟨((aZ,d2),g3,d3),rfl,fL,di⟩
 simp only [Act.put]
 go_simp
 refine hI (some 29) rfl (.agg #[dA,st,cm]) rfl fun hz eb=>?_
 change wpQuiet _ _ _ _ (_ ::_ ::_ ::[]) _
 repeat (go_big_quiet_step (fail))
 refine wpQuiet_nil ?_
 refine⟨fun k fq=>?_,eb _ ?_⟩
 ·change wpList _ _ _ (_ ::[]) _ _
  go_wp2_with fail
  refine (wA ag af dA an ws.length c2 ao c3 ad h3 dA ⟨dA,st,cm⟩ lr.out _ (cQ.out.ae ((qK.out _).1 k.holds).1)).mono ?_
  rintro e mG ⟨rfl,fL⟩
  go_wp2
  exact hA ⟨((none,0),0,0),rfl,fL,trivial⟩
 simp only [Act.put]
 go_simp
 refine hI (some 7) rfl (.pointer (some ⟨(bl 6).2.1,0,none⟩)) rfl fun hz eb=>?_
 change wpQuiet _ _ _ _ ([]) _
 refine wpQuiet_nil ?_
 refine⟨fun k fq=>?_,eb _ ?_⟩
 ·change wpList _ _ _ (_ ::[]) _ _
  go_wp2
  exact hA ⟨((none,0),k.world.heap.size,0),rfl,bT _ _,rfl,aB.new _ _ _⟩
 simp only [Act.put]
 go_simp
 refine hI (some 8) rfl (.pointer (some ⟨(bl 7).2.1,0,none⟩)) rfl fun hz eb=>?_
 change wpQuiet _ _ _ _ ([]) _
 refine wpQuiet_nil ?_
 refine⟨fun k fq=>?_,eb _ ?_⟩
 ·change wpList _ _ _ (_ ::[]) _ _
  go_wp2
  exact hA ⟨((none,0),k.world.heap.size,0),rfl,bT _ _,rfl,aB.new _ _ _⟩
 simp only [Act.put]
 go_simp
 refine qJ ?_
 change wpQuiet _ _ _ _ ([]) _
 refine wpQuiet_nil ?_
 intro cN V W aU bL
 have Le:jC (cN 1).heap.size (V 1) (bl 1).1.1 (bl 1).1.2 (some ⟨(bl 1).2.1,0,none⟩) (bl 1).2.2 ws ad:=aU.post 1 (by simp)
 obtain⟨SN,KV⟩ :(cN 6).heap.size= (bl 6).2.1∧aB (V 6) (bl 6).2.1 41 #[(0:Int),(0:Int),(0:Int),.slice none 0 0,.slice none 0 0]:=aU.post 6 (by simp)
 obtain⟨SO,GR⟩ :(cN 7).heap.size= (bl 7).2.1∧aB (V 7) (bl 7).2.1 214 #[(0:Int),(0:Int),(0:Int)]:=aU.post 7 (by simp)
 have eO:aJ.heap.size≤(bl 6).2.1:=SN ▸ (aU.lN 6 (by simp)).size;have gG:aJ.heap.size≤(bl 7).2.1:=SO ▸ (aU.lN 7 (by simp)).size
 have LM:(bl 7).2.1≠(bl 1).2.1:=by
  have a1:=aU.apart 1 (by simp) 7 (by simp) (by decide);have a2:=Le.fO.lt (bl 1).2.1 rfl;have a3:=GR.lt
  omega
 have di:=(Le.bm (aU.bm 1 (by simp))).base (B':=aJ.heap.size) (aU.lN 1 (by simp)).size;have aR:=KV.ae (aU.bm 6 (by simp)) KV.lt;have bH:=GR.ae (aU.bm 7 (by simp)) GR.lt;clear aC;have bN:Below aJ aJ W:=aj az (aU.whole 1 (by simp)).oM;replace I:=aj I bN;replace ai:=ai.to bN;have aC:=ai.aM;replace U:=U.to bN
 obtain⟨z0,bW,z2,z3,z4⟩:=U.aM
 clear aU Le SN KV SO GR bL
 generalize bl 1= dq at *
 generalize bl 6= zG at *
 generalize bl 7= Nw at *
 obtain⟨⟨aZ,d2⟩,g3,d3⟩:=dq
 obtain⟨_,x,_⟩:=zG
 obtain⟨_,s,_⟩:=Nw
 simp only at di aR bH eO gG LM
 have yQ:s≠g3:=LM;clear LM
 have zi:x≠s:=by
  rintro rfl
  unfold aB at aR bH
  rw [aR] at bH
  injection bH with bH
  injection bH with _ h9 _
  exact absurd h9 (by decide)
 have TF:x≠g3:=di.fO.wj aR (by decide)
 have Tv:∀k,(Value.slice aZ ws d2).ownBlock= some k→k≠x∧k≠s:=fun k aD=>by
  obtain⟨_,g,e,cT⟩ :∃(c:Unit) (g:Nat),aZ= some ⟨g,0,none⟩∧g= k:=by
   rcases di.fi.2 with ⟨e1,_⟩ | ⟨bA,cap,cur,e1,_⟩
   ·injection e1 with e2 _ _;subst e2;cases aD
   ·injection e1 with e2 _ _;subst e2;exact⟨(),bA,rfl,Option.some.inj aD⟩
  subst cT
  have JV:=di.fi
  rw [e] at JV
  exact⟨fun e9=>JV.wj aR (by decide) e9.symm,fun e9=>JV.wj bH (by decide) e9.symm⟩
 have CA:=J Tv;clear Tv;have bI:=di.fi;have bD:=di.fO;clear di;have bF:=aR.aM;have bZ:=bH.cq
 refine gr fun fT dv=>?_
 change wpQuiet _ _ _ _ ([]) _
 refine wpQuiet_nil ?_
 change wpList _ _ _ (_ ::[]) _ _
 have KD:=aR.iE
 go_wp2
 clear KD
 have ez:∀k,(Value.slice aZ ws d2).ownBlock= some k→¬k= x:=fun k aD=>(CA.out k aD).1
 have dG:∀k,(Value.slice g3 ad d3).ownBlock= some k→¬k= x:=fun k aD e=>TF (by have:g3= k:=Option.some.inj aD;omega)
 clear aC z0 bW z2 z3 z4 bF bZ
 refine gF 0 fun Ay hS=>?_
 replace I:=hS.aH I;replace ai:=hS.dV ai;replace U:=hS.dV U;replace aR:=hS.hV aR;replace bH:=hS.dV bH;replace bI:=bI.bY hS ez;replace bD:=bD.bY hS dG;have aC:=ai.aM
 obtain⟨z0,bW,z2,z3,z4⟩:=U.aM
 have bF:=aR.aM;have bZ:=bH.cq;clear ez dG
 refine gw (((qK.out _).2 ⟨I,ai⟩)) (dv _ _ ?_)
 refine gr fun fT dv=>?_
 change wpQuiet _ _ _ _ ([]) _
 refine wpQuiet_nil ?_
 change wpList _ _ _ (_ ::[]) _ _
 obtain⟨aey,KC,Dl⟩:=bH.mQ
 go_wp2
 clear aey KC Dl
 have ez:∀k,(Value.slice aZ ws d2).ownBlock= some k→¬k= s:=fun k aD=>(CA.out k aD).2
 have dG:∀k,(Value.slice g3 ad d3).ownBlock= some k→¬k= s:=fun k aD e=>yQ (by have:g3= k:=Option.some.inj aD;omega)
 clear aC z0 bW z2 z3 z4 bF bZ
 refine su 0 fun nK fy=>?_
 replace I:=fy.aH I;replace ai:=fy.dV ai;replace U:=fy.dV U;replace aR:=fy.dV aR;replace bH:=fy.uh bH;replace bI:=bI.bY fy ez;replace bD:=bD.bY fy dG;have aC:=ai.aM
 obtain⟨z0,bW,z2,z3,z4⟩:=U.aM
 have bF:=aR.aM;have bZ:=bH.cq;clear ez dG
 refine gw (((qK.out _).2 ⟨I,ai⟩)) (dv _ _ ?_)
 refine kD ?_
 change wpQuiet _ _ _ _ ([]) _
 refine wpQuiet_nil ?_
 go_upto_region 5 with fail
 have Th:min n (af - cm)= u:=by
  rw [JK.out]
  by_cases aH:n < af - cm
  ·rw [if_pos aH];omega
  ·rw [if_neg aH];omega
 rw [Th]
 clear Th
 have rp:IntKind.i64.wrap (cm + u)= cm + u:=by rw [IntKind.wrap_i64];omega
 have Dl:=bH.frozen 2
 go_upto_region 6 with fail
 clear Dl
 have ez:∀k,(Value.slice aZ ws d2).ownBlock= some k→¬k= s:=fun k aD=>(CA.out k aD).2
 have dG:∀k,(Value.slice g3 ad d3).ownBlock= some k→¬k= s:=fun k aD e=>yQ (by have:g3= k:=Option.some.inj aD;omega)
 clear aC z0 bW z2 z3 z4 bF bZ
 refine mF 2 fun vv hH=>?_
 replace I:=hH.aH I;replace ai:=hH.dV ai;replace U:=hH.dV U;replace aR:=hH.dV aR;replace bH:=hH.NA bH;replace bI:=bI.bY hH ez;replace bD:=bD.bY hH dG;have aC:=ai.aM
 obtain⟨z0,bW,z2,z3,z4⟩:=U.aM
 have bF:=aR.aM;have bZ:=bH.cq;clear ez dG rp;have sx:=I.size;have aqL:=aR.lt;have jm:=bI.apart bD (by decide);have Bf:=(bD.lt g3 rfl).1;have aqj:w.heap.size≤aJ.heap.size:=afb.size
 have Hp:aJ.heap.size≤vv.heap.size:=by omega
 have cc:=J aR;have ji:=J bD;have hs:=J bI;have Cl:=J ai;have dh:=J U;have FW:=J bH;have oe:=J jm;have ya:=J I;clear aR bD bI ai U jm bF aC z0 bW z2 z3 z4
 go_wp2_with fail
 refine (Xd aJ.heap.size x ag af dA (.slice aZ ws d2) g3 d3 ad (by omega) dA st (cm + u) ⟨dA,st,cm + u⟩ rfl _ eO Hp TF cc.out ji.out).mono ?_
 rintro e ju ⟨rfl,g5,c5,Fy,ha,hN,rX,Sc,aqe⟩
 have RT:=(Cl.out.kb ha (by intro e;have:=Option.some.inj e;omega)).kb hN (by intro e;have:=Option.some.inj e;omega);have rY:=(dh.out.kb ha (by intro e;have:=Option.some.inj e;omega)).kb hN (by intro e;have:=Option.some.inj e;omega);have Lj:=(FW.out.kb ha (by intro e;exact yQ (Option.some.inj e))).kb hN (by intro e;exact zi (Option.some.inj e).symm)
 have nO:=(hs.out.kept ha (fun k aD e=>oe.out k aD (by rw [e];rfl))).kept hN (fun k aD e=>(CA.out k aD).1 (Option.some.inj e));have Ps:Below w w ju:=(ya.out.grown ha (by omega) (fun k aD=>by have:=Option.some.inj aD;omega)).grown hN (by have:=ha.size;omega) (fun k aD=>by have:=Option.some.inj aD;omega);clear ha hN bH bZ;replace I:=Ps;clear Ps
 have aC:=RT.aM
 obtain⟨z0,bW,z2,z3,z4⟩:=rY.aM
 have bF:=rX.aM;have bZ:=Lj.cq;have aqK:=rY.lt;have aqJ:=Lj.lt;have bI:=nO;have bD:=Sc;clear nO Sc
 by_cases tn:cm + u= af
 ·have vN:(cm + u == af)= true:=beq_iff_eq.2 tn
  have e1:(jt ⟨ag,af,dA,ws,ad⟩ n).sp= 0∧(jt ⟨ag,af,dA,ws,ad⟩ n).ad= eW (eW ad ⟨dA,st,cm + u⟩) ⟨dA,st + 1,cm + u⟩:=by
   exact aaB
  have nG:=J e1;have acF:=J rX;have Jz:=J bD;have acg:=J bI;have acH:=J rY;have abC:=J (bI.apart bD (by decide));have yb:=J I;have apR:=(bD.lt g5 rfl).1;clear e1 tn
  go_upto_region 8 with fail
  clear rX bD bI rY RT Lj aC z0 bW z2 z3 z4 bF bZ
  go_wp2_with fail
  refine (Yf aJ.heap.size x ag af dA aZ ws.length d2 g5 c5 (eW ad ⟨dA,st,cm + u⟩) JJ.out st (cm + u) FX.out (by omega) (by omega) _ eO (by omega) acF.out Jz.out).mono ?_
  rintro e nE ⟨rfl,g7,um,wr,ha,hN,te,pJ,aqf⟩
  have ra:=(acH.out.kb ha (by intro e;have:=Option.some.inj e;omega)).kb hN (by intro e;have:=Option.some.inj e;omega);have nO:=(acg.out.kept ha (fun k aD e=>abC.out k aD (by rw [e];rfl))).kept hN (fun k aD e=>(CA.out k aD).1 (Option.some.inj e));have yc:Below w w nE:=(yb.out.grown ha (by omega) (fun k aD=>by have:=Option.some.inj aD;omega)).grown hN (by have:=ha.size;omega) (fun k aD=>by have:=Option.some.inj aD;omega)
  replace I:=yc;clear yc
  obtain⟨z0,bW,z2,z3,z4⟩:=ra.aM
  have bF:=te.aM;have bI:=nO;have bD:=pJ;clear nO pJ;have apq:=ra.frozen 0;have apr:=ra.frozen 1;have aps:=ra.frozen 2;have apt:=ra.frozen 3;have apu:=ra.frozen 4
  go_wp2
  clear z0 bW z2 z3 z4 bF
  refine gF 0 fun cD aE=>?_
  replace I:=aE.aH I;replace ra:=aE.hV ra;replace bI:=bI.bY aE (fun k aD=>by first | exact ez k aD | (have:=bI.lt k aD;omega));replace bD:=bD.bY aE (fun k aD=>by first | exact dG k aD | (have:=bD.lt k aD;omega))
  have z0:=ra.aM
  refine bodyPost_ret (v:= .tuple #[.agg #[ag,af,(0:Int),.slice aZ ws d2,.slice g7 (eW (eW ad ⟨dA,st,cm + u⟩) ⟨dA,st + 1,cm + u⟩).length um],.int .i64 u,true]) (by simp [results,Tryz.results260,go_sem,z0]) rfl ?_
  rw [nG.out.1,nG.out.2]
  exact⟨aZ,d2,some ⟨g7,0,none⟩,um,rfl,⟨bI.base (by omega),bD.base (by omega),bI.apart bD (by decide)⟩,I⟩
 ·have vN:(cm + u == af)= false:=beq_eq_false_iff_ne.2 tn
  have e1:(jt ⟨ag,af,dA,ws,ad⟩ n).sp= dA∧(jt ⟨ag,af,dA,ws,ad⟩ n).ad= eW ad ⟨dA,st,cm + u⟩:=by
   exact YC
  have nG:=J e1;clear e1 tn;have apk:=rY.frozen 0;have apl:=rY.frozen 1;have apm:=rY.frozen 2;have apn:=rY.frozen 3;have apo:=rY.frozen 4
  go_wp2
  clear aC z0 bW z2 z3 z4 bF bZ
  refine gF 0 fun cD aE=>?_
  replace I:=aE.aH I;replace rY:=aE.hV rY;replace bI:=bI.bY aE (fun k aD=>by first | exact ez k aD | (have:=bI.lt k aD;omega));replace bD:=bD.bY aE (fun k aD=>by first | exact dG k aD | (have:=bD.lt k aD;omega))
  have z0:=rY.aM
  refine bodyPost_ret (v:= .tuple #[.agg #[ag,af,dA,.slice aZ ws d2,.slice g5 (eW ad ⟨dA,st,cm + u⟩).length c5],.int .i64 u,true]) (by simp [results,Tryz.results260,go_sem,z0]) rfl ?_
  rw [nG.out.1,nG.out.2]
  exact⟨aZ,d2,some ⟨g5,0,none⟩,c5,rfl,⟨bI.base (by omega),bD.base (by omega),bI.apart bD (by decide)⟩,I⟩
end Go.Proofs.YtlaaemmmbodaaaaGreatDoor
