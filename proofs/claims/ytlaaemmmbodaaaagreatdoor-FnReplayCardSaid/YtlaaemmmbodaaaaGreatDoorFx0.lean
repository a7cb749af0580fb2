/- Parts. -/
import Derived.BigQuiet
import Derived.Lib.Hide
import Derived.WalkLawsBesides
import Derived.WalkSpells
import Derived.Laws.AppendOwnNone
import Derived.StillTail
import Derived.Test.YtlaaemmmbodaaaaGreatDoorProg
import Derived.Lib.ItoaNum
set_option maxHeartbeats 16000000
set_option maxRecDepth 100000
set_option linter.all false
namespace Go.Proofs.YtlaaemmmbodaaaaGreatDoor
end Go.Proofs.YtlaaemmmbodaaaaGreatDoor
open Go Go.RowKit Go.Proofs.YtlaaemmmbodaaaaGreatDoor
variable {B id n k sz g B' j e i x y EV ev eU:Nat} {P:Program} {f:FuncId} {args cs c0 aw:Array Value} {v u a0 a1 a2 a3 a4 a5 a6 a7 a8 a9 a10 dD dc dr eb eL gw hN gB vp ui AI:Value} {Q Q':Exit->Act->World->Prop} {a:Act} {l:List Oper} {bm b ah W w0:World} {t t0 t1:TypeId} {vs:List Value} {cG dJ dt mR lP nD z:Prop} {L listed:Array Bool} {eX ga pA:Oper} {s:List (Nat×Nat)} {K:Act->World->Prop} {cT eD:List Nat} {F:Act->Prop}
namespace Go.Proofs.YtlaaemmmbodaaaaGreatDoor
instance aCQ:Coe Int Value:=⟨λx=> .int .i64 x⟩
instance aCS:Coe Nat Value:=⟨λn=> .int .i64 (n:Int)⟩
instance aCT:Coe ByteArray Value:=⟨λx=> .string x⟩
instance aCP:Coe Bool Value:=⟨λx=> .bool x⟩
instance aCO:Coe Nat (Option Addr):=⟨λg=>some ⟨g,0,none⟩⟩
instance aCR {α:Type}:CoeOut (List α) Nat:=⟨List.length⟩
instance aCU:Coe World Nat:=⟨λw=>w.heap.size⟩
def ZJ:=@Bool.false_eq_true
def Zh:=@List.singleton_append
def Zg:=@List.drop_drop
def ZI:=@List.mem_append_right
def Xt:=@Iff.rfl
def Yv:=@List.Pairwise.cons
def ZA:=@Nat.mul_le_mul_right
def Yi:=@List.length_singleton
def Yh:=@List.take_length
def Yf:=@Option.getD_some
def YP:=@List.mem_map
def Yg:=@Option.some.injEq
def YC:=@List.mem_append
def ZL:=@List.flatMap_nil
def Yd:=@List.flatMap_cons
def ZC:=@Array.getD_eq_getD_getElem?
def YF:=@Nat.zero_add
def Yj:=@List.mem_append_left
def YN:=@List.all_eq_true
def YV:=@Array.length_toList
def YM:=@List.pairwise_cons
def Yb:=@List.getElem?_take
def Ya:=@Bool.eq_false_iff
def YY:=@List.mem_iff_getElem?
def YL:=@List.cons_append
def Xw:=@Nat.mul_one
def Xy:=@Nat.zero_mul
def YU:=@ByteArray.size_append
def Xo:=@info_parts
def YJ:=@Bool.not_eq_true'
def ZB:=@Option.isSome_none
def Yw:=@Option.isSome_some
def Yq:=@List.append_nil
def YX:=@List.append_assoc
def Zi:=@Option.map_some
def Xx:=@beq_iff_eq
def YK:=@List.length_cons
def ZS:=@List.length_nil
def ZK:=@List.getElem_mem
def Xh:=@decide_eq_true
def Yu:=@List.take_succ_eq_append_getElem
def Xr:=@Nat.le_trans
def Zb:=@Bool.not_true
def Za:=@Bool.true_and
def YQ:=@List.length_drop
def YZ:=@List.length_map
def YE:=@List.mem_of_getElem?
def YO:=@List.take_of_length_le
def wb:=@List.getElem?_append_right
def Yt:=@List.getElem?_append_left
def Xj:=@List.getElem?_eq_getElem
def Xg:=@List.getElem?_eq_some_iff
def YW:=@Nat.lt_of_lt_of_le
def Xc:=@congrArg
def XX:=@if_pos
def XU:=@if_neg
def YA:=@List.length_take
def Xu:=@List.length_append
def YT:=@List.not_mem_nil
def Xl:=@List.mem_cons
def Xd:=@Nat.zero_le
def YD:=@List.length_eq_zero_iff
def Xe:=@decide_eq_false
def VF:=@wpQuiet_nil
def Xf:=@decide_eq_true_eq
def XY:=@bodyPost_ret
def Xb:=@beq_eq_false_iff_ne
def XW:=@Nat.add_zero
def Wt:=@Below.refl
def Xa:=@Bool.and_eq_true
def XZ:=@Nat.le_refl
def Wx:=@Option.some.inj
theorem KK (h:z:=by omega):z:=h
theorem PV (h:z:=by kernel_rfl):z:=h
theorem WG (h:z:=by decide):z:=h
theorem Xm (h:z:=by first | exact Nat.le_refl _ | omega):z:=h
theorem Wn (h:z:=by simp):z:=h
theorem Xq (h:z:=by simp;omega):z:=h
theorem Ye (h:z:=by simp [av]):z:=h
theorem ZQ (h:z:=by simpa using h):z:=h
theorem Yr (h:z:=by cases h):z:=h
theorem ZX (h:z:=by intro h;cases h):z:=h
theorem ZY (h:z:=by decide +kernel):z:=h
theorem rX (h:z:=by rw [h] at bu;cases bu):z:=h
abbrev QR:=Option Addr
abbrev VU:=ByteArray
instance aHa:CoeFun (Option Addr) (λ_=>Nat->Nat->Value):=⟨Value.slice⟩
instance aHb:CoeFun Nat (λ_=>Nat->Nat->Value):=⟨λg=> .slice (some ⟨g,0,none⟩)⟩
instance aHc:Coe Unit Value:=⟨λ_=> .slice none 0 0⟩
end Go.Proofs.YtlaaemmmbodaaaaGreatDoor
namespace Go.RowKit
theorem Hid.o {p:Prop} (h:Hid p):p:=h.out
end Go.RowKit
namespace Go.Proofs.YtlaaemmmbodaaaaGreatDoor
inductive aIN|x
def Rd:aIN:=.x
instance aIP:CoeFun aIN (λ_=>FuncId->Array Value->World->(Ending->World->Prop)->Prop):=⟨λ_=>Calls Go.Proofs.Tryz.prog⟩
instance aIS {T:Type}:CoeSort (List T) Prop:=⟨λx=>x.length<=1048576⟩
structure aD (B:Nat) (w:World) where
  world:World
  ad:Below B w world
instance {B:Nat} {w:World}:Nonempty (aD B w):=⟨⟨w,Below.refl _ _⟩⟩
theorem aD.cell {w:World} (k:aD B w) {p:Addr} (h:p.block < B):k.world.cell? p= w.cell? p:=k.ad.cell h
theorem aD.frozen {w:World} (k:aD B w) {p:Addr} (h:p.block < B):k.world.frozen? p= w.frozen? p:=k.ad.frozen h
theorem aD.call {w:World} (k:aD B w) (bz:B<=w.heap.size)
 (h:Calls P f args k.world λe ah=>e= .returned v/\Below k.world k.world ah):
    Calls P f args k.world λe fG=>e= .returned v/\∃jx:aD B w,fG= jx.world:=
  h.mono λ_ ah ⟨he,aB⟩=>⟨he,⟨ah,k.ad.trans (aB.mono (Xr bz k.ad.size))⟩,rfl⟩
theorem aD.same {w:World} (k:aD B w)
 (h:Calls P f args k.world λe ah=>e= .returned v/\ah= k.world):
    Calls P f args k.world λe fG=>e= .returned v/\∃jx:aD B w,fG= jx.world:=
  h.mono λ_ _ ⟨he,aB⟩=>⟨he,k,aB⟩
theorem amc (h:z:=by
 funext a';exact propext ⟨λh ah ⟨k,ax⟩=>ax ▸ h k,λh k=>h _ ⟨k,rfl⟩⟩):z:=h
theorem eQ {w:World} (hm:P.follows .mixedOrders= true) (bz:Region.lexB .any l.toArray= true)
 (h:wpQuiet P l.toArray (λah=>∃k:aD w w,ah= k.world) (λa'=>∀k:aD w w,Q .normal a' k.world) l a):(Code.region id l.toArray true).wp P Q a w:=
  wp_region_quiet (C:=λah=>∃k:aD w w,ah= k.world) hm bz ⟨⟨w.drew,(Wt _ _).drew⟩,rfl⟩
    (by
      have e:(λa':Act=>∀k:aD w w,Q .normal a' k.world)= (λa'=>∀ah,(∃k:aD w w,ah= k.world)->Q .normal a' ah):=by
        exact amc
      rw [e] at h;simpa using h)
theorem ai {w aI:World} (h:Below w w bm) (k:Below bm bm aI):Below w w aI:=h.trans (k.mono h.size)
def iv (p:Nat->Bool) (n:Nat):Bool:=(List.range n).all p
theorem aph (p:Nat->Bool) (n:Nat):iv p (n+1)= (iv p n && p n):=by simp [iv,List.range_succ]
theorem qg {p:Nat->Bool} (h:iv p n= true) (aS:p n= true):iv p (n+1)= true:=by rw [aph,h,aS];rfl
theorem yM {p:Nat->Bool} (h:k < n) (aS:p k= false):iv p n= false:=by
  simp only [iv,List.all_eq_false,List.mem_range];exact⟨k,h,by simp [aS]⟩
theorem oM {p:Nat->Bool}:iv p n= true↔∀k,k < n->p k= true:=by simp [iv]
theorem fe {a b:Bool} (h:a= b):Ending.returned a= .returned b:=by rw [h]
theorem Km {k:IntKind} {a b:Int} (h:a= b):Ending.returned (.int k a)= .returned (.int k b):=by rw [h]
def aX {T:Type} (sz:Nat) (f:T->List Value) (w:World) (A:Option Addr) (xs:List T):Prop:=
  0 < xs.length->∃b off,A= some ⟨b,off,none⟩/\b < w.heap.size/\∀i x,xs[i]? =some x->∀j u,(f x)[j]? =some u->w.cell? ⟨b,off + i * sz + j,none⟩ =some u
theorem aX.nil {T:Type} {f:T->List Value} {w:World} {A:QR}:aX sz f w A []:=λh=>absurd h Wn
theorem aX.ad {T:Type} {f:T->List Value} {w:World} {A:QR} {xs:List T} (h:aX sz f w A xs) (aB:Below w w ah):aX sz f ah A xs:=λbq=>by
  obtain⟨b,off,bl,bC,aN⟩:=h bq
  exact⟨b,off,bl,YW bC aB.size,λi x av j u hu=>(aB.cell (p:=⟨b,_,none⟩) bC).trans (aN i x av j u hu)⟩
theorem aX.at_ {T:Type} {f:T->List Value} {w wr:World} {A:QR} {xs:List T} (h:aX sz f w A xs) (aB:Below w w wr) (ax:k < xs.length):
    ∃b off x,A= some ⟨b,off,none⟩/\b < wr.heap.size/\xs[k]? =some x/\∀j u,(f x)[j]? =some u->∀K:aD wr wr,K.world.cell? ⟨b,off + k * sz + j,none⟩ =some u:=by
  obtain⟨b,off,bl,bC,aN⟩:=h KK
  have uI:=YW bC aB.size
  exact⟨b,off,xs[k],bl,uI,Xj ax,λj u hu K=>(K.cell (p:=⟨b,_,none⟩) uI).trans ((aB.cell (p:=⟨b,_,none⟩) bC).trans (aN k _ (Xj ax) j u hu))⟩
def aD.self (w:World):aD w.heap.size w:=⟨w,Below.refl _ _⟩
theorem bP (w:World) (a:Obj):Below w w (w.alloc a):=(Wt _ _).alloc (XZ _) _
theorem IU (w:World) (a b:Obj):Below w w ((w.alloc a).alloc b):=(bP w a).alloc Wn _
theorem acq (w:World) (a b c:Obj):Below w w (((w.alloc a).alloc b).alloc c):=(IU w a b).alloc Xq _
theorem azm (t e:TypeId) (i:TypeInfo) (z:Value) (cJ:P.underlying t= some (.slice e)) (bo:P.info? e= some i) (cF:i.zero= some z)
 (agl gn:IntKind) (n c:Nat) (vC:n<=c) (zm:i.bytes * c<=281474976710656) (h63:c<=9223372036854775807) (w:World):
    (Instr.makeSlice t (.int agl (n:Int)) (.int gn (c:Int))).run P w= .ok (.slice w n c) (w.alloc (.cells (madeCells z.cells (c * i.size)) e)):=by
  have aB:(i.bytes:Int) * (c:Int)<=281474976710656:=by
    have h:((i.bytes * c:Nat):Int)<=281474976710656:=KK
    rwa [Int.natCast_mul] at h
  have bu:=run_make (P:=P) w t e i z cJ bo cF agl gn n c KK KK aB KK
  simp only [Int.toNat_natCast] at bu
  exact bu
def ay (w:World) (g:Nat) (t:TypeId) (cs:Array Value):Prop:=w.heap[g]? =some (.cells cs t (0,0))
section
variable {w ah:World} {g:Nat} {t:TypeId} {cs:Array Value}
theorem ay.lt (h:ay w g t cs):g < w.heap.size:=by
  rcases Nat.lt_or_ge g w with bC | AZ
  . exact bC
  . unfold ay at h;rw [Array.getElem?_eq_none AZ] at h;cases h
theorem ay.cell (h:ay w g t cs) (i:Nat):w.cell? ⟨g,i,none⟩ =cs[i]?:=cell_of_row w g i cs t (0,0) h
theorem ay.frozen (h:ay w g t cs) (i:Nat):w.frozen? ⟨g,i,none⟩ =false:=by
  unfold ay at h
  simp [World.frozen?,h]
theorem ay.new (w:World) (t:TypeId) (cs:Array Value):ay (w.alloc (.cells cs t)) w t cs:=heap_alloc_new w _
theorem Xi {w:World} {t:TypeId} {cs:Array Value} {Q:World->Prop} (h:∀W,Below w.heap.size w W->ay W w.heap.size t cs->Q W):Q (w.alloc (.cells cs t)):=h _ (bP _ _) (ay.new _ _ _)
theorem ay.alloc (h:ay w g t cs) (o:Obj):ay (w.alloc o) g t cs:=(Below.heap_alloc w o g h.lt).trans h
theorem ay.ey (h:ay w g t cs) (i:Nat) (u:Value):ay (w.setCell ⟨g,i,none⟩ u) g t (cs.setIfInBounds i u):=by
  unfold ay at h ⊢
  simp [World.setCell,Array.getElem?_modify,h]
theorem ay.ad (h:ay w g t cs) (aB:Below B w ah) (cy:g < B):ay ah g t cs:=(aB.block g cy).trans h
end
def Own {T:Type} (B:Nat) (sz:Nat) (f:T->List Value) (t:TypeId) (w:World) (A:Option Addr) (xs:List T):Prop:=
  ∃g cs,A= some ⟨g,0,none⟩/\B<=g/\ay w g t cs/\∀i x,xs[i]? =some x->∀j u,(f x)[j]? =some u->cs[i * sz + j]? =some u
theorem Own.ej {T:Type} {f:T->List Value} {w:World} {A:QR} {xs:List T} (h:Own B sz f t w A xs):aX sz f w A xs:=λ_=>by
  obtain⟨g,cs,bl,_,aB,aN⟩:=h
  exact⟨g,0,bl,aB.lt,λi x av j u hu=>by rw [aB.cell,YF];exact aN i x av j u hu⟩
def Fz {T:Type} (sz:Nat) (f:T->List Value) (xs:List T) (k:Nat) (cs:Array Value):Prop:=
  ∀i x,i < k->xs[i]? =some x->∀j u,(f x)[j]? =some u->cs[i * sz + j]? =some u
theorem Fz.zero {T:Type} {f:T->List Value} {xs:List T}:Fz sz f xs 0 cs:=λ_ _ h=>absurd h (Nat.not_lt_zero _)
def Bw:Array Value->Nat->List Value->Array Value
  | cs,_,[]=>cs
  | cs,i,u ::us=>Bw (cs.setIfInBounds i u) (i + 1) us
def setCells:World->Nat->Nat->List Value->World
  | w,_,_,[]=>w
  | w,g,i,u ::us=>setCells (w.setCell ⟨g,i,none⟩ u) g (i + 1) us
theorem ay.Bw:∀(i:Nat) (us:List Value) {w:World} {cs:Array Value},ay w g t cs->ay (setCells w g i us) g t (Go.Proofs.YtlaaemmmbodaaaaGreatDoor.Bw cs i us)
  | _,[],_,_,h=>h
  | i,u ::us,_,_,h=>ay.Bw (i + 1) us (h.ey i u)
theorem aIE:∀(us:List Value) (cs:Array Value) (i j:Nat),j < i->(Bw cs i us)[j]? =cs[j]?
  | [],_,_,_,_=>rfl
  | u ::us,cs,i,j,h=>by rw [Bw,aIE us _ _ _ KK,Array.getElem?_setIfInBounds_ne KK]
theorem ajh:∀(us:List Value) (cs:Array Value) (i j:Nat) (u:Value),i + us.length<=cs.size->us[j]? =some u->(Bw cs i us)[i + j]? =some u
  | [],_,_,_,_,_,h=>by simp at h
  | v ::us,cs,i,0,u,aP,h=>by
    simp only [YK] at aP
    simp at h;subst h
    rw [Bw,aIE us _ _ _ KK,XW,Array.getElem?_setIfInBounds_self_of_lt KK]
  | v ::us,cs,i,j + 1,u,aP,h=>by
    simp only [YK] at aP
    simp at h
    rw [Bw,show i + (j + 1)= (i + 1) + j from by omega]
    exact ajh us _ _ j u Xq h
theorem Fz.put {T:Type}  {f:T->List Value} {xs:List T}   {x:T} (h:Fz sz f xs k cs) (av:xs[k]? =some x) (aP:k * sz + (f x).length<=cs.size)
    (hf:∀y,(f y).length= sz:=by intro y;rfl):Fz sz f xs (k + 1) (Go.Proofs.YtlaaemmmbodaaaaGreatDoor.Bw cs (k * sz) (f x)):=by
  intro i y bo hy j u hu
  have cc:j < sz:=by have:=hf y;have h2:=(Xg.1 hu).1;omega
  by_cases he:i= k
  . subst he
    obtain rfl:x= y:=Wx (av.symm.trans hy)
    exact ajh _ _ _ _ _ aP hu
  . rw [aIE _ _ _ _ (by
      have:i + 1<=k:=KK
      have:=ZA sz this
      rw [Nat.add_mul,Nat.one_mul] at this;omega)]
    exact h i y KK hy j u hu
theorem Fz.all {T:Type} {f:T->List Value} {xs:List T} (h:Fz sz f xs xs.length cs):∀i x,xs[i]? =some x->∀j u,(f x)[j]? =some u->cs[i * sz + j]? =some u:=
  λi x av=>h i x (Xg.1 av).1 av
theorem boxed (w:World) (cs:Array Value) (t:TypeId) (j:Nat) (u:Value) (h:cs[j]? =some u) (K:aD (w.alloc (.cells cs t)).heap.size (w.alloc (.cells cs t))):K.world.cell? ⟨w,j,none⟩ =some u:=
  (K.cell (p:=⟨w,j,none⟩) Wn).trans (((ay.new w t cs).cell j).trans h)
def aD.drop {w bm:World} (K:aD bm.heap.size bm) (h:Below w.heap.size w bm):aD w.heap.size w:=⟨K.world,ai h K.ad⟩
theorem ay.yR {w:World} (h:ay w g t cs) {p:Addr} (aS:g≠p.block) (u:Value):ay (w.setCell p u) g t cs:=(Below.heap_setCell w p u g aS).trans h
theorem ay.HB (w:World) (a:Obj) (t:TypeId) (cs:Array Value):ay ((w.alloc a).alloc (.cells cs t)) (w.heap.size + 1) t cs:=by
  have h:=ay.new (w.alloc a) t cs
  rwa [show (w.alloc a).heap.size= w.heap.size + 1 from by simp] at h
theorem ay.JZ (w:World) (a b:Obj) (t:TypeId) (cs:Array Value):ay (((w.alloc a).alloc b).alloc (.cells cs t)) (w.heap.size + 1 + 1) t cs:=by
  have h:=ay.new ((w.alloc a).alloc b) t cs
  rw [show ((w.alloc a).alloc b).heap.size= w.heap.size + 1 + 1 from by simp] at h
  exact h
theorem ay.Ok (w:World) (a b c:Obj) (t:TypeId) (cs:Array Value):ay ((((w.alloc a).alloc b).alloc c).alloc (.cells cs t)) (w.heap.size + 1 + 1 + 1) t cs:=by
  have h:=ay.new (((w.alloc a).alloc b).alloc c) t cs
  rw [show (((w.alloc a).alloc b).alloc c).heap.size= w.heap.size + 1 + 1 + 1 from by simp] at h
  exact h
def bn {T:Type} (B:Nat) (e:TypeId) (sz:Nat) (f:T->List Value) (w:World) (v:Value) (xs:List T):Prop:=w.ownsRow B e sz v xs.length (xs.flatMap f)
section
variable {T:Type} {B:Nat} {e:TypeId} {sz:Nat} {f:T->List Value} {w ah:World} {v:Value} {xs:List T}
theorem nQ (hf:∀y,(f y).length= sz):∀xs:List T,(xs.flatMap f).length= xs.length * sz
  | []=>by simp
  | x ::xs=>by rw [Yd,Xu,nQ hf xs,hf,YK,Nat.add_mul,Nat.one_mul,Nat.add_comm]
theorem Ek (hf:∀y,(f y).length= sz):∀(xs:List T) (i:Nat) (x:T),xs[i]? =some x->∀(j:Nat) (u:Value),(f x)[j]? =some u->(xs.flatMap f)[i * sz + j]? =some u
  | [],_,_,h,_,_,_=>by simp at h
  | y ::xs,0,x,h,j,u,hu=>by
    simp at h;subst h
    rw [Yd,Yt (by have:=(Xg.1 hu).1;omega),Xy,YF];exact hu
  | y ::xs,i + 1,x,h,j,u,hu=>by
    simp at h
    have h2:=Ek hf xs i x h j u hu
    rw [Yd,wb (by rw [hf,Nat.add_mul];omega),hf,show (i + 1) * sz + j - sz= i * sz + j from by rw [Nat.add_mul,Nat.one_mul];omega]
    exact h2
theorem QE (hf:∀y,(f y).length= sz) (xs:List T) (k:Nat) (u:Value) (h:(xs.flatMap f)[k]? =some u):∃i j x,xs[i]? =some x/\(f x)[j]? =some u/\k= i * sz + j:=by
  induction xs generalizing k with
  | nil=>simp at h
  | cons y xs eR=>
    rw [Yd] at h
    by_cases ax:k < (f y).length
    . rw [Yt ax] at h
      exact⟨0,k,y,rfl,h,by omega⟩
    . rw [wb KK] at h
      obtain⟨i,j,x,av,cc,e⟩:=eR _ h
      exact⟨i + 1,j,x,by simpa using av,cc,by rw [Nat.add_mul,Nat.one_mul];have:=hf y;omega⟩
theorem bn.nil:bn B e sz f w (.slice none 0 0) []:=World.ownsRow_nil _ _ _ _
theorem bn.form (h:bn B e sz f w v xs) (hf:∀y,(f y).length= sz):∃A c,v= .slice A xs.length c/\xs.length<=c/\aX sz f w A xs/\(A= none->xs= []):=by
  obtain⟨aT,h⟩:=h
  rcases h with ⟨rfl,h0⟩ | ⟨g,cap,cur,rfl,bz,gl,vC,pV,cK,Bg⟩
  . have:xs= []:=YD.1 h0
    subst this
    exact⟨none,0,rfl,XZ _,aX.nil,λ_=>rfl⟩
  . refine⟨some ⟨g,0,none⟩,cap,rfl,vC,λ_=>⟨g,0,rfl,(Array.getElem?_eq_some_iff.1 gl).1,λi x av j u hu=>?_⟩,λh=>by cases h⟩
    have h1:=Ek hf xs i x av j u hu
    rw [<- Bg,Yb] at h1
    split at h1
    . rw [YF,cell_of_row w g _ cur e (0,0) gl];simpa using h1
    . cases h1
theorem bn.ej {A:QR} {c:Nat} (h:bn B e sz f w (A n c) xs) (hf:∀y,(f y).length= sz:=by intro y;rfl):aX sz f w A xs:=by
  obtain⟨mg,dq,az,_,bB,_⟩:=h.form hf
  injection az with h1 h2 h3;subst h1;exact bB
theorem bn.ad (h:bn B e sz f w v xs) (aB:Below B' w ah) (bC:∀k,v.ownBlock= some k->k < B'):bn B e sz f ah v xs:=by
  refine⟨h.1,?_⟩
  rcases h.2 with bq | ⟨g,cap,cur,rfl,bz,gl,r⟩
  . exact .inl bq
  . exact .inr ⟨g,cap,cur,rfl,bz,by rw [aB.block g (bC g rfl)];exact gl,r⟩
theorem bn.lt (h:bn B e sz f w v xs):∀k,v.ownBlock= some k->B<=k/\k < w.heap.size:=World.ownsRow.lt h
theorem bn.aK (h:bn B e sz f w v xs) (aB:Below w w ah):bn B e sz f ah v xs:=h.ad aB (λk ax=>(h.lt k ax).2)
theorem bn.alloc (h:bn B e sz f w v xs) (o:Obj):bn B e sz f (w.alloc o) v xs:=World.ownsRow.alloc h o
theorem bn.kept {row:Option Nat} (h:bn B e sz f w v xs) (cy:w.grownBy ah row) (ew:∀k,v.ownBlock= some k->some k≠row):bn B e sz f ah v xs:=by
  refine⟨h.1,?_⟩
  rcases h.2 with bq | ⟨g,cap,cur,rfl,bz,gl,r⟩
  . exact .inl bq
  . exact .inr ⟨g,cap,cur,rfl,bz,by rw [cy.block g (Array.getElem?_eq_some_iff.1 gl).1 (ew g rfl)];exact gl,r⟩
theorem bn.base (h:bn B e sz f w v xs) (bz:B'<=B):bn B' e sz f w v xs:=by
  refine⟨h.1,?_⟩
  rcases h.2 with bq | ⟨g,cap,cur,rfl,cy,r⟩
  . exact .inl bq
  . exact .inr ⟨g,cap,cur,rfl,by omega,r⟩
theorem bn.filled (aB:ay w g e cs) (bz:B<=g) (gd:cs.size= xs.length * sz) (hm:xs.length<=maxLen) (ag:∀i x,xs[i]? =some x->∀j u,(f x)[j]? =some u->cs[i * sz + j]? =some u)
    (hf:∀y,(f y).length= sz:=by intro y;rfl):bn B e sz f w (.slice (some ⟨g,0,none⟩) xs.length xs.length) xs:=by
  refine⟨nQ hf xs,.inr ⟨g,xs.length,cs,rfl,bz,aB,XZ _,hm,gd,?_⟩⟩
  rw [YO (by simp [gd])]
  apply List.ext_getElem?
  intro k
  by_cases ax:k < (xs.flatMap f).length
  . obtain⟨i,j,x,av,cc,rfl⟩:=QE hf xs k _ (Xj ax)
    rw [Xj ax,<- ag i x av j _ cc];simp
  . rw [nQ hf] at ax
    rw [List.getElem?_eq_none (by rw [YV];omega),List.getElem?_eq_none (by rw [nQ hf];omega)]
theorem aX.flat {eH:Addr} {ys:List T} (h:aX sz f w (some eH) ys) (hf:∀y,(f y).length= sz) (j:Nat) (u:Value) (hu:(ys.flatMap f)[j]? =some u):w.cell? (eH.add j)= some u:=by
  obtain⟨i,j',y,hy,cc,rfl⟩:=QE hf ys j u hu
  obtain⟨b,off,bl,_,aN⟩:=h (by have:=(Xg.1 hy).1;omega)
  injection bl with bl;subst bl
  rw [<- aN i y hy j' u cc]
  congr 1
  unfold Addr.add
  split <;> simp_all [Nat.add_assoc]
theorem aX.one (x:T) (t:TypeId):aX sz f (w.alloc (.cells (f x).toArray t)) (some ⟨w,0,none⟩) [x]:=λ_=>
  ⟨w,0,rfl,by simp,λi y hy j u hu=>by
    have h0:i= 0:=by have:=(Xg.1 hy).1;simp at this;omega
    subst h0;simp at hy;subst hy
    rw [Xy,YF]
    exact ((ay.new w t _).cell j).trans (by simpa using hu)⟩
theorem aX.alloc {A:QR} (h:aX sz f w A xs) (o:Obj):aX sz f (w.alloc o) A xs:=h.ad (bP w o)
end
section
variable {T:Type} {B:Nat} {e:TypeId} {sz:Nat} {f:T->List Value} {w ah:World} {v:Value} {xs:List T}
theorem bn.made (w:World) (bz:B<=w.heap.size) (e:TypeId):bn B e sz f (w.alloc (.cells #[] e)) (.slice w 0 0) ([]:List T):=
  World.ownsRow_made w #[] 0 bz Wn Wn
theorem bn.tK {A:QR} {c:Nat} (h:bn B e sz f w (A n c) xs):A= none->xs= []/\c= 0:=by
  rintro rfl
  rcases h.2 with ⟨az,h0⟩ | ⟨g,cap,cur,az,_⟩
  . injection az with _ _ h3;exact⟨YD.1 h0,h3⟩
  . injection az with h1;cases h1
theorem ahA {cells:List Value} (h:w.ownsRow B e sz v n cells) (cy:v.ownBlock= some g):(w.setCell ⟨g,j,none⟩ u).ownsRow B e sz v n (cells.set j u):=by
  obtain⟨aT,h⟩:=h
  refine⟨by simpa using aT,?_⟩
  rcases h with ⟨rfl,_⟩ | ⟨bS,cap,cur,rfl,bz,gl,vC,pV,cK,Bg⟩
  . simp [Value.ownBlock] at cy
  . simp [Value.ownBlock] at cy;subst cy
    refine .inr ⟨bS,cap,cur.setIfInBounds j u,rfl,bz,(ay.ey (w:=w) (g:=bS) (t:=e) (cs:=cur) gl j u),vC,pV,by simpa using cK,?_⟩
    rw [Array.toList_setIfInBounds,<- Bg,List.take_set]
theorem ahz {cells:List Value} (h:w.ownsRow B e sz v n cells) (cy:v.ownBlock= some g) (cc:j < cells.length):w.cell? ⟨g,j,none⟩ =some cells[j]/\w.frozen? ⟨g,j,none⟩ =false:=by
  obtain⟨aT,h⟩:=h
  rcases h with ⟨rfl,_⟩ | ⟨bS,cap,cur,rfl,bz,gl,vC,pV,cK,Bg⟩
  . simp [Value.ownBlock] at cy
  . simp [Value.ownBlock] at cy;subst cy
    refine⟨?_,ay.frozen (w:=w) (g:=bS) (t:=e) (cs:=cur) gl j⟩
    rw [cell_of_row w bS j cur e (0,0) gl]
    have h1:(cur.toList.take (n * sz))[j]? =some cells[j]:=by rw [Bg];exact Xj cc
    rw [Yb] at h1
    split at h1
    . simpa using h1
    . cases h1
theorem ht (w:World) (row:Option Nat):w.grownBy w row:=⟨rfl,rfl,rfl,XZ _,λ_ _ _=>rfl⟩
theorem fZ {a w:World} (h:a.grownBy w (some g)) (u:Value):a.grownBy (w.setCell ⟨g,j,none⟩ u) (some g):=
  ⟨h.os,h.tape,h.output,by simpa [World.setCell] using h.size,λi bo ew=>(Below.heap_setCell w _ u i (by rintro rfl;exact ew rfl)).trans (h.block i bo ew)⟩
theorem bx {a c:World} {row:Option Nat} (h:a.grownBy b row) (k:b.grownBy c row):a.grownBy c row:=
  ⟨k.os.trans h.os,k.tape.trans h.tape,k.output.trans h.output,Xr h.size k.size,λi bo ew=>(k.block i (YW bo h.size) ew).trans (h.block i bo ew)⟩
theorem Cu {a:World} {row:Option Nat} {B:Nat} (h:a.grownBy b row) (bz:B<=a.heap.size) (bu:∀k,row= some k->B<=k):Below B a b:=(Wt B a).grown h bz bu
theorem bL {a:World} (h:Below a a b) (row:Option Nat):a.grownBy b row:=⟨h.os,h.tape,h.output,h.size,λi bo _=>h.block i bo⟩
theorem aX.grown {A:QR} {row:Option Nat} (h:aX sz f w A xs) (cy:w.grownBy ah row) (ew:∀eH,A= some eH->some eH.block≠row):aX sz f ah A xs:=λbq=>by
  obtain⟨b,off,bl,bC,aN⟩:=h bq
  exact⟨b,off,bl,YW bC cy.size,λi x av j u hu=>(World.cell?_of_block (cy.block b bC (ew _ bl))).trans (aN i x av j u hu)⟩
end
theorem Pe {w:World} {ops:Array Oper} {rest:List Oper} {o:Oper}   (qm:o.guard= none) (s x:Operand) (t:TypeId)
    (dn:o.op= .call {callee:= .builtin .append,args:=#[s,x],argTypes:=#[t,t]})
    (B:Nat) (e:TypeId) (i:TypeInfo) (z:Value) (sz bytes:Nat) (cJ:P.underlying t= some (.slice e)) (bo:P.info? e= some i) (cF:i.zero= some z)
    (zF:i.size= sz) (sJ:i.bytes= bytes) (zM:z.cells.size= sz) (gd:0 < sz) {T:Type} (f:T->List Value) (hf:∀y,(f y).length= sz) (lL:∀y u,u ∈ f y->u.oneCell'= true)
    (v:Value) (xs:List T) (aP:a.eval s= v) (NA:bn B e sz f w v xs) (ak:QR) (c2:Nat) (ys:List T) (av:a.eval x= .slice ak ys c2) (bB:aX sz f w ak ys)
    (bl:ak= none->ys= []/\c2= 0) (h63:xs.length + ys.length<=maxLen) (zm:(xs.length + ys.length) * bytes<=140737488355328) (Nh:B<=w.heap.size)
    (h:∀mW ah,bn B e sz f ah mW (xs ++ ys)->w.grownBy ah v.ownBlock->wpList P ops Q rest (a.put o.dst mW) ah):wpList P ops Q (o ::rest) a w:=by
  cases ak with
  | some eH=>
    refine wpList_append_own w qm s x t dn B e i z sz bytes cJ bo cF zF sJ zM gd v xs.length (xs.flatMap f) aP NA eH ys.length c2 (ys.flatMap f) av (nQ hf ys) (λj u hu=>aX.flat bB hf j u hu)
      (λu hu=>by obtain⟨y,_,hy⟩:=List.mem_flatMap.1 hu;exact lL y u hy) h63 zm Nh (λmW ah h1 h2 _=>h mW ah ?_ h2)
    unfold bn;rw [Xu,List.flatMap_append];exact h1
  | none=>
    obtain⟨rfl,rfl⟩:=bl rfl
    exact wpList_append_own_none qm s x t dn B e i sz cJ bo v xs.length (xs.flatMap f) aP NA av (h v w (by simpa using NA) ⟨rfl,rfl,rfl,XZ _,λ_ _ _=>rfl⟩)
instance aCH (w:World):Nonempty (PLift (Below w.heap.size w w)):=⟨⟨Below.refl _ _⟩⟩
instance aCG (w W:World) (o:Obj) [h:Nonempty (PLift (Below w.heap.size w W))]:Nonempty (PLift (Below w.heap.size w (W.alloc o))):=⟨⟨h.elim λx=>x.down.alloc x.down.size _⟩⟩
theorem ao {w:World} [h:Nonempty (PLift (Below w w W))]:Below w w W:=h.elim λx=>x.down
section
variable {w W:World} {g:Nat} {t:TypeId}
theorem ay.fD (h:ay w g t #[a0,a1]):w.cell? ⟨g,0,none⟩ =some a0/\w.cell? ⟨g,1,none⟩ =some a1:=⟨h.cell 0,h.cell 1⟩
theorem ay.Qw {xv:Sort _} {V:xv->World} (h:∀k,ay (V k) g t #[a0,a1]):(∀k,(V k).cell? ⟨g,0,none⟩ =some a0)/\(∀k,(V k).cell? ⟨g,1,none⟩ =some a1):=⟨λk=>(h k).cell 0,λk=>(h k).cell 1⟩
theorem ay.yU (h:ay w g t cs):w.frozen? ⟨g,0,none⟩ =false/\w.frozen? ⟨g,1,none⟩ =false:=⟨h.frozen 0,h.frozen 1⟩
theorem ay.cb (h:ay w g t #[a0,a1,a2]):w.cell? ⟨g,0,none⟩ =some a0/\w.cell? ⟨g,1,none⟩ =some a1/\w.cell? ⟨g,2,none⟩ =some a2:=⟨h.cell 0,h.cell 1,h.cell 2⟩
theorem ay.kF {xv:Sort _} {V:xv->World} (h:∀k,ay (V k) g t #[a0,a1,a2]):(∀k,(V k).cell? ⟨g,0,none⟩ =some a0)/\(∀k,(V k).cell? ⟨g,1,none⟩ =some a1)/\(∀k,(V k).cell? ⟨g,2,none⟩ =some a2):=⟨λk=>(h k).cell 0,λk=>(h k).cell 1,λk=>(h k).cell 2⟩
theorem ay.kH (h:ay w g t cs):w.frozen? ⟨g,0,none⟩ =false/\w.frozen? ⟨g,1,none⟩ =false/\w.frozen? ⟨g,2,none⟩ =false:=⟨h.frozen 0,h.frozen 1,h.frozen 2⟩
theorem ay.aL (h:ay w g t #[a0,a1,a2,a3,a4]):w.cell? ⟨g,0,none⟩ =some a0/\w.cell? ⟨g,1,none⟩ =some a1/\w.cell? ⟨g,2,none⟩ =some a2/\w.cell? ⟨g,3,none⟩ =some a3/\w.cell? ⟨g,4,none⟩ =some a4:=⟨h.cell 0,h.cell 1,h.cell 2,h.cell 3,h.cell 4⟩
theorem ay.kG {xv:Sort _} {V:xv->World} (h:∀k,ay (V k) g t #[a0,a1,a2,a3,a4]):(∀k,(V k).cell? ⟨g,0,none⟩ =some a0)/\(∀k,(V k).cell? ⟨g,1,none⟩ =some a1)/\(∀k,(V k).cell? ⟨g,2,none⟩ =some a2)/\(∀k,(V k).cell? ⟨g,3,none⟩ =some a3)/\(∀k,(V k).cell? ⟨g,4,none⟩ =some a4):=⟨λk=>(h k).cell 0,λk=>(h k).cell 1,λk=>(h k).cell 2,λk=>(h k).cell 3,λk=>(h k).cell 4⟩
theorem ay.iW (h:ay w g t cs):w.frozen? ⟨g,0,none⟩ =false/\w.frozen? ⟨g,1,none⟩ =false/\w.frozen? ⟨g,2,none⟩ =false/\w.frozen? ⟨g,3,none⟩ =false/\w.frozen? ⟨g,4,none⟩ =false:=⟨h.frozen 0,h.frozen 1,h.frozen 2,h.frozen 3,h.frozen 4⟩
theorem ay.cX (h:ay w g t #[a0,a1,a2,a3,a4,a5]):w.cell? ⟨g,0,none⟩ =some a0/\w.cell? ⟨g,1,none⟩ =some a1/\w.cell? ⟨g,2,none⟩ =some a2/\w.cell? ⟨g,3,none⟩ =some a3/\w.cell? ⟨g,4,none⟩ =some a4/\w.cell? ⟨g,5,none⟩ =some a5:=⟨h.cell 0,h.cell 1,h.cell 2,h.cell 3,h.cell 4,h.cell 5⟩
theorem ay.Vb {xv:Sort _} {V:xv->World} (h:∀k,ay (V k) g t #[a0,a1,a2,a3,a4,a5]):(∀k,(V k).cell? ⟨g,0,none⟩ =some a0)/\(∀k,(V k).cell? ⟨g,1,none⟩ =some a1)/\(∀k,(V k).cell? ⟨g,2,none⟩ =some a2)/\(∀k,(V k).cell? ⟨g,3,none⟩ =some a3)/\(∀k,(V k).cell? ⟨g,4,none⟩ =some a4)/\(∀k,(V k).cell? ⟨g,5,none⟩ =some a5):=⟨λk=>(h k).cell 0,λk=>(h k).cell 1,λk=>(h k).cell 2,λk=>(h k).cell 3,λk=>(h k).cell 4,λk=>(h k).cell 5⟩
theorem ay.wL (h:ay w g t cs):w.frozen? ⟨g,0,none⟩ =false/\w.frozen? ⟨g,1,none⟩ =false/\w.frozen? ⟨g,2,none⟩ =false/\w.frozen? ⟨g,3,none⟩ =false/\w.frozen? ⟨g,4,none⟩ =false/\w.frozen? ⟨g,5,none⟩ =false:=⟨h.frozen 0,h.frozen 1,h.frozen 2,h.frozen 3,h.frozen 4,h.frozen 5⟩
theorem ay.ij (h:ay w g t #[a0,a1,a2,a3,a4,a5,a6]):w.cell? ⟨g,0,none⟩ =some a0/\w.cell? ⟨g,1,none⟩ =some a1/\w.cell? ⟨g,2,none⟩ =some a2/\w.cell? ⟨g,3,none⟩ =some a3/\w.cell? ⟨g,4,none⟩ =some a4/\w.cell? ⟨g,5,none⟩ =some a5/\w.cell? ⟨g,6,none⟩ =some a6:=⟨h.cell 0,h.cell 1,h.cell 2,h.cell 3,h.cell 4,h.cell 5,h.cell 6⟩
theorem ay.aqf {xv:Sort _} {V:xv->World} (h:∀k,ay (V k) g t #[a0,a1,a2,a3,a4,a5,a6]):(∀k,(V k).cell? ⟨g,0,none⟩ =some a0)/\(∀k,(V k).cell? ⟨g,1,none⟩ =some a1)/\(∀k,(V k).cell? ⟨g,2,none⟩ =some a2)/\(∀k,(V k).cell? ⟨g,3,none⟩ =some a3)/\(∀k,(V k).cell? ⟨g,4,none⟩ =some a4)/\(∀k,(V k).cell? ⟨g,5,none⟩ =some a5)/\(∀k,(V k).cell? ⟨g,6,none⟩ =some a6):=⟨λk=>(h k).cell 0,λk=>(h k).cell 1,λk=>(h k).cell 2,λk=>(h k).cell 3,λk=>(h k).cell 4,λk=>(h k).cell 5,λk=>(h k).cell 6⟩
theorem ay.Jh (h:ay w g t cs):w.frozen? ⟨g,0,none⟩ =false/\w.frozen? ⟨g,1,none⟩ =false/\w.frozen? ⟨g,2,none⟩ =false/\w.frozen? ⟨g,3,none⟩ =false/\w.frozen? ⟨g,4,none⟩ =false/\w.frozen? ⟨g,5,none⟩ =false/\w.frozen? ⟨g,6,none⟩ =false:=⟨h.frozen 0,h.frozen 1,h.frozen 2,h.frozen 3,h.frozen 4,h.frozen 5,h.frozen 6⟩
theorem ay.aH (h:ay w g t #[a0,a1,a2,a3,a4,a5,a6,a7]):w.cell? ⟨g,0,none⟩ =some a0/\w.cell? ⟨g,1,none⟩ =some a1/\w.cell? ⟨g,2,none⟩ =some a2/\w.cell? ⟨g,3,none⟩ =some a3/\w.cell? ⟨g,4,none⟩ =some a4/\w.cell? ⟨g,5,none⟩ =some a5/\w.cell? ⟨g,6,none⟩ =some a6/\w.cell? ⟨g,7,none⟩ =some a7:=⟨h.cell 0,h.cell 1,h.cell 2,h.cell 3,h.cell 4,h.cell 5,h.cell 6,h.cell 7⟩
theorem ay.qF {xv:Sort _} {V:xv->World} (h:∀k,ay (V k) g t #[a0,a1,a2,a3,a4,a5,a6,a7]):(∀k,(V k).cell? ⟨g,0,none⟩ =some a0)/\(∀k,(V k).cell? ⟨g,1,none⟩ =some a1)/\(∀k,(V k).cell? ⟨g,2,none⟩ =some a2)/\(∀k,(V k).cell? ⟨g,3,none⟩ =some a3)/\(∀k,(V k).cell? ⟨g,4,none⟩ =some a4)/\(∀k,(V k).cell? ⟨g,5,none⟩ =some a5)/\(∀k,(V k).cell? ⟨g,6,none⟩ =some a6)/\(∀k,(V k).cell? ⟨g,7,none⟩ =some a7):=⟨λk=>(h k).cell 0,λk=>(h k).cell 1,λk=>(h k).cell 2,λk=>(h k).cell 3,λk=>(h k).cell 4,λk=>(h k).cell 5,λk=>(h k).cell 6,λk=>(h k).cell 7⟩
theorem ay.iX (h:ay w g t cs):w.frozen? ⟨g,0,none⟩ =false/\w.frozen? ⟨g,1,none⟩ =false/\w.frozen? ⟨g,2,none⟩ =false/\w.frozen? ⟨g,3,none⟩ =false/\w.frozen? ⟨g,4,none⟩ =false/\w.frozen? ⟨g,5,none⟩ =false/\w.frozen? ⟨g,6,none⟩ =false/\w.frozen? ⟨g,7,none⟩ =false:=⟨h.frozen 0,h.frozen 1,h.frozen 2,h.frozen 3,h.frozen 4,h.frozen 5,h.frozen 6,h.frozen 7⟩
theorem ay.QH (h:ay w g t cs):w.frozen? ⟨g,0,none⟩ =false/\w.frozen? ⟨g,1,none⟩ =false/\w.frozen? ⟨g,2,none⟩ =false/\w.frozen? ⟨g,3,none⟩ =false/\w.frozen? ⟨g,4,none⟩ =false/\w.frozen? ⟨g,5,none⟩ =false/\w.frozen? ⟨g,6,none⟩ =false/\w.frozen? ⟨g,7,none⟩ =false/\w.frozen? ⟨g,8,none⟩ =false:=⟨h.frozen 0,h.frozen 1,h.frozen 2,h.frozen 3,h.frozen 4,h.frozen 5,h.frozen 6,h.frozen 7,h.frozen 8⟩
theorem ay.ca (h:ay w g t #[a0,a1,a2,a3,a4,a5,a6,a7,a8,a9,a10]):w.cell? ⟨g,0,none⟩ =some a0/\w.cell? ⟨g,1,none⟩ =some a1/\w.cell? ⟨g,2,none⟩ =some a2/\w.cell? ⟨g,3,none⟩ =some a3/\w.cell? ⟨g,4,none⟩ =some a4/\w.cell? ⟨g,5,none⟩ =some a5/\w.cell? ⟨g,6,none⟩ =some a6/\w.cell? ⟨g,7,none⟩ =some a7/\w.cell? ⟨g,8,none⟩ =some a8/\w.cell? ⟨g,9,none⟩ =some a9/\w.cell? ⟨g,10,none⟩ =some a10:=⟨h.cell 0,h.cell 1,h.cell 2,h.cell 3,h.cell 4,h.cell 5,h.cell 6,h.cell 7,h.cell 8,h.cell 9,h.cell 10⟩
theorem ay.pS {xv:Sort _} {V:xv->World} (h:∀k,ay (V k) g t #[a0,a1,a2,a3,a4,a5,a6,a7,a8,a9,a10]):(∀k,(V k).cell? ⟨g,0,none⟩ =some a0)/\(∀k,(V k).cell? ⟨g,1,none⟩ =some a1)/\(∀k,(V k).cell? ⟨g,2,none⟩ =some a2)/\(∀k,(V k).cell? ⟨g,3,none⟩ =some a3)/\(∀k,(V k).cell? ⟨g,4,none⟩ =some a4)/\(∀k,(V k).cell? ⟨g,5,none⟩ =some a5)/\(∀k,(V k).cell? ⟨g,6,none⟩ =some a6)/\(∀k,(V k).cell? ⟨g,7,none⟩ =some a7)/\(∀k,(V k).cell? ⟨g,8,none⟩ =some a8)/\(∀k,(V k).cell? ⟨g,9,none⟩ =some a9)/\(∀k,(V k).cell? ⟨g,10,none⟩ =some a10):=⟨λk=>(h k).cell 0,λk=>(h k).cell 1,λk=>(h k).cell 2,λk=>(h k).cell 3,λk=>(h k).cell 4,λk=>(h k).cell 5,λk=>(h k).cell 6,λk=>(h k).cell 7,λk=>(h k).cell 8,λk=>(h k).cell 9,λk=>(h k).cell 10⟩
theorem ay.hk (h:ay w g t cs):w.frozen? ⟨g,0,none⟩ =false/\w.frozen? ⟨g,1,none⟩ =false/\w.frozen? ⟨g,2,none⟩ =false/\w.frozen? ⟨g,3,none⟩ =false/\w.frozen? ⟨g,4,none⟩ =false/\w.frozen? ⟨g,5,none⟩ =false/\w.frozen? ⟨g,6,none⟩ =false/\w.frozen? ⟨g,7,none⟩ =false/\w.frozen? ⟨g,8,none⟩ =false/\w.frozen? ⟨g,9,none⟩ =false/\w.frozen? ⟨g,10,none⟩ =false:=⟨h.frozen 0,h.frozen 1,h.frozen 2,h.frozen 3,h.frozen 4,h.frozen 5,h.frozen 6,h.frozen 7,h.frozen 8,h.frozen 9,h.frozen 10⟩
end
def Bx:List Value->Nat->List Value->List Value
  | [],_,_=>[]
  | c ::cs,0,[]=>c ::cs
  | _ ::cs,0,v ::vs=>v ::Bx cs 0 vs
  | c ::cs,k + 1,vs=>c ::Bx cs k vs
theorem ajk:∀(l:List Value) (k:Nat),Bx l k []= l
  | [],_=>rfl
  | _ ::_,0=>rfl
  | c ::cs,k + 1=>by rw [Bx,ajk cs k]
theorem ajl:∀(l:List Value) (k:Nat) (v:Value) (vs:List Value),Bx (l.set k v) (k + 1) vs= Bx l k (v ::vs)
  | [],_,_,_=>by simp [Bx]
  | c ::cs,0,v,vs=>by simp [Bx]
  | c ::cs,k + 1,v,vs=>by simp [Bx,ajl cs k v vs]
structure er (w:World) (g k:Nat) (vs:List Value) (W:World):Prop where
  eC:w.grownBy W (some g)
  sz:W.heap.size= w.heap.size
  own:∀{t:TypeId} {l:List Value},ay w g t ⟨l⟩->ay W g t ⟨Bx l k vs⟩
  Vl:∀{p:Nat} {t:TypeId} {cs:Array Value},ay w p t cs->p≠g->ay W p t cs
  aB:∀{n:Nat} {w0:World},Below n w0 w->n<=g->Below n w0 W
theorem er.dj {w:World} {p:Nat}    (h:er w g k vs W) (b:ay w p t cs) (ew:p≠g:=by omega):ay W p t cs:=h.Vl b ew
theorem er.aN {w:World}   (h:er w g k vs W) (b:Below n w0 w) (bq:n<=g:=by omega):Below n w0 W:=h.aB b bq
theorem be (w:World) [Nonempty (PLift (Below w w b))] (h:Below b b W):Below w w W:=ai ao h
theorem hV {fn:Func} {R:Ending->World->Prop}  {w:World}  (bB:R (.returned v) w) (bu:(results fn a.tmps).run P w= .ok v w) (cr:a.defers= []:=by rfl):bodyPost P fn R .ret a w:=⟨cr,v,bu,bB⟩
theorem er.nil {w:World}:er w g k [] w:=⟨ht _ _,rfl,λ{_ l} h=>by rw [ajk l k];exact h,λh _=>h,λh _=>h⟩
theorem er.cons {w W:World} {g k:Nat} {v:Value} {vs:List Value} (h:er (w.setCell ⟨g,k,none⟩ v) g (k + 1) vs W):er w g k (v ::vs) W:=
  ⟨bx (fZ (ht w (some g)) v) h.eC,h.sz.trans (by simp [World.setCell]),λ{_ l} b=>by rw [<- ajl l k v vs];exact h.own (by simpa using b.ey k v),λb bq=>h.Vl (b.yR (p:=⟨g,k,none⟩) bq v) bq,λb bq=>h.aB (b.setCell (p:=⟨g,k,none⟩) bq v) bq⟩
theorem ay.to {w:World} (h:ay w g t cs) (aB:Below w w W):ay W g t cs:=h.ad aB h.lt
theorem I {p:Prop} (h:p):Hid p:=Lib.hid h
theorem sa {g:Prop} (h:Hid cG->Hid dJ->Hid dt->Hid mR->g):cG->dJ->dt->mR->g:=h
theorem Dd {g:Prop} (h:Hid cG->Hid dJ->Hid dt->Hid mR->Hid lP->g):cG->dJ->dt->mR->lP->g:=h
theorem Ho {g:Prop} (h:Hid cG->Hid dJ->Hid dt->Hid mR->Hid lP->Hid nD->g):cG->dJ->dt->mR->lP->nD->g:=h
theorem XI {tN g:Prop} (h:Hid cG->Hid dJ->Hid dt->Hid mR->Hid lP->Hid nD->Hid tN->g):cG->dJ->dt->mR->lP->nD->tN->g:=h
theorem bn.cS {T:Type} {f:T->List Value} {e:TypeId} {w:World} {xs:List T} (h:bn B e sz f w v xs) (s:er w g k vs W) (ew:∀q,v.ownBlock= some q->¬q= g):bn B e sz f W v xs:=h.kept s.eC (λq bt e=>ew q bt (Wx e))
section
variable {w W:World} {g:Nat} {t:TypeId} {Q:World->Prop}
theorem kL (k:Nat) (h:∀W,er w g k [a0] W->Q W):Q (World.setCell w ⟨g,k,none⟩ a0):=h _ (er.cons er.nil)
theorem ra (k:Nat) (h:∀W,er w g k [a0,a1,a2] W->Q W):Q (World.setCell (World.setCell (World.setCell w ⟨g,k,none⟩ a0) ⟨g,k + 1,none⟩ a1) ⟨g,k + 2,none⟩ a2):=h _ (er.cons (er.cons (er.cons er.nil)))
theorem er.AH (h:er w g 0 [a0,a1,a2] W) (b:ay w g t #[dD,dc,dr]):ay W g t #[a0,a1,a2]:=h.own b
theorem hs (k:Nat) (h:∀W,er w g k [a0,a1,a2,a3,a4] W->Q W):Q (World.setCell (World.setCell (World.setCell (World.setCell (World.setCell w ⟨g,k,none⟩ a0) ⟨g,k + 1,none⟩ a1) ⟨g,k + 2,none⟩ a2) ⟨g,k + 3,none⟩ a3) ⟨g,k + 4,none⟩ a4):=h _ (er.cons (er.cons (er.cons (er.cons (er.cons er.nil)))))
theorem er.iK (h:er w g 0 [a0,a1,a2,a3,a4] W) (b:ay w g t #[dD,dc,dr,eb,eL]):ay W g t #[a0,a1,a2,a3,a4]:=h.own b
theorem xr (k:Nat) (h:∀W,er w g k [a0,a1,a2,a3,a4,a5] W->Q W):Q (World.setCell (World.setCell (World.setCell (World.setCell (World.setCell (World.setCell w ⟨g,k,none⟩ a0) ⟨g,k + 1,none⟩ a1) ⟨g,k + 2,none⟩ a2) ⟨g,k + 3,none⟩ a3) ⟨g,k + 4,none⟩ a4) ⟨g,k + 5,none⟩ a5):=h _ (er.cons (er.cons (er.cons (er.cons (er.cons (er.cons er.nil))))))
theorem er.wy (h:er w g 0 [a0,a1,a2,a3,a4,a5] W) (b:ay w g t #[dD,dc,dr,eb,eL,gw]):ay W g t #[a0,a1,a2,a3,a4,a5]:=h.own b
theorem OU (k:Nat) (h:∀W,er w g k [a0,a1,a2,a3,a4,a5,a6] W->Q W):Q (World.setCell (World.setCell (World.setCell (World.setCell (World.setCell (World.setCell (World.setCell w ⟨g,k,none⟩ a0) ⟨g,k + 1,none⟩ a1) ⟨g,k + 2,none⟩ a2) ⟨g,k + 3,none⟩ a3) ⟨g,k + 4,none⟩ a4) ⟨g,k + 5,none⟩ a5) ⟨g,k + 6,none⟩ a6):=h _ (er.cons (er.cons (er.cons (er.cons (er.cons (er.cons (er.cons er.nil)))))))
theorem er.Mf (h:er w g 0 [a0,a1,a2,a3,a4,a5,a6] W) (b:ay w g t #[dD,dc,dr,eb,eL,gw,hN]):ay W g t #[a0,a1,a2,a3,a4,a5,a6]:=h.own b
theorem iO (k:Nat) (h:∀W,er w g k [a0,a1,a2,a3,a4,a5,a6,a7] W->Q W):Q (World.setCell (World.setCell (World.setCell (World.setCell (World.setCell (World.setCell (World.setCell (World.setCell w ⟨g,k,none⟩ a0) ⟨g,k + 1,none⟩ a1) ⟨g,k + 2,none⟩ a2) ⟨g,k + 3,none⟩ a3) ⟨g,k + 4,none⟩ a4) ⟨g,k + 5,none⟩ a5) ⟨g,k + 6,none⟩ a6) ⟨g,k + 7,none⟩ a7):=h _ (er.cons (er.cons (er.cons (er.cons (er.cons (er.cons (er.cons (er.cons er.nil))))))))
theorem er.iV (h:er w g 0 [a0,a1,a2,a3,a4,a5,a6,a7] W) (b:ay w g t #[dD,dc,dr,eb,eL,gw,hN,gB]):ay W g t #[a0,a1,a2,a3,a4,a5,a6,a7]:=h.own b
theorem er.ayb {w W:World} {g:Nat} {t:TypeId} (h:er w g 0 [a0] W) (b:ay w g t #[dD,dc,dr,eb,eL]):ay W g t #[a0,dc,dr,eb,eL]:=h.own b
theorem er.ayc {w W:World} {g:Nat} {t:TypeId} (h:er w g 0 [a0] W) (b:ay w g t #[dD,dc,dr,eb,eL,gw]):ay W g t #[a0,dc,dr,eb,eL,gw]:=h.own b
theorem er.ayd {w W:World} {g:Nat} {t:TypeId} (h:er w g 0 [a0,a1,a2] W) (b:ay w g t #[dD,dc,dr]):ay W g t #[a0,a1,a2]:=h.own b
theorem er.ahJ {w W:World} {g:Nat} {t:TypeId} (h:er w g 0 [a0,a1,a2,a3,a4,a5,a6,a7] W) (b:ay w g t #[dD,dc,dr,eb,eL,gw,hN,gB,vp,ui,AI]):ay W g t #[a0,a1,a2,a3,a4,a5,a6,a7,vp,ui,AI]:=h.own b
theorem er.jo {w W:World} {g:Nat} {t:TypeId} (h:er w g 0 [a0,a1,a2,a3,a4,a5,a6,a7,a8,a9,a10] W) (b:ay w g t #[dD,dc,dr,eb,eL,gw,hN,gB,vp,ui,AI]):ay W g t #[a0,a1,a2,a3,a4,a5,a6,a7,a8,a9,a10]:=h.own b
theorem er.ahK {w W:World} {g:Nat} {t:TypeId} (h:er w g 1 [a0] W) (b:ay w g t #[dD,dc,dr]):ay W g t #[dD,a0,dr]:=h.own b
theorem er.aye {w W:World} {g:Nat} {t:TypeId} (h:er w g 1 [a0] W) (b:ay w g t #[dD,dc,dr,eb,eL,gw]):ay W g t #[dD,a0,dr,eb,eL,gw]:=h.own b
theorem er.OB {w W:World} {g:Nat} {t:TypeId} (h:er w g 1 [a0] W) (b:ay w g t #[dD,dc,dr,eb,eL,gw,hN,gB]):ay W g t #[dD,a0,dr,eb,eL,gw,hN,gB]:=h.own b
theorem er.aHQ {w W:World} {g:Nat} {t:TypeId} (h:er w g 2 [a0] W) (b:ay w g t #[dD,dc,dr]):ay W g t #[dD,dc,a0]:=h.own b
theorem er.Ss {w W:World} {g:Nat} {t:TypeId} (h:er w g 2 [a0] W) (b:ay w g t #[dD,dc,dr,eb,eL]):ay W g t #[dD,dc,a0,eb,eL]:=h.own b
theorem er.Kg {w W:World} {g:Nat} {t:TypeId} (h:er w g 2 [a0] W) (b:ay w g t #[dD,dc,dr,eb,eL,gw]):ay W g t #[dD,dc,a0,eb,eL,gw]:=h.own b
theorem er.Kh {w W:World} {g:Nat} {t:TypeId} (h:er w g 2 [a0,a1,a2,a3,a4] W) (b:ay w g t #[dD,dc,dr,eb,eL,gw,hN,gB]):ay W g t #[dD,dc,a0,a1,a2,a3,a4,gB]:=h.own b
theorem er.HK {w W:World} {g:Nat} {t:TypeId} (h:er w g 3 [a0] W) (b:ay w g t #[dD,dc,dr,eb,eL]):ay W g t #[dD,dc,dr,a0,eL]:=h.own b
theorem er.ayf {w W:World} {g:Nat} {t:TypeId} (h:er w g 3 [a0,a1,a2] W) (b:ay w g t #[dD,dc,dr,eb,eL,gw]):ay W g t #[dD,dc,dr,a0,a1,a2]:=h.own b
theorem er.aHR {w W:World} {g:Nat} {t:TypeId} (h:er w g 4 [a0] W) (b:ay w g t #[dD,dc,dr,eb,eL]):ay W g t #[dD,dc,dr,eb,a0]:=h.own b
theorem er.St {w W:World} {g:Nat} {t:TypeId} (h:er w g 7 [a0] W) (b:ay w g t #[dD,dc,dr,eb,eL,gw,hN,gB]):ay W g t #[dD,dc,dr,eb,eL,gw,hN,a0]:=h.own b
theorem er.aHT {w W:World} {g:Nat} {t:TypeId} (h:er w g 8 [a0,a1,a2] W) (b:ay w g t #[dD,dc,dr,eb,eL,gw,hN,gB,vp,ui,AI]):ay W g t #[dD,dc,dr,eb,eL,gw,hN,gB,a0,a1,a2]:=h.own b
theorem bn.dm {T:Type}  {f:T->List Value} {e:TypeId} {w:World}  {xs:List T} {p:Nat} (h:bn B e sz f w v xs) (cy:w.grownBy ah (some p)) (aS:p < B:=by omega):bn B e sz f ah v xs:=h.kept cy (λk ax e=>by have:=(h.lt k ax).1;have:=Wx e;omega)
theorem ay.bV {w:World} {g p:Nat} {t:TypeId}  (h:ay w g t cs) (cy:w.grownBy ah (some p)) (ew:g≠p:=by omega):ay ah g t cs:=(cy.block g h.lt (λe=>ew (Wx e))).trans h
theorem ay.eV {g:Nat} {t:TypeId} {A:Array Value} (aB:Below b b bm) (h:ay b g t A:=by repeat (first | exact ay.new _ _ _ | exact ay.HB _ _ _ _ | exact ay.JZ _ _ _ _ _ | exact ay.Ok _ _ _ _ _ _ | refine ay.alloc ?_ _)) (aT:g < b.heap.size:=by simp <;> omega):ay bm g t A:=h.ad aB aT
theorem dh (h:∀W,Below w w W->ay W w t0 c0->Q W):Q (World.alloc w (.cells c0 t0)):=h _ (bP _ _) (ay.new _ _ _)
theorem fU (h:∀W,Below w w W->ay W w t0 c0->ay W (w.heap.size + 1) t1 aw->Q W):Q (World.alloc (World.alloc w (.cells c0 t0)) (.cells aw t1)):=h _ (IU _ _ _) ((ay.new _ _ _).alloc _) (ay.HB _ _ _ _)
theorem gY {c2:Array Value} {t2:TypeId} (h:∀W,Below w w W->ay W w t0 c0->ay W (w.heap.size + 1) t1 aw->ay W (w.heap.size + 1 + 1) t2 c2->Q W):Q (World.alloc (World.alloc (World.alloc w (.cells c0 t0)) (.cells aw t1)) (.cells c2 t2)):=h _ (acq _ _ _ _) (((ay.new _ _ _).alloc _).alloc _) ((ay.HB _ _ _ _).alloc _) (ay.JZ _ _ _ _ _)
end
section
variable {P:Program} {ops:Array Oper} {md:Region.Mode} {C:World->Prop}
def Pd (P:Program) (md:Region.Mode) (ops:Array Oper) (C:World->Prop) (n:Nat) (L:Array Bool->Act->Prop):Nat->Array Bool->Act->Prop
 | 0,listed,a=>L listed a
 | f + 1,listed,a=>
  Region.ready md ops listed≠[]/\∀i ∈ Region.ready md ops listed,i < n/\qOp P ops C i (Pd P md ops C n L f (listed.setIfInBounds i true)) a
theorem akh {L:Array Bool->Act->Prop} (br:∀listed a,L listed a->∀w,C w->wpAny P md ops Q' g listed a w):
  ∀(f:Nat) (listed:Array Bool) (a:Act),Pd P md ops C n L f listed a->∀w,C w->wpAny P md ops Q' (f + g) listed a w
 | 0,listed,a,h=>by rw [YF];exact br _ _ h
 | f + 1,listed,a,h=>λw hw=>by
  rw [show f + 1 + g= (f + g) + 1 by omega]
  exact⟨λh0=>absurd h0 h.1,λi bo=>wpOp_of_qOp hw (λa' ah vG ez=>akh br f _ a' ez ah vG) (h.2 i bo).2⟩
theorem alM (h:z:=by
 rcases Nat.lt_or_ge j n with h | h
 .exact h
 .exact absurd cc (tail_waits aP aN bq inv _ i rfl jl zI j h)):z:=h
theorem aBZ {L:Array Bool->Act->Prop} (bo:ops[i]? =some eX) (gO:∀(j:Nat) (o:Oper) cs b,ops[j]? =some o->o.op≠.select cs b)
 (aP:Region.sinkB md ops n= true) (aN:Region.chainB md ops n= true) (bq:n < ops.size) (jl:i < n)
 (uF:∀listed a,L listed a->∀j ∈ Region.ready md ops listed,n<=j):
  ∀(f:Nat) (listed:Array Bool) (a:Act),HeadInv md ops n listed->
   (∀j ga,ops[j]? =some ga->j≠i->listed.getD j true= false->(∀e ∈ ga.after,Region.binds md e= true->e.on≠i)->eX.apart ops ga= true)->
   i ∈ Region.ready md ops listed->YieldsIn P ops C eX v a->
   Pd P md ops C n L f (listed.setIfInBounds i true) (a.put eX.dst v)->Pd P md ops C n L (f + 1) listed a:=by
 intro f
 induction f with
 | zero=>
  intro listed a inv _ bu hy H
  have zI:=(mem_ready.1 bu).1
  refine⟨λh=>rX,λj cc=>?_⟩
  have Rj:j < n:=by
   exact alM
  refine⟨Rj,?_⟩
  by_cases sM:j= i
  .subst sM;exact hy.qOp bo H
  .have:=uF _ _ H j (ready_mono cc sM)
   omega
 | succ f eR=>
  intro listed a inv Np bu hy H
  have zI:=(mem_ready.1 bu).1
  refine⟨λh=>rX,λj cc=>?_⟩
  have Rj:j < n:=by
   exact alM
  refine⟨Rj,?_⟩
  by_cases sM:j= i
  .subst sM;exact hy.qOp bo H
  .have h1:=(H.2 j (ready_mono cc sM)).2
   obtain⟨Nv,ga,je,my⟩:=mem_ready.1 cc
   have aFJ:∀e ∈ ga.after,Region.binds md e= true->e.on≠i:=λe he aB heq=>by
    have h1:=my e he aB
    rw [heq,getD_both zI] at h1
    cases h1
   have h2:=qOp_put je (Np j ga je sM Nv aFJ) (λcs b=>gO i eX cs b bo) (λcs b=>gO j ga cs b je) hy h1;have WE:∀k ok,ops[k]? =some ok->k≠i->(listed.setIfInBounds j true).getD k true= false->
     (∀e ∈ ok.after,Region.binds md e= true->e.on≠i)->eX.apart ops ok= true:=λk ok ax WS zI ha=>by
    refine Np k ok ax WS ?_ ha
    by_cases CL:j= k
    .subst CL;exact Nv
    .rw [getD_set_ne true CL] at zI;exact zI
   refine qOp_mono (λa' h3=>eR (listed.setIfInBounds j true) a' (inv.set cc Rj) WE (ready_mono bu (Ne.symm sM)) h3.1 ?_) h2
   rw [Array.setIfInBounds_comm _ _ sM]
   exact h3.2
theorem akf {UC:Act->Prop} (gO:Region.noSelect ops= true) (aP:Region.sinkB md ops n= true) (aN:Region.chainB md ops n= true) (bq:n < ops.size):
  ∀(l:List Oper) (k:Nat) (listed:Array Bool) (a:Act),(∀j,j < l.length->l[j]? =ops[k + j]?)->k + l.length= n->HeadInv md ops n listed->
  Region.lexHead md ops g l.length k listed= true->wpQuiet P ops C UC l a->
  Pd P md ops C n (λagD a'=>Region.seqB md ops g n agD= true/\UC a') l.length listed a
 | [],k,listed,a,_,ax,_,bz,h=>by
  have:k= n:=by simpa using ax
  subst this
  exact⟨by simpa [Region.lexHead] using bz,h⟩
 | o ::l,k,listed,a,aT,ax,inv,bz,h=>by
  have h0:ops[k]? =some o:=by simpa using (aT 0 Wn).symm
  simp only [YK,Region.lexHead,Xa] at bz
  obtain⟨⟨bu,hf⟩,adK⟩:=bz
  have Rl:k < n:=by simp only [YK] at ax;omega
  have sQ:k ∈ Region.ready md ops listed:=by simpa using bu
  have jI:qOp P ops C k (wpQuiet P ops C UC l) a:=by unfold qOp;simp only [h0];exact h
  obtain⟨v,hy,fj⟩:=yieldsIn_of_qOp h0 jI
  exact aBZ h0 (Region.noSelect_spec gO) aP aN bq Rl (λagD a' br=>seqB_ready br.1) l.length listed a inv (Region.free_spec h0 hf) sQ hy
   (akf gO aP aN bq l (k + 1) _ _ (λj cc=>by have:=aT (j + 1) Xq;simpa [Nat.add_assoc,Nat.add_comm 1 j] using this) (by simp only [YK] at ax;omega) (inv.set sQ Rl) adK fj)
theorem aCe {w:World}  (n:Nat) (hm:P.follows .mixedOrders= true) (bz:Region.lexTailB .any l.toArray n= true) (aA:C {w with drawn:=w.drawn + 1})
  (h:wpQuiet P l.toArray C (λa'=>∀ah,C ah->wpList P l.toArray Q (l.drop n) a' ah) (l.take n) a):(Code.region id l.toArray true).wp P Q a w:=by
 simp only [Region.lexTailB,Xa,Xf] at bz
 obtain⟨⟨⟨⟨gO,bq⟩,aP⟩,aN⟩,atu⟩:=bz
 have WY:n < l.length:=by simpa using bq
 have zH:(l.take n).length= n:=Xq
 have rz:(l.drop n).length= l.toArray.size - n:=Wn
 have awc:HeadInv .any l.toArray n (Array.replicate l.toArray.size false):=
  ⟨by simp,λj ga _ aT=>(by rw [getD_replicate_false] at aT;cases aT),λt _ cJ=>getD_in (by simpa using cJ) (getD_replicate_false _ _)⟩
 have H:=akf (md:= .any) (g:=l.toArray.size - n) gO aP aN bq (l.take n) 0 _ a (λj cc=>by
  have atl:j < n:=by rw [zH] at cc;exact cc
  simp [atl]) (by simpa using zH) awc (by rw [zH];exact atu) h
 refine wp_region_any hm ?_
 have:=akh (Q':=Q) (g:=l.toArray.size - n) (λlisted a' br ah vG=>by
  have:=wpAny_of_seq (md:= .any) (Q':=Q) (l.drop n) n listed a' ah (λj=>by simp [List.getElem?_drop]) (by rw [rz];exact br.1) (br.2 ah vG)
  rwa [rz] at this) _ _ _ H _ aA
 rw [zH,show n + (l.toArray.size - n)= l.toArray.size by omega] at this
 exact this
theorem Pf {w:World} (n:Nat) (hm:P.follows .mixedOrders= true) (bz:Region.lexTailB .any l.toArray n= true)
 (h:wpQuiet P l.toArray (λah=>∃k:aD w w,ah= k.world) (λa'=>∀k:aD w w,wpList P l.toArray Q (l.drop n) a' k.world) (l.take n) a):(Code.region id l.toArray true).wp P Q a w:=
 aCe (C:=λah=>∃k:aD w w,ah= k.world) n hm bz ⟨⟨w.drew,(Wt _ _).drew⟩,rfl⟩
  (by
   have e:(λa':Act=>∀k:aD w w,wpList P l.toArray Q (l.drop n) a' k.world)= (λa'=>∀ah,(∃k:aD w w,ah= k.world)->wpList P l.toArray Q (l.drop n) a' ah):=by
    exact amc
   rw [e] at h;exact h)
end
section
variable {P:Program} {ops:Array Oper} {md:Region.Mode} {C:World->Prop} {Q:Act->World->Prop}
def BA:Op->Bool
 | .move _ | .assign _ | .pick _ _ _ | .load _ _ | .binOp _ _ _ _ _ | .unOp _ _ _ | .convert _ _ _ | .fieldAddr _ _ _ | .field _ _ _ | .indexAddr _ _ _ | .extract _ _ | .slice _ _ _ _ _ | .build _ _ | .index _ _ _ | .nilCheck _=>true
 | .call {callee:= .builtin .len,args:=_,argTypes:=_}=>true
 | .call {callee:= .builtin .cap,args:=_,argTypes:=_}=>true
 | _=>false
theorem acf {s:Result Value}:(s.andThen λx w=>(.ok (.value x) w:Result Next))≠.ok (.enter f args) ah:=by
 cases s <;> simp [Result.andThen]
theorem aco {α:Type} {x:Sem α} {k:α->Sem Next} {w:World} (h:∀a bm,(k a).run P bm≠.ok (.enter f args) ah):(x >>= k).run P w≠.ok (.enter f args) ah:=by
 simp only [Sem.run_bind]
 cases x.run P w with
 | ok a bm=>exact h a bm
 | halt e bm=>intro h2;simp [Result.andThen] at h2
theorem axz {o:Oper} {x:Operand} (dn:o.op= .nilCheck x) (Tt:Operand->Value) (w:World) (f:FuncId) (args:Array Value) (ah:World):(execOp Tt o).run P w≠.ok (.enter f args) ah:=by
 unfold execOp
 simp only [dn]
 have aS:∀(v:Value) (bm:World),(pure (Next.value v):Sem Next).run P bm≠.ok (.enter f args) ah:=λv bm h=>by simp only [Sem.run_pure] at h;injection h with h _;cases h
 have bq:∀bm,(runtimePanic .nilDeref:Sem Next).run P bm≠.ok (.enter f args) ah:=λbm h=>by unfold runtimePanic at h;simp at h
 split
 .exact bq _
 .exact bq _
 .exact bq _
 .split
  .exact bq _
  .refine aco λa bm=>aco λb aI=>?_
   split
   .intro h;simp at h
   .exact aS _ _
  .exact aS _ _
 .exact aS _ _
theorem aBo {o:Oper} (h:BA o.op= true) (Tt:Operand->Value) (w:World) (f:FuncId) (args:Array Value) (ah:World):(execOp Tt o).run P w≠.ok (.enter f args) ah:=by
 cases dn:o.op
 case nilCheck x=>exact axz dn Tt w f args ah
 case call c=>
  rw [dn] at h
  unfold execOp
  simp only [dn]
  obtain⟨IY,aCD,at_⟩:=c
  cases IY with
  | builtin b=>
   cases b <;> first | (simp [BA] at h;done) | skip
   all_goals simp only [resolve,invoke,builtin,Sem.run_bind,Sem.run_pure,Result.andThen_ok]
   all_goals exact acf
  | value f=>simp [BA] at h
  | invoke r n=>simp [BA] at h
 all_goals unfold execOp
 all_goals rw [dn] at h
 all_goals first | (simp [BA] at h;done) | skip
 all_goals simp only [dn,Sem.run_bind,Sem.run_pure]
 all_goals first | exact acf | (intro h2;cases h2;done) | skip
 all_goals (intro h2;revert h2;generalize Sem.run P _ w= s;cases s <;> simp [Result.andThen])
def jO (Q:Act->World->Prop):Exit->Act->World->Prop:=λe a w=>e= .normal/\Q a w
theorem Ea:¬LetsOut (jO Q):=λ⟨_,_,h⟩=>by have:=h.1;cases this
def nL (P:Program) (ops:Array Oper) (C:World->Prop) (o:Oper) (v:Value) (a:Act):Prop:=
 (Region.wanted o (yielded ops a.tmps)= true/\∀w,C w->((execOp a.eval o).run P w= .ok (.value v) w\/((execOp a.eval o).run P w= .ok .skip w/\v= undef)))\/
 (Region.wanted o (yielded ops a.tmps)= false/\v= undef)
theorem nL.of_same {o:Oper} {a':Act} (hy:nL P ops C o v a) (he:execOp a'.eval o= execOp a.eval o)
 (hw:Region.wanted o (yielded ops a'.tmps)= Region.wanted o (yielded ops a.tmps)):nL P ops C o v a':=by
 unfold nL at *
 rw [he,hw]
 exact hy
theorem YieldsIn.aIf {o:Oper} (ax:BA o.op= true) (hy:YieldsIn P ops C o v a):nL P ops C o v a:=by
 rcases hy with ⟨h1,h2⟩ | h
 .refine .inl ⟨h1,λw hw=>?_⟩
  have h3:=h2 w hw
  unfold Oper.quietAt at h3
  have h4:=aBo (P:=P) ax a.eval w
  generalize (execOp a.eval o).run P w= r at h3 h4
  cases r with
  | ok n ah=>
   cases n <;> simp only [Oper.quietUpon] at h3
   case value u=>obtain⟨rfl,rfl⟩:=h3;exact .inl rfl
   case skip=>obtain⟨rfl,rfl⟩:=h3;exact .inr ⟨rfl,rfl⟩
   case enter f args=>exact absurd rfl (h4 f args ah)
  | halt x ah=>simp only [Oper.quietUpon] at h3
 .exact .inr h
theorem nL.wpOp {o:Oper} {w:World} (bo:ops[i]? =some o) (hy:nL P ops C o v a) (aA:C w) (h:K (a.put o.dst v) w):wpOp P ops Q' i K a w:=by
 unfold Go.wpOp
 simp only [bo]
 rcases hy with ⟨hw,az⟩ | ⟨hw,rfl⟩
 .simp only [hw,if_true]
  refine .inl ?_
  unfold Oper.wp
  rcases az w aA with bu | ⟨bu,rfl⟩ <;> rw [bu] <;> simp only [Oper.upon] <;> exact h
 .simp only [hw,ZJ,if_false];exact h
theorem put_defers (a:Act) (x:Option Tmp) (v:Value) (d:Deferred):({a.put x v with defers:=d ::(a.put x v).defers}:Act)= ({a with defers:=d ::a.defers}:Act).put x v:=by
 cases x <;> rfl
theorem wpOp_put (cc:ops[j]? =some ga) (kS:eX.apart ops ga= true)
 (aua:∀cs b,eX.op≠.select cs b) (aub:∀cs b,ga.op≠.select cs b) {w:World}
 (hy:nL P ops C eX v a) (h:wpOp P ops (jO Q) j K (a.put eX.dst v) w):
  wpOp P ops (jO Q) j (λa' ah=>nL P ops C eX v a'/\K (a'.put eX.dst v) ah) a w:=by
 obtain⟨h1,h2,h3⟩:=Oper.apart_spec kS
 have keep:∀(a:Act),nL P ops C eX v a->∀u,nL P ops C eX v (a.put ga.dst u):=λa hy u=>
  hy.of_same (execOp_put eX aua a ga.dst u h3) (wanted_put eX a ga.dst u h3)
 unfold wpOp at *
 simp only [cc] at *
 rw [wanted_put ga a eX.dst v h1] at h
 split
 .rename_i hw
  simp only [hw,if_true] at h
  rcases h with h | h
  .refine .inl ?_
   unfold Oper.wp at *
   rw [execOp_put ga aub a eX.dst v h1] at h
   generalize (execOp a.eval ga).run P w= r at *
   cases r with
   | ok n ah=>
    cases n <;> simp only [Oper.upon] at h ⊢
    case value u=>exact⟨keep a hy u,by rw [<- Act.put_comm a v u h2];exact h⟩
    case skip=>exact⟨keep a hy _,by rw [<- Act.put_comm a v undef h2];exact h⟩
    case defer d=>
     refine⟨keep {a with defers:=d ::a.defers} hy undef,?_⟩
     rw [put_defers,Act.put_comm _ v undef h2] at h
     exact h
    case enter f args=>
     refine h.mono λe fG he=>?_
     cases e with
     | returned u=>exact⟨keep a hy u,by rw [<- Act.put_comm a v u h2];exact he⟩
     | panicked c=>exact absurd he.1 ZX
     | outgrown=>exact absurd he Ea
    case row row args=>exact h.mono λu fG he=>⟨keep a hy u,by rw [<- Act.put_comm a v u h2];exact he⟩
   | halt x ah=>cases x <;> simp only [Oper.upon] at h ⊢ <;> exact absurd h.1 ZX
  .exact absurd h.2 Ea
 .rename_i hw
  simp only [hw] at h
  exact⟨keep a hy _,by rw [<- Act.put_comm a v undef h2];exact h⟩
def uZ (P:Program) (md:Region.Mode) (ops:Array Oper) (C:World->Prop) (Q:Act->World->Prop):Nat->Array Bool->Act->World->Prop
 | 0,listed,a,w=>C w/\Region.ready md ops listed= []/\Q a w
 | f + 1,listed,a,w=>C w/\Region.ready md ops listed≠[]/\∀i ∈ Region.ready md ops listed,wpOp P ops (jO Q) i (uZ P md ops C Q f (listed.setIfInBounds i true)) a w
theorem uZ.avQ:∀{f:Nat} {listed:Array Bool} {a:Act} {w:World},uZ P md ops C Q f listed a w->C w
 | 0,_,_,_,h=>h.1
 | _ + 1,_,_,_,h=>h.1
theorem aHe:∀(f:Nat) (listed:Array Bool) (a:Act) (w:World),uZ P md ops C Q f listed a w->wpAny P md ops (jO Q) f listed a w
 | 0,_,_,_,h=>⟨h.2.1,rfl,h.2.2⟩
 | f + 1,_,_,_,h=>⟨λh0=>absurd h0 h.2.1,λi bo=>wpOp_mono (λa' ah ez=>aHe f _ a' ah ez) (h.2.2 i bo)⟩
theorem ake (bo:ops[i]? =some eX) (gO:∀(j:Nat) (o:Oper) cs b,ops[j]? =some o->o.op≠.select cs b):
  ∀(f:Nat) (listed:Array Bool) (a:Act) (w:World),
   (∀j ga,ops[j]? =some ga->j≠i->listed.getD j true= false->(∀e ∈ ga.after,Region.binds md e= true->e.on≠i)->eX.apart ops ga= true)->
   i ∈ Region.ready md ops listed->nL P ops C eX v a->C w->
   uZ P md ops C Q f (listed.setIfInBounds i true) (a.put eX.dst v) w->uZ P md ops C Q (f + 1) listed a w:=by
 intro f
 induction f with
 | zero=>
  intro listed a w _ bu hy aA H
  refine⟨aA,λh=>rX,λj cc=>?_⟩
  by_cases sM:j= i
  .subst sM;exact hy.wpOp bo aA H
  .have:=ready_mono cc sM
   rw [H.2.1] at this;cases this
 | succ f eR=>
  intro listed a w Np bu hy aA H
  have zI:=(mem_ready.1 bu).1
  refine⟨aA,λh=>rX,λj cc=>?_⟩
  by_cases sM:j= i
  .subst sM;exact hy.wpOp bo aA H
  .have h1:=H.2.2 j (ready_mono cc sM)
   obtain⟨Nv,ga,je,my⟩:=mem_ready.1 cc
   have aFJ:∀e ∈ ga.after,Region.binds md e= true->e.on≠i:=λe he aB heq=>by
    have h1:=my e he aB
    rw [heq,getD_both zI] at h1
    cases h1
   have h2:=wpOp_put je (Np j ga je sM Nv aFJ) (λcs b=>gO i eX cs b bo) (λcs b=>gO j ga cs b je) hy h1;have WE:∀k ok,ops[k]? =some ok->k≠i->(listed.setIfInBounds j true).getD k true= false->
     (∀e ∈ ok.after,Region.binds md e= true->e.on≠i)->eX.apart ops ok= true:=λk ok ax WS zI ha=>by
    refine Np k ok ax WS ?_ ha
    by_cases CL:j= k
    .subst CL;exact Nv
    .rw [getD_set_ne true CL] at zI;exact zI
   refine wpOp_mono (λa' ah h3=>eR (listed.setIfInBounds j true) a' ah WE (ready_mono bu (Ne.symm sM)) h3.1 h3.2.avQ ?_) h2
   rw [Array.setIfInBounds_comm _ _ sM]
   exact h3.2
theorem aBY {f:Nat} {w:World} (bu:Region.ready md ops listed= [i]) (aA:C w)
 (h:wpOp P ops (jO Q) i (uZ P md ops C Q f (listed.setIfInBounds i true)) a w):uZ P md ops C Q (f + 1) listed a w:=
  ⟨aA,by rw [bu];simp,λj cc=>by rw [bu] at cc;have:j= i:=by simpa using cc
                                subst this;exact h⟩
def tg (ops:Array Oper) (i:Nat):Bool:=match ops[i]? with | some o=>BA o.op | none=>false
def EX (md:Region.Mode) (ops:Array Oper):List (Nat×Bool)->Array Bool->Bool
 | [],listed=>(Region.ready md ops listed).isEmpty
 | (i,false) ::r,listed=>(Region.ready md ops listed).contains i && Region.free md ops listed i && tg ops i && EX md ops r (listed.setIfInBounds i true)
 | (i,true) ::r,listed=>decide (Region.ready md ops listed= [i]) && EX md ops r (listed.setIfInBounds i true)
def HZ (P:Program) (ops:Array Oper) (C:World->Prop) (Q:Act->World->Prop):List (Nat×Bool)->Act->World->Prop
 | [],a,w=>Q a w
 | (i,false) ::r,a,w=>qOp P ops C i (λa'=>HZ P ops C Q r a' w) a
 | (i,true) ::r,a,w=>wpOp P ops (jO Q) i (λa' ah=>C ah/\HZ P ops C Q r a' ah) a w
theorem aHd (gO:Region.noSelect ops= true):∀(r:List (Nat×Bool)) (listed:Array Bool) (a:Act) (w:World),EX md ops r listed= true->C w->HZ P ops C Q r a w->uZ P md ops C Q r.length listed a w
 | [],listed,a,w,bz,aA,h=>⟨aA,by simpa [EX] using bz,h⟩
 | (i,false) ::r,listed,a,w,bz,aA,h=>by
  simp only [EX,Xa] at bz
  obtain⟨⟨⟨h1,h2⟩,h3⟩,h4⟩:=bz
  have bu:i ∈ Region.ready md ops listed:=by simpa using h1
  obtain⟨_,eX,kj,_⟩:=mem_ready.1 bu
  have ax:BA eX.op= true:=by simpa [tg,kj] using h3
  obtain⟨v,hy,fj⟩:=yieldsIn_of_qOp kj h
  exact ake kj (Region.noSelect_spec gO) r.length listed a w (Region.free_spec kj h2) bu (YieldsIn.aIf ax hy) aA (aHd gO r _ _ _ h4 aA fj)
 | (i,true) ::r,listed,a,w,bz,aA,h=>by
  simp only [EX,Xa,Xf] at bz
  exact aBY bz.1 aA (wpOp_mono (λa' ah ez=>aHd gO r _ _ _ bz.2 ez.1 ez.2) h)
def ia (l:List Oper) (s:List Nat):List Oper:=s.filterMap λi=>l[i]?
def Ae (P:Program) (l:List Oper) (C:World->Prop) (Q:Act->World->Prop):List (List Nat×Nat)->List Nat->Act->World->Prop
 | [],s,a,w=>wpQuiet P l.toArray C (λa'=>Q a' w) (ia l s) a
 | (s,e) ::r,cT,a,w=>wpQuiet P l.toArray C (λa'=>wpList P l.toArray (jO λfX fG=>C fG/\Ae P l C Q r cT fX fG) (ia l [e]) a' w) (ia l s) a
def uP:List (List Nat×Nat)->List Nat->List (Nat×Bool)
 | [],s=>s.map (·,false)
 | (s,e) ::r,cT=>s.map (·,false) ++ (e,true) ::uP r cT
theorem Oper.aHf {o:Oper} {w:World} {abH:Act->World->Prop} {kD fq:Act->World->Prop} (h:∀a w,K a w->abH a w) (gl:o.wp P a w K (jO kD)):o.wp P a w abH (jO fq):=by
 unfold Oper.wp at *
 generalize (execOp a.eval o).run P w= r at *
 cases r with
 | ok n ah=>
  cases n <;> simp only [Oper.upon] at gl ⊢
  case enter f args=>
   refine gl.mono λe fG he=>?_
   cases e with
   | returned u=>exact h _ _ he
   | panicked c=>exact absurd he.1 ZX
   | outgrown=>exact absurd he Ea
  case row row args=>exact gl.mono λ_ _ he=>h _ _ he
  all_goals exact h _ _ gl
 | halt x ah=>cases x <;> simp only [Oper.upon] at gl ⊢ <;> exact absurd gl.1 ZX
theorem aFH {r:List (Nat×Bool)} {w:World}:∀(s:List Nat) (a:Act),(∀i ∈ s,i < l.length)->∀K:Act->Prop,(∀a,K a->HZ P l.toArray C Q r a w)->
  wpQuiet P l.toArray C K (ia l s) a->HZ P l.toArray C Q (s.map (·,false) ++ r) a w
 | [],a,_,K,fj,h=>fj _ h
 | i ::s,a,aP,K,fj,h=>by
  have bo:i < l.length:=aP i Wn
  have aS:ia l (i ::s)= l[i] ::ia l s:=by simp [ia,bo]
  rw [aS] at h
  have ez:qOp P l.toArray C i (wpQuiet P l.toArray C K (ia l s)) a:=by
   unfold qOp
   have:l.toArray[i]? =some l[i]:=by simp [bo]
   simp only [this]
   exact h
  exact qOp_mono (λa' h2=>aFH s a' (λj cc=>aP j (by simp [cc])) K fj h2) ez
theorem Tj (h:z:=by
 split
 .rename_i hw
  simp only [hw,if_true] at ez
  exact ez.elim (λh2=> .inl (Oper.aHf kl h2)) (λh2=>absurd h2.2 Ea)
 .rename_i hw
  simp only [hw] at ez
  exact kl _ _ ez):z:=h
theorem agX:∀{l:List Oper} (r:List (List Nat×Nat)) (cT:List Nat) (a:Act) (w:World),(∀i ∈ (uP r cT),i.1 < l.length)->Ae P l C Q r cT a w->HZ P l.toArray C Q (uP r cT) a w
 | l,[],cT,a,w,aT,h=>by
  have:=aFH (Q:=Q) (r:=[]) cT a (λi bo=>aT (i,false) (by simp [uP,bo])) _ (λa' (ez:Q a' w)=>ez) h
  simpa [uP] using this
 | l,(s,e) ::r,cT,a,w,aT,h=>by
  refine aFH s a (λi bo=>aT (i,false) (by simp [uP,bo])) _ (λa' ez=>?_) h
  have he:e < l.length:=aT (e,true) (by simp [uP])
  have aS:ia l [e]= [l[e]]:=by simp [ia,he]
  rw [aS] at ez
  show wpOp P l.toArray (jO Q) e _ a' w
  unfold wpOp
  have:l.toArray[e]? =some l[e]:=by simp [he]
  simp only [this]
  unfold wpList at ez
  have kl:∀fX fG,wpList P l.toArray (jO λfX fG=>C fG/\Ae P l C Q r cT fX fG) [] fX fG->C fG/\HZ P l.toArray C Q (uP r cT) fX fG:=λfX fG h2=>
   ⟨h2.2.1,agX r cT fX fG (λi bo=>aT i (by simp [uP,bo])) h2.2.2⟩
  exact Tj
theorem akH (h:z:=by
 have wi:(Code.region id l.toArray true).wp P (jO λa' ah=>Q .normal a' ah) a w:=wp_region_any hm (by simpa using H)
 exact Code.wp_mono (λe a w h=>by obtain⟨rfl,h⟩:=h;exact h) wi):z:=h
theorem aCd {Q:Exit->Act->World->Prop} {w:World} (C:World->Prop) (r:List (List Nat×Nat)) (cT:List Nat) (hm:P.follows .mixedOrders= true)
 (bz:(Region.noSelect l.toArray && EX .any l.toArray (uP r cT) (Array.replicate l.length false) && decide ((uP r cT).length= l.length) && (uP r cT).all (λi=>decide (i.1 < l.length)))= true)
 (aA:C w.drew) (h:Ae P l C (λa' ah=>Q .normal a' ah) r cT a w.drew):(Code.region id l.toArray true).wp P Q a w:=by
 simp only [Xa,Xf,YN] at bz
 obtain⟨⟨⟨h1,h2⟩,h3⟩,h4⟩:=bz
 have H:=aHe _ _ _ _ (aHd (md:= .any) h1 _ _ _ _ h2 aA (agX r cT a _ (λi bo=>h4 i bo) h))
 rw [h3] at H
 exact akH
structure cM (C:World->Prop) where
 world:World
 holds:C world
theorem nZ {Q:Exit->Act->World->Prop} {w:World} (C:World->Prop) (r:List (List Nat×Nat)) (cT:List Nat) (hm:P.follows .mixedOrders= true)
 (bz:(Region.noSelect l.toArray && EX .any l.toArray (uP r cT) (Array.replicate l.length false) && decide ((uP r cT).length= l.length) && (uP r cT).all (λi=>decide (i.1 < l.length)))= true)
 (aA:C w.drew) (h:Ae P l (λah=>∃k:cM C,ah= k.world) (λa' ah=>Q .normal a' ah) r cT a w.drew):(Code.region id l.toArray true).wp P Q a w:=
 aCd (λah=>∃k:cM C,ah= k.world) r cT hm bz ⟨⟨_,aA⟩,rfl⟩ h
theorem gA {s:List Nat} {r:List (List Nat×Nat)} {w:World}
 (h:∀K:Act->World->Prop,(∀a w,Ae P l C Q r cT a w->K a w)->wpQuiet P l.toArray C (λa'=>wpList P l.toArray (jO λfX fG=>C fG/\K fX fG) (ia l [e]) a' w) (ia l s) a):Ae P l C Q ((s,e) ::r) cT a w:=
 h _ (λ_ _ h=>h)
theorem ky {w:World} (h:wpQuiet P l.toArray C (λa'=>Q a' w) (ia l cT) a):Ae P l C Q [] cT a w:=h
theorem gb {C:World->Prop} {w:World} (aA:C w) (h:K a w):jO (λfX fG=>(∃k:cM C,fG= k.world)/\K fX fG) .normal a w:=⟨rfl,⟨⟨w,aA⟩,rfl⟩,h⟩
end
section
variable {P:Program} {md:Region.Mode} {C:World->Prop} {Q:Act->World->Prop}
def OV (md:Region.Mode) (ops:Array Oper):List Nat->Array Bool->Bool
 | [],_=>true
 | i ::s,listed=>(Region.ready md ops listed).contains i && Region.free md ops listed i && tg ops i && OV md ops s (listed.setIfInBounds i true)
def SQ:List Nat->Array Bool->Array Bool
 | [],L=>L
 | i ::s,L=>SQ s (L.setIfInBounds i true)
theorem UQ (gO:Region.noSelect l.toArray= true) {w:World} {f:Nat} (aA:C w) (K:Act->Prop):∀(s:List Nat) (listed:Array Bool) (a:Act),OV md l.toArray s listed= true->(∀i ∈ s,i < l.length)->
  (∀a',K a'->uZ P md l.toArray C Q f (SQ s listed) a' w)->wpQuiet P l.toArray C K (ia l s) a->uZ P md l.toArray C Q (s.length + f) listed a w
 | [],listed,a,_,_,ax,h=>by
  have ez:uZ P md l.toArray C Q f listed a w:=ax a h
  rwa [ZS,YF]
 | i ::s,listed,a,bz,aT,zs,h=>by
  simp only [OV,Xa] at bz
  obtain⟨⟨⟨h1,h2⟩,h3⟩,h4⟩:=bz
  have bo:i < l.length:=aT i Wn
  have bu:i ∈ Region.ready md l.toArray listed:=by simpa using h1
  obtain⟨_,eX,kj,_⟩:=mem_ready.1 bu
  have ax:BA eX.op= true:=by simpa [tg,kj] using h3
  have aS:ia l (i ::s)= l[i] ::ia l s:=by simp [ia,bo]
  rw [aS] at h
  have ez:qOp P l.toArray C i (wpQuiet P l.toArray C K (ia l s)) a:=by
   unfold qOp
   have:l.toArray[i]? =some l[i]:=by simp [bo]
   simp only [this]
   exact h
  obtain⟨v,hy,fj⟩:=yieldsIn_of_qOp kj ez
  have arZ:=UQ gO aA K s (listed.setIfInBounds i true) _ h4 (λj cc=>aT j (by simp [cc])) zs fj
  rw [YK,show s.length + 1 + f= (s.length + f) + 1 from by omega]
  exact ake kj (Region.noSelect_spec gO) (s.length + f) listed a w (Region.free_spec kj h2) bu (YieldsIn.aIf ax hy) aA arZ
theorem apj {w:World} (he:e < l.length) (h:wpList P l.toArray (jO K) (ia l [e]) a w):wpOp P l.toArray (jO Q) e K a w:=by
 have aS:ia l [e]= [l[e]]:=by simp [ia,he]
 rw [aS] at h
 unfold wpOp
 have:l.toArray[e]? =some l[e]:=by simp [he]
 simp only [this]
 unfold wpList at h
 have kl:∀fX fG,wpList P l.toArray (jO K) [] fX fG->K fX fG:=λfX fG h2=>h2.2
 split
 .rename_i hw
  simp only [hw,if_true] at h
  exact h.elim (λh2=> .inl (Oper.aHf kl h2)) (λh2=>absurd h2.2 Ea)
 .rename_i hw
  simp only [hw] at h
  exact kl _ _ h
def Bu (L:Array Bool):Nat:=(L.toList.filter (λb=>!b)).length
theorem aCc {Q:Exit->Act->World->Prop} {w:World} (C:World->Prop) (hm:P.follows .mixedOrders= true) (h:uZ P .any l.toArray C (λa' ah=>Q .normal a' ah) l.length (Array.replicate l.length false) a w.drew):(Code.region id l.toArray true).wp P Q a w:=by
 have H:=aHe _ _ _ _ h
 exact akH
end
section
variable {P:Program} {oa:World->Prop} {Q:Act->World->Prop} {l:List Oper}
def Rest (P:Program) (l:List Oper) (oa:World->Prop) (Q:Act->World->Prop) (L:Array Bool) (a:Act) (w:World):Prop:=uZ P .any l.toArray (λah=>∃k:cM oa,ah= k.world) Q (Bu L) L a w
def Qa (P:Program) (l:List Oper) (oa:World->Prop) (i:Nat) (s:List Nat) (a:Act) (w:World) (K:Act->World->Prop):Prop:=wpList P l.toArray (jO λfX fG=>oa fG/\wpQuiet P l.toArray (λah=>∃k:cM oa,ah= k.world) (λa3=>K a3 fG) (ia l s) fX) (ia l [i]) a w
def Gp (l:List Oper) (L:Array Bool) (i:Nat) (s:List Nat) (IL:Array Bool):Bool:=decide (i < l.length) && s.all (λi=>decide (i < l.length)) && OV .any l.toArray s (L.setIfInBounds i true) && decide (SQ s (L.setIfInBounds i true)= IL) && decide (Bu L= s.length + Bu IL + 1)
theorem aGh (gO:Region.noSelect l.toArray= true) {IL:Array Bool} {s:List Nat} {w:World} {f:Nat} (hf:Bu L= f + 1) (bz:Gp l L i s IL= true) (h:Qa P l oa i s a w (Rest P l oa Q IL)):
  wpOp P l.toArray (jO Q) i (uZ P .any l.toArray (λah=>∃k:cM oa,ah= k.world) Q f (L.setIfInBounds i true)) a w:=by
 simp only [Gp,Xa,Xf,YN] at bz
 obtain⟨⟨⟨⟨dc,dr⟩,eb⟩,eL⟩,gw⟩:=bz
 refine wpOp_mono (λfX fG arI=>?_) (apj dc h)
 obtain⟨arN,bt⟩:=arI
 have cy:f= s.length + Bu IL:=KK
 rw [cy]
 exact UQ gO ⟨⟨fG,arN⟩,rfl⟩ _ s _ fX eb dr (λa' Gy=>by rw [eL];exact Gy) bt
theorem aGj (i1:Nat) (s1:List Nat) (LQ:Array Bool) (i2:Nat) (s2:List Nat) (abI:Array Bool) {w:World} (bz:(Region.noSelect l.toArray && decide (Region.ready .any l.toArray L= [i1,i2]) && Gp l L i1 s1 LQ && Gp l L i2 s2 abI)= true) (aA:oa w)
 (h1:∀K:Act->World->Prop,(∀a w,Rest P l oa Q LQ a w->K a w)->Qa P l oa i1 s1 a w K) (h2:∀K:Act->World->Prop,(∀a w,Rest P l oa Q abI a w->K a w)->Qa P l oa i2 s2 a w K):Rest P l oa Q L a w:=by
 simp only [Xa,Xf] at bz
 obtain⟨⟨⟨gO,bu⟩,e1⟩,e2⟩:=bz
 have Mq:=e1
 simp only [Gp,Xa,Xf] at Mq
 obtain⟨f,hf⟩ :∃f,Bu L= f + 1:=⟨_,Mq.2⟩
 unfold Rest
 rw [hf]
 refine⟨⟨⟨w,aA⟩,rfl⟩,by rw [bu];simp,λi bo=>?_⟩
 rw [bu] at bo
 simp only [Xl,YT,or_false] at bo
 rcases bo with rfl | rfl
 .exact aGh gO hf e1 (h1 _ λ_ _ h=>h)
 .exact aGh gO hf e2 (h2 _ λ_ _ h=>h)
theorem Dt (i1:Nat) (s1:List Nat) (LQ:Array Bool) {w:World} (bz:(Region.noSelect l.toArray && decide (Region.ready .any l.toArray L= [i1]) && Gp l L i1 s1 LQ)= true) (aA:oa w)
 (h1:∀K:Act->World->Prop,(∀a w,Rest P l oa Q LQ a w->K a w)->Qa P l oa i1 s1 a w K):Rest P l oa Q L a w:=by
 simp only [Xa,Xf] at bz
 obtain⟨⟨gO,bu⟩,e1⟩:=bz
 have Mq:=e1
 simp only [Gp,Xa,Xf] at Mq
 obtain⟨f,hf⟩ :∃f,Bu L= f + 1:=⟨_,Mq.2⟩
 unfold Rest
 rw [hf]
 refine⟨⟨⟨w,aA⟩,rfl⟩,by rw [bu];simp,λi bo=>?_⟩
 rw [bu] at bo
 simp only [Xl,YT,or_false] at bo
 subst bo
 exact aGh gO hf e1 (h1 _ λ_ _ h=>h)
theorem aGi {w:World} (bz:(decide (Region.ready .any l.toArray L= []) && decide (Bu L= 0))= true) (aA:oa w) (h:Q a w):Rest P l oa Q L a w:=by
 simp only [Xa,Xf] at bz
 unfold Rest
 rw [bz.2]
 exact⟨⟨⟨w,aA⟩,rfl⟩,bz.1,h⟩
theorem akj {Q:Exit->Act->World->Prop} {w:World} (oa:World->Prop) (s0:List Nat) (PU:Array Bool) (hm:P.follows .mixedOrders= true)
 (bz:(Region.noSelect l.toArray && OV .any l.toArray s0 (Array.replicate l.length false) && decide (SQ s0 (Array.replicate l.length false)= PU) && decide (l.length= s0.length + Bu PU) && s0.all (λi=>decide (i < l.length)))= true)
 (aA:oa w.drew) (h:∀K:Act->World->Prop,(∀a w,Rest P l oa (λa' ah=>Q .normal a' ah) PU a w->K a w)->wpQuiet P l.toArray (λah=>∃k:cM oa,ah= k.world) (λa'=>K a' w.drew) (ia l s0) a):(Code.region id l.toArray true).wp P Q a w:=by
 simp only [Xa,Xf,YN] at bz
 obtain⟨⟨⟨⟨dc,dr⟩,eb⟩,eL⟩,gw⟩:=bz
 refine aCc (λah=>∃k:cM oa,ah= k.world) hm ?_
 have aP:=UQ (P:=P) (md:= .any) (Q:=λa' ah=>Q .normal a' ah) (f:=Bu PU) dc (w:=w.drew) ⟨⟨_,aA⟩,rfl⟩ _ s0 (Array.replicate l.length false) a dr gw (λa' Gy=>by rw [eb];exact Gy) (h _ λ_ _ h=>h)
 rwa [<- eL] at aP
end
section
variable {P:Program} {ops:Array Oper} {md:Region.Mode} {C:World->Prop} {Q:Act->World->Prop}
def xK (md:Region.Mode) (ops:Array Oper) (y x:Nat):Bool:=match ops[y]? with | some o=>o.after.any (λe=>Region.binds md e && e.on == x) | none=>false
def yN (ops:Array Oper) (x y:Nat):Bool:=match ops[x]?,ops[y]? with | some a,some b=>a.apart ops b | _,_=>false
def HN (md:Region.Mode) (ops:Array Oper):Nat->Nat->Nat->Bool
 | 0,y,x=>xK md ops y x
 | n + 1,y,x=>xK md ops y x || (List.range ops.size).any λm=>xK md ops y m && HN md ops n m x
def HH (k:Nat):Bool:=k == 4 || k == 6
def wE (k:Nat):Bool:=k == 0 || k == 2
def EZ (x y:Nat):Bool:=(wE x && y != 5) || HH x || (x == 1 && (y == 0 || y == 1 || y == 6))
def Br (md:Region.Mode) (ops:Array Oper) (x y:Nat×Nat):Bool:=
 !(xK md ops x.1 y.1) && !(x.1 == y.1) && !(x.2 == 5 && wE y.2) && ((EZ x.2 y.2 && yN ops x.1 y.1) || HN md ops 3 y.1 x.1)
def Kf (md:Region.Mode) (ops:Array Oper):List (Nat×Nat)->Bool
 | []=>true
 | x ::r=>r.all (Br md ops x) && Kf md ops r
theorem ahB:∀{r:List (Nat×Nat)},Kf md ops r= true->r.Pairwise λx y=>Br md ops x y= true
 | [],_=> .nil
 | x ::r,h=>by
  simp only [Kf,Xa,YN] at h
  exact .cons (λy hy=>h.1 y hy) (ahB h.2)
def Pb (md:Region.Mode) (ops:Array Oper):Bool:=(List.range ops.size).all λi=>match ops[i]? with | some o=>o.after.all (λe=>!(Region.binds md e) || (decide (e.on < ops.size) && !(e.on == i))) | none=>true
theorem QA:xK md ops y x= true↔∃o,ops[y]? =some o/\∃e ∈ o.after,Region.binds md e= true/\e.on= x:=by
 unfold xK
 cases h:ops[y]? with
 | none=>simp
 | some o=>
  simp only [<- Array.any_toList,List.any_eq_true]
  simp
theorem Mg:yN ops x y= true↔∃a b,ops[x]? =some a/\ops[y]? =some b/\a.apart ops b= true:=by
 unfold yN
 cases h:ops[x]? with
 | none=>simp
 | some a=>cases h2:ops[y]? with
  | none=>simp
  | some b=>simp
structure Fit (md:Region.Mode) (ops:Array Oper) (r:List (Nat×Nat)) (listed:Array Bool):Prop where
 wf:Pb md ops= true
 size:listed.size= ops.size
 mem:∀i,i < ops.size->(listed.getD i true= false↔∃k,(i,k) ∈ r)
 lt:∀x ∈ r,x.1 < ops.size
 HI:r.Pairwise λx y=>Br md ops x y= true
 IY:∀x y,xK md ops y x= true->listed.getD x true= false->listed.getD y true= false
theorem Fit.Sh {r:List (Nat×Nat)} (_:Fit md ops r listed) (he:xK md ops j x= true) (av:listed.getD x true= false) (cc:j ∈ Region.ready md ops listed):False:=by
 obtain⟨_,o,dn,h2⟩:=mem_ready.1 cc
 obtain⟨oC,Nz,e,hm,aB,atK⟩:=QA.1 he
 have:o= oC:=Wx (dn.symm.trans Nz)
 subst this
 have h3:=h2 e hm aB
 rw [atK] at h3
 rw [getD_both av] at h3;cases h3
theorem Fit.reach {r:List (Nat×Nat)} (h:Fit md ops r listed) (av:listed.getD x true= false):∀(n y:Nat),HN md ops n y x= true->listed.getD y true= false
 | 0,y,he=>h.IY x y he av
 | n + 1,y,he=>by
  simp only [HN,Bool.or_eq_true,List.any_eq_true,Xa] at he
  rcases he with he | ⟨m,_,h1,h2⟩
  .exact h.IY x y he av
  .exact h.IY m y h1 (h.reach av n m h2)
theorem Fit.axC {r:List (Nat×Nat)} (h:Fit md ops r listed) (av:listed.getD x true= false) (cc:j ∈ Region.ready md ops listed):∀n,HN md ops n j x= false:=by
 intro n
 cases bu:HN md ops n j x with
 | false=>rfl
 | true=>
  exfalso
  cases n with
  | zero=>exact h.Sh bu av cc
  | succ n=>
   simp only [HN,Bool.or_eq_true,List.any_eq_true,Xa] at bu
   rcases bu with he | ⟨m,_,h1,h2⟩
   .exact h.Sh he av cc
   .exact h.Sh h1 (h.reach av n m h2) cc
theorem Fit.step {p:List (Nat×Nat)} (h:Fit md ops (p ++ (j,k) ::s) listed) (atq:j ∈ Region.ready md ops listed):Fit md ops (p ++ s) (listed.setIfInBounds j true):=by
 have CT:(p ++ s).Sublist (p ++ (j,k) ::s):=List.Sublist.append_left (List.sublist_cons_self _ _) p
 refine⟨h.wf,by simpa using h.size,λi bo=>?_,λx av=>h.lt x (CT.subset av),h.HI.sublist CT,λx y he av=>?_⟩
 case refine_2=>
  have nx:listed.getD x true= false:=by
   by_cases aeR:j= x
   .subst aeR
    exfalso
    by_cases aT:j < listed.size
    .simp [ZC,Array.getElem?_setIfInBounds_self_of_lt aT] at av
    .simp [ZC,aT] at av
   .simpa [ZC,Array.getElem?_setIfInBounds_ne aeR] using av
  by_cases aeS:j= y
  .subst aeS
   exact (h.Sh he nx atq).elim
  .have:=h.IY x y he nx
   simpa [ZC,Array.getElem?_setIfInBounds_ne aeS] using this
 by_cases EF:j= i
 .subst EF
  have cc:j < listed.size:=by rw [h.size];exact bo
  have h1:(listed.setIfInBounds j true).getD j true= true:=by simp [ZC,Array.getElem?_setIfInBounds_self_of_lt cc]
  rw [h1]
  refine⟨λh2=>(by cases h2),λ⟨jx,ax⟩=>?_⟩
  exfalso
  rcases YC.1 ax with ax | ax
  .have:=(List.pairwise_append.1 h.HI).2.2 _ ax (j,k) Wn
   simp [Br] at this
  .have:=(YM.1 (List.pairwise_append.1 h.HI).2.1).1 _ ax
   simp [Br] at this
 .have h1:(listed.setIfInBounds j true).getD i true= listed.getD i true:=by simp [ZC,Array.getElem?_setIfInBounds_ne EF]
  rw [h1,h.mem i bo]
  constructor
  .rintro ⟨jx,ax⟩
   refine⟨jx,?_⟩
   rcases YC.1 ax with ax | ax
   .exact Yj _ ax
   .rcases Xl.1 ax with ax | ax
    .exact absurd (Xc Prod.fst ax).symm EF
    .exact ZI _ ax
  .rintro ⟨jx,ax⟩
   exact⟨jx,CT.subset ax⟩
theorem arF (bo:i < listed.size) (h:¬listed.getD i true= false):listed.getD i false= true:=by
 simp only [ZC,Array.getElem?_eq_getElem bo,Yf] at h ⊢
 cases gl:listed[i] with
 | true=>rfl
 | false=>exact absurd gl h
theorem Fit.head {x:Nat×Nat} (h:Fit md ops (x ::s) listed):x.1 ∈ Region.ready md ops listed:=by
 have av:=h.lt x Wn
 refine mem_ready.2 ⟨(h.mem _ av).2 ⟨x.2,by simp⟩,ops[x.1],Array.getElem?_eq_getElem av,λe he aB=>?_⟩
 have XA:=h.wf
 unfold Pb at XA
 rw [YN] at XA
 have h1:=XA x.1 (List.mem_range.2 av)
 simp only [Array.getElem?_eq_getElem av,Array.all_eq_true_iff_forall_mem] at h1
 have h2:=h1 e he
 simp only [aB,Zb,Bool.false_or,Xa,Xf,YJ,Xb] at h2
 refine arF (by rw [h.size];exact h2.1) λhf=>?_
 obtain⟨k,ax⟩:=(h.mem _ h2.1).1 hf
 rcases Xl.1 ax with ax | ax
 .exact h2.2 (Xc Prod.fst ax)
 .have:=(YM.1 h.HI).1 _ ax
  simp only [Br,Xa,YJ] at this
  have h3:xK md ops x.1 e.on= true:=QA.2 ⟨_,Array.getElem?_eq_getElem av,e,he,aB,rfl⟩
  rw [this.1.1.1] at h3;cases h3
theorem Fit.ready {r:List (Nat×Nat)} (h:Fit md ops r listed) (cc:j ∈ Region.ready md ops listed):
  ∃p k s,r= p ++ (j,k) ::s/\(∀x ∈ p,EZ x.2 k= true/\yN ops x.1 j= true)/\(k= 5->∀x ∈ s,wE x.2= false):=by
 obtain⟨h1,o,dn,h2⟩:=mem_ready.1 cc
 have bC:j < ops.size:=(Array.getElem?_eq_some_iff.1 dn).1
 obtain⟨k,ax⟩:=(h.mem j bC).1 h1
 obtain⟨p,s,bu⟩:=List.append_of_mem ax
 refine⟨p,k,s,bu,λx av=>?_,λWQ x av=>?_⟩
 case refine_2=>
  subst bu WQ
  have aS:=(YM.1 (List.pairwise_append.1 h.HI).2.1).1 x av
  simp only [Br,Xa,YJ] at aS
  simpa using aS.1.2
 subst bu
 have aS:=(List.pairwise_append.1 h.HI).2.2 x av (j,k) Wn;have JH:=(h.mem x.1 (h.lt x (Yj _ av))).2 ⟨x.2,Yj _ av⟩;have ew:=h.axC JH cc 3
 simp only [Br,ew,Bool.or_false,Xa] at aS
 exact aS.2
def sB (C:World->Prop) (k:Nat):World->Prop:=λw=>HH k= true\/C w
def iF (P:Program) (ops:Array Oper) (C:World->Prop) (Q:Act->World->Prop):List (Nat×Nat)->Act->World->Prop
 | [],a,w=>Q a w
 | (i,k) ::r,a,w=>if k= 3 then wpOp P ops (jO Q) i (λa' ah=>C ah/\iF P ops C Q r a' ah) a w
  else if k= 5 then wpOp P ops (jO Q) i (λa' ah=>iF P ops C Q r a' ah) a w
  else∃eX v,ops[i]? =some eX/\nL P ops (sB C k) eX v a/\iF P ops C Q r (a.put eX.dst v) w
theorem xp (gO:Region.noSelect ops= true) {o:Oper} (h:ops[i]? =some o):∀cs b,o.op≠.select cs b:=λcs b=>Region.noSelect_spec gO i o cs b h
theorem alb (h:z:=by
 refine⟨eX,tT,kj,ER.of_same (execOp_put eX (xp gO kj) a ga.dst v h3) (wanted_put eX a ga.dst v h3),?_⟩
 rw [<- Act.put_comm a tT v h2]
 exact aP):z:=h
theorem abR (gO:Region.noSelect ops= true) (GQ:EV≠3/\EV≠5):∀(p:List (Nat×Nat)) (a:Act) (w:World),(∀x ∈ p,(x.2≠3/\x.2≠5)/\yN ops x.1 j= true)->iF P ops C Q (p ++ (j,EV) ::s) a w->
  ∃ga v,ops[j]? =some ga/\nL P ops (sB C EV) ga v a/\iF P ops C Q (p ++ s) (a.put ga.dst v) w
 | [],a,w,_,h=>by
  simp only [List.nil_append,iF,XU GQ.1,XU GQ.2] at h
  exact h
 | (i,k) ::p,a,w,aS,h=>by
  have bo:=aS (i,k) Wn
  simp only [YL,iF,XU bo.1.1,XU bo.1.2] at h
  obtain⟨eX,tT,kj,ER,bu⟩:=h
  obtain⟨ga,v,je,NQ,aP⟩:=abR gO GQ p _ w (λx av=>aS x Ye) bu
  obtain⟨a1,dc,e1,e2,kS⟩:=Mg.1 bo.2
  obtain rfl:=Wx (kj.symm.trans e1)
  obtain rfl:=Wx (je.symm.trans e2)
  obtain⟨h1,h2,h3⟩:=Oper.apart_spec kS
  refine⟨ga,v,je,NQ.of_same (execOp_put ga (xp gO je) a eX.dst tT h1).symm (wanted_put ga a eX.dst tT h1).symm,?_⟩
  simp only [YL,iF,XU bo.1.1,XU bo.1.2]
  exact alb
theorem abN (gO:Region.noSelect ops= true) (je:ops[j]? =some ga):∀(p:List (Nat×Nat)) (a:Act) (w:World),(∀x ∈ p,(x.2≠3/\x.2≠5)/\yN ops x.1 j= true)->iF P ops C Q (p ++ (j,3) ::s) a w->
  wpOp P ops (jO Q) j (λa' ah=>C ah/\iF P ops C Q (p ++ s) a' ah) a w
 | [],a,w,_,h=>by
  simp only [List.nil_append,iF,if_true] at h
  exact h
 | (i,k) ::p,a,w,aS,h=>by
  have bo:=aS (i,k) Wn
  simp only [YL,iF,XU bo.1.1,XU bo.1.2] at h
  obtain⟨eX,tT,kj,ER,bu⟩:=h
  have eR:=abN gO je p _ w (λx av=>aS x Ye) bu
  obtain⟨a1,dc,e1,e2,kS⟩:=Mg.1 bo.2
  obtain rfl:=Wx (kj.symm.trans e1)
  obtain rfl:=Wx (je.symm.trans e2)
  refine wpOp_mono (λa' ah ez=>⟨ez.2.1,?_⟩) (wpOp_put je kS (xp gO kj) (xp gO je) ER eR)
  simp only [YL,iF,XU bo.1.1,XU bo.1.2]
  exact⟨eX,tT,kj,ez.1,ez.2.2⟩
theorem abO (gO:Region.noSelect ops= true) (je:ops[j]? =some ga):∀(p:List (Nat×Nat)) (a:Act) (w:World),(∀x ∈ p,(x.2≠3/\x.2≠5)/\yN ops x.1 j= true)->iF P ops C Q (p ++ (j,5) ::s) a w->
  wpOp P ops (jO Q) j (λa' ah=>iF P ops C Q (p ++ s) a' ah) a w
 | [],a,w,_,h=>by
  simp only [List.nil_append,iF] at h
  exact h
 | (i,k) ::p,a,w,aS,h=>by
  have bo:=aS (i,k) Wn
  simp only [YL,iF,XU bo.1.1,XU bo.1.2] at h
  obtain⟨eX,tT,kj,ER,bu⟩:=h
  have eR:=abO gO je p _ w (λx av=>aS x Ye) bu
  obtain⟨a1,dc,e1,e2,kS⟩:=Mg.1 bo.2
  obtain rfl:=Wx (kj.symm.trans e1)
  obtain rfl:=Wx (je.symm.trans e2)
  refine wpOp_mono (λa' ah ez=>?_) (wpOp_put je kS (xp gO kj) (xp gO je) ER eR)
  simp only [YL,iF,XU bo.1.1,XU bo.1.2]
  exact⟨eX,tT,kj,ez.1,ez.2⟩
theorem axN (h:EZ x k= true):x≠3/\x≠5:=by
 constructor
 .rintro rfl;simp [EZ,wE,HH] at h
 .rintro rfl;simp [EZ,wE,HH] at h
theorem axM (h:EZ x 5= true):wE x= false:=by
 cases aN:wE x with
 | false=>rfl
 | true=>
  simp only [wE,Bool.or_eq_true,Xx] at aN
  rcases aN with rfl | rfl <;> simp [EZ,wE,HH] at h
theorem KI (gO:Region.noSelect ops= true):∀(n:Nat) (r:List (Nat×Nat)) (listed:Array Bool) (a:Act) (w:World),r.length= n->(∀x ∈ r,x.2≠1/\x.2<=6)->Fit md ops r listed->((∀x ∈ r,wE x.2= false)\/C w)->iF P ops C Q r a w->wpAny P md ops (jO Q) n listed a w
 | 0,r,listed,a,w,bq,_,hf,aA,h=>by
  obtain rfl:=YD.1 bq
  refine⟨List.eq_nil_iff_forall_not_mem.2 λj cc=>?_,rfl,h⟩
  obtain⟨p,k,s,bu,_⟩:=hf.ready cc
  simp at bu
 | n + 1,r,listed,a,w,bq,h1,hf,aA,h=>by
  refine⟨λh0=>?_,λj cc=>?_⟩
  .cases r with
   | nil=>simp at bq
   | cons x s=>have:=hf.head;rw [h0] at this;cases this
  .obtain⟨p,k,s,rfl,aS,WQ⟩:=hf.ready cc
   have aFN:∀x ∈ p,(x.2≠3/\x.2≠5)/\yN ops x.1 j= true:=λx av=>⟨axN (aS x av).1,(aS x av).2⟩
   have hlen:(p ++ s).length= n:=by simp at bq ⊢;omega
   have CT:(p ++ s).Sublist (p ++ (j,k) ::s):=List.Sublist.append_left (List.sublist_cons_self _ _) p
   have sD:∀x ∈ p ++ s,x.2≠1/\x.2<=6:=λx av=>h1 x (CT.subset av)
   have bC:=hf.lt (j,k) Wn
   by_cases ax:k= 3
   .subst ax
    exact wpOp_mono (λa' ah ez=>KI gO n _ _ _ _ hlen sD (hf.step cc) (.inr ez.1) ez.2) (abN gO (Array.getElem?_eq_getElem bC) p a w aFN h)
   .by_cases nw:k= 5
    .subst nw
     have ha:∀x ∈ p ++ s,wE x.2= false:=λx av=>by
      rcases YC.1 av with av | av
      .exact axM (aS x av).1
      .exact WQ rfl x av
     exact wpOp_mono (λa' ah ez=>KI gO n _ _ _ _ hlen sD (hf.step cc) (.inl ha) ez) (abO gO (Array.getElem?_eq_getElem bC) p a w aFN h)
    .obtain⟨ga,v,je,hy,aP⟩:=abR gO ⟨ax,nw⟩ p a w aFN h
     have mN:sB C k w:=by
      have zs:=h1 (j,k) Wn
      simp only at zs
      unfold sB
      rcases aA with aA | aA
      .have h3:=aA (j,k) Wn
       left
       simp only [wE,Bool.or_eq_false_iff,Xb] at h3
       have:k= 4\/k= 6:=KK
       rcases this with rfl | rfl <;> rfl
      .exact .inr aA
     refine hy.wpOp je mN (KI gO n _ _ _ _ hlen sD (hf.step cc) ?_ aP)
     rcases aA with aA | aA
     .exact .inl λx av=>aA x (CT.subset av)
     .exact .inr aA
theorem aya {b:Act} {d:Option Tmp} (aP:b.tmps.size= a.tmps.size) (h:b.put d u= b.put d v):a.put d u= a.put d v:=by
 cases d with
 | none=>rfl
 | some d=>
  simp only [Act.put] at h ⊢
  have h1:b.tmps.setIfInBounds d u= b.tmps.setIfInBounds d v:=by injection h
  by_cases cr:d < b.tmps.size
  .have h2:u= v:=by
    have h3:=Xc (λt:Array Value=>t[d]?) h1
    simp only [Array.getElem?_setIfInBounds_self_of_lt cr] at h3
    exact Wx h3
   rw [h2]
  .have hle:a.tmps.size<=d:=aP ▸ Nat.le_of_not_lt cr
   have h3:∀x,a.tmps.setIfInBounds d x= a.tmps:=λx=>Array.setIfInBounds_eq_of_size_le hle
   rw [h3,h3]
theorem Sr (a:Act) (d:Option Tmp) (v:Value):(a.put d v).tmps.size= a.tmps.size:=by
 cases d <;> simp [Act.put]
theorem ahI (a:Act) (d:Option Tmp) (v:Value):(a.put d v).defers= a.defers:=by
 cases d <;> rfl
def Tv (P:Program) (ops:Array Oper) (Q:Act->World->Prop) (e:Nat) (pA:Oper) (K:Value->World->Prop) (a:Act) (W:World):Prop:=
 ∀L:Act->World->Prop,(∀v fz,K v fz->L (a.put pA.dst v) fz)->wpOp P ops (jO Q) e L a W
theorem arG {K:Value->World->Prop} {b:Act} (he:ops[e]? =some pA) (bu:execOp a.eval pA= execOp b.eval pA)
 (hw:Region.wanted pA (yielded ops a.tmps)= Region.wanted pA (yielded ops b.tmps)) (aP:b.tmps.size= a.tmps.size) (h:Tv P ops Q e pA K b W):Tv P ops Q e pA K a W:=by
 intro L br
 have H:=h (λdf fz=>(∀u,df= b.put pA.dst u->L (a.put pA.dst u) fz)/\∃u,df= b.put pA.dst u) (λv fz az=>⟨λu hu=>by rw [<- aya aP hu];exact br v fz az,v,rfl⟩)
 unfold wpOp at H ⊢
 simp only [he] at H ⊢
 rw [<- hw] at H
 split
 .rename_i XB
  simp only [XB,if_true] at H
  rcases H with H | H
  .refine .inl ?_
   unfold Oper.wp at H ⊢
   rw [<- bu] at H
   generalize (execOp a.eval pA).run P W= r at *
   cases r with
   | ok n ah=>
    cases n <;> simp only [Oper.upon] at H ⊢
    case value u=>exact H.1 u rfl
    case skip=>exact H.1 undef rfl
    case defer d=>
     obtain⟨u,hu⟩:=H.2
     have h1:=Xc Act.defers hu
     rw [ahI,ahI] at h1
     have h2:=Xc List.length h1
     simp at h2
    case enter f args=>
     refine H.mono λe fG gl=>?_
     cases e with
     | returned u=>exact gl.1 u rfl
     | panicked c=>exact absurd gl.1 ZX
     | outgrown=>exact absurd gl Ea
    case row row args=>exact H.mono λu fG gl=>gl.1 u rfl
   | halt x ah=>cases x <;> simp only [Oper.upon] at H ⊢ <;> exact absurd H.1 ZX
  .exact absurd H.2 Ea
 .rename_i XB
  simp only [XB] at H
  exact H.1 undef rfl
structure mZ (α:Type) where
 par:Nat->List Nat
 val:Nat->α->Value
 post:Nat->(Nat->α)->α->World->World->Prop
variable {α:Type} [Inhabited α]
def uU (ps:List Nat) (bA:Nat->α):Nat->α:=λm=>if ps.contains m then bA m else default
theorem air {ps:List Nat} {bA tl:Nat->α} (h:∀m ∈ ps,bA m= tl m):uU ps bA= uU ps tl:=by
 funext m
 unfold uU
 split
 .rename_i hm;exact h m (List.contains_iff_mem.1 hm)
 .rfl
def LU (S:mZ α) (bA:Nat->α) (m:Nat) (W:World):Prop:=∃dy V,Below dy.heap.size dy V/\S.post m (uU (S.par m) bA) (bA m) dy V/\Below V.heap.size V W
def LV (P:Program) (ops:Array Oper) (C:World->Prop) (Q:Act->World->Prop) (S:mZ α) (bA:Nat->α) (e:Nat) (pA:Oper) (a:Act):Prop:=
 ∀W,C W->(∀m ∈ S.par e,LU S bA m W)->Tv P ops Q e pA (λv fz=>∃p,v= S.val e p/\Below W.heap.size W fz/\S.post e (uU (S.par e) bA) p W fz) a W
def oi (P:Program) (ops:Array Oper) (C:World->Prop) (Q:Act->World->Prop) (S:mZ α) (bA:Nat->α) (F:Act->Prop):List (Nat×Nat)->Act->Prop
 | [],a=>F a
 | (i,k) ::r,a=>if k= 1 then∃eX,ops[i]? =some eX/\LV P ops C Q S bA i eX a/\oi P ops C Q S bA F r (a.put eX.dst (S.val i (bA i)))
  else∃eX v,ops[i]? =some eX/\nL P ops (sB C k) eX v a/\oi P ops C Q S bA F r (a.put eX.dst v)
theorem LV.of_same {S:mZ α} {bA:Nat->α} {b:Act} (he:ops[e]? =some pA) (bu:execOp a.eval pA= execOp b.eval pA)
 (hw:Region.wanted pA (yielded ops a.tmps)= Region.wanted pA (yielded ops b.tmps)) (aP:b.tmps.size= a.tmps.size) (h:LV P ops C Q S bA e pA b):LV P ops C Q S bA e pA a:=
 λW aA aS=>arG he bu hw aP (h W aA aS)
theorem PZ (gO:Region.noSelect ops= true) {S:mZ α} {bA:Nat->α} (GQ:EV≠1):∀(p:List (Nat×Nat)) (a:Act),(∀x ∈ p,yN ops x.1 j= true)->oi P ops C Q S bA F (p ++ (j,EV) ::s) a->
  ∃ga v,ops[j]? =some ga/\nL P ops (sB C EV) ga v a/\oi P ops C Q S bA F (p ++ s) (a.put ga.dst v)
 | [],a,_,h=>by
  simp only [List.nil_append,oi,XU GQ] at h
  exact h
 | (i,k) ::p,a,aS,h=>by
  have bo:=aS (i,k) Wn
  obtain⟨a1,dc,e1,e2,kS⟩:=Mg.1 bo
  obtain⟨h1,h2,h3⟩:=Oper.apart_spec kS
  by_cases ax:k= 1
  .subst ax
   simp only [YL,oi,if_true] at h
   obtain⟨eX,kj,WV,bu⟩:=h
   obtain⟨ga,v,je,NQ,aP⟩:=PZ gO GQ p _ (λx av=>aS x Ye) bu
   obtain rfl:=Wx (kj.symm.trans e1)
   obtain rfl:=Wx (je.symm.trans e2)
   refine⟨ga,v,je,NQ.of_same (execOp_put ga (xp gO je) a eX.dst _ h1).symm (wanted_put ga a eX.dst _ h1).symm,?_⟩
   simp only [YL,oi,if_true]
   refine⟨eX,kj,WV.of_same kj (execOp_put eX (xp gO kj) a ga.dst v h3) (wanted_put eX a ga.dst v h3) (Sr _ _ _).symm,?_⟩
   rw [<- Act.put_comm a _ v h2]
   exact aP
  .simp only [YL,oi,XU ax] at h
   obtain⟨eX,tT,kj,ER,bu⟩:=h
   obtain⟨ga,v,je,NQ,aP⟩:=PZ gO GQ p _ (λx av=>aS x Ye) bu
   obtain rfl:=Wx (kj.symm.trans e1)
   obtain rfl:=Wx (je.symm.trans e2)
   refine⟨ga,v,je,NQ.of_same (execOp_put ga (xp gO je) a eX.dst tT h1).symm (wanted_put ga a eX.dst tT h1).symm,?_⟩
   simp only [YL,oi,XU ax]
   exact alb
theorem PY (gO:Region.noSelect ops= true) {S:mZ α} {bA:Nat->α}:∀(p:List (Nat×Nat)) (a:Act),(∀x ∈ p,yN ops x.1 j= true)->oi P ops C Q S bA F (p ++ (j,1) ::s) a->
  ∃ga,ops[j]? =some ga/\LV P ops C Q S bA j ga a/\oi P ops C Q S bA F (p ++ s) (a.put ga.dst (S.val j (bA j)))
 | [],a,_,h=>by
  simp only [List.nil_append,oi,if_true] at h
  exact h
 | (i,k) ::p,a,aS,h=>by
  have bo:=aS (i,k) Wn
  obtain⟨a1,dc,e1,e2,kS⟩:=Mg.1 bo
  obtain⟨h1,h2,h3⟩:=Oper.apart_spec kS
  by_cases ax:k= 1
  .subst ax
   simp only [YL,oi,if_true] at h
   obtain⟨eX,kj,WV,bu⟩:=h
   obtain⟨ga,je,mB,aP⟩:=PY gO p _ (λx av=>aS x Ye) bu
   obtain rfl:=Wx (kj.symm.trans e1)
   obtain rfl:=Wx (je.symm.trans e2)
   refine⟨ga,je,mB.of_same je (execOp_put ga (xp gO je) a eX.dst _ h1).symm (wanted_put ga a eX.dst _ h1).symm (Sr _ _ _),?_⟩
   simp only [YL,oi,if_true]
   refine⟨eX,kj,WV.of_same kj (execOp_put eX (xp gO kj) a ga.dst _ h3) (wanted_put eX a ga.dst _ h3) (Sr _ _ _).symm,?_⟩
   rw [<- Act.put_comm a _ _ h2]
   exact aP
  .simp only [YL,oi,XU ax] at h
   obtain⟨eX,tT,kj,ER,bu⟩:=h
   obtain⟨ga,je,mB,aP⟩:=PY gO p _ (λx av=>aS x Ye) bu
   obtain rfl:=Wx (kj.symm.trans e1)
   obtain rfl:=Wx (je.symm.trans e2)
   refine⟨ga,je,mB.of_same je (execOp_put ga (xp gO je) a eX.dst tT h1).symm (wanted_put ga a eX.dst tT h1).symm (Sr _ _ _),?_⟩
   simp only [YL,oi,XU ax]
   refine⟨eX,tT,kj,ER.of_same (execOp_put eX (xp gO kj) a ga.dst _ h3) (wanted_put eX a ga.dst _ h3),?_⟩
   rw [<- Act.put_comm a tT _ h2]
   exact aP
theorem nL.uniq {o:Oper} {mW:Value} (aA:C W) (h:nL P ops C o v a) (ez:nL P ops C o mW a):v= mW:=by
 rcases h with ⟨hw,h⟩ | ⟨hw,h⟩ <;> rcases ez with ⟨vG,ez⟩ | ⟨vG,ez⟩
 .rcases h W aA with h1 | ⟨h1,rfl⟩ <;> rcases ez W aA with h2 | ⟨h2,rfl⟩
  .rw [h1] at h2;injection h2 with h3 _;injection h3
  .rw [h1] at h2;injection h2 with h3 _;cases h3
  .rw [h1] at h2;injection h2 with h3 _;cases h3
  .rfl
 .rw [hw] at vG;cases vG
 .rw [hw] at vG;cases vG
 .rw [h,ez]
structure Made (S:mZ α) (w0:World) (ms:List Nat) (bA:Nat->α) (dy V:Nat->World) (W:World):Prop where
 oj:∀m ∈ ms,Below w0.heap.size w0 (dy m)
 grow:∀m ∈ ms,Below (dy m).heap.size (dy m) (V m)
 post:∀m ∈ ms,S.post m (uU (S.par m) bA) (bA m) (dy m) (V m)
 aK:∀m ∈ ms,Below (V m).heap.size (V m) W
 apart:∀m ∈ ms,∀n ∈ ms,m≠n->(V m).heap.size<=(dy n).heap.size\/(V n).heap.size<=(dy m).heap.size
theorem Made.whole {S:mZ α} {ms:List Nat} {bA:Nat->α} {dy V:Nat->World} (h:Made S w0 ms bA dy V W) (m:Nat) (hm:m ∈ ms):Below w0 w0 W:=ai (ai (h.oj m hm) (h.grow m hm)) (h.aK m hm)
theorem _root_.Go.RowKit.Below.rI {w:World} (h:Below w.drew w.drew W):Below w w W:=⟨h.os,h.tape,h.output,h.size,h.block⟩
theorem abP {S:mZ α} {bA:Nat->α} {r2:List (Nat×Nat)} (ag:∀a,F a->iF P ops C Q r2 a W):∀(r:List (Nat×Nat)) (a:Act),(∀x ∈ r,x.2= 0\/x.2= 6)->oi P ops C Q S bA F r a->iF P ops C Q (r ++ r2) a W
 | [],a,_,h=>ag a h
 | (i,k) ::r,a,h0,h=>by
  have ax:k= 0\/k= 6:=h0 (i,k) Wn
  have n1:k≠1:=KK
  have n3:k≠3:=KK
  have n5:k≠5:=KK
  simp only [oi,XU n1] at h
  simp only [YL,iF,XU n3,XU n5]
  obtain⟨eX,v,kj,hy,bu⟩:=h
  exact⟨eX,v,kj,hy,abP ag r _ (λx av=>h0 x Ye) bu⟩
variable {S:mZ α} {w0:World} {r2:List (Nat×Nat)} {ms:List Nat}
def anW (P:Program) (ops:Array Oper) (C:World->Prop) (Q:Act->World->Prop) (S:mZ α) (w0:World) (r2:List (Nat×Nat)) (ms:List Nat) (bA:Nat->α) (a:Act):Prop:=
 ∀dy V W,Made S w0 ms bA dy V W->C W->iF P ops C Q r2 a W
theorem alL (h:z:=by
 have:=nw _ Nu
 simp only at this h3
 rcases this with rfl | rfl | rfl | rfl <;> simp [EZ,wE,HH] at h3):z:=h
theorem akg (gO:Region.noSelect ops= true) (jI:∀W fz,C W->Below W W fz->C fz)
 (fQ:∀e ∈ ms,∀m ∈ S.par e,m ∈ ms/\xK md ops e m= true) (nw:∀x ∈ r2,x.2= 2\/x.2= 3\/x.2= 4\/x.2= 5):
  ∀(n:Nat) (r:List (Nat×Nat)) (listed:Array Bool) (a:Act) (W:World) (tl:Nat->α) (dy V:Nat->World),r.length= n->(∀x ∈ r,x.2= 0\/x.2= 6\/(x.2= 1/\x.1 ∈ ms))->Fit md ops (r ++ r2) listed->
   (∀m ∈ ms,∀k,(m,k) ∈ r ++ r2->(m,k) ∈ r/\k= 1)->
   C W->Below w0 w0 W->Made S w0 (ms.filter λm=>decide ((m,1) ∉ r)) tl dy V W->(∀m ∈ ms,(m,1) ∉ r->∀k ∈ S.par m,(k,1) ∉ r)->
   (∀bA:Nat->α,(∀m ∈ ms,(m,1) ∉ r->bA m= tl m)->oi P ops C Q S bA (anW P ops C Q S w0 r2 ms bA) r a)->wpAny P md ops (jO Q) (n + r2.length) listed a W:=by
 intro n
 induction n with
 | zero=>
  intro r listed a W tl dy V bq _ hf _ aA _ aC _ bB
  obtain rfl:=YD.1 bq
  have h1:=bB tl (λ_ _ _=>rfl)
  have pw:(ms.filter λm=>decide ((m,1) ∉ ([]:List (Nat×Nat))))= ms:=Wn
  rw [pw] at aC
  rw [YF]
  exact KI gO _ r2 listed a W rfl (λx av=>by have:=nw x av;omega) hf (.inr aA) (h1 dy V W aC aA)
 | succ n eR=>
  intro r listed a W tl dy V bq GR hf wY aA cv aC aFO bB
  by_cases rB:∃m,(m,1) ∈ r
  .obtain⟨m0,EI⟩:=rB
   rw [show n + 1 + r2.length= (n + r2.length) + 1 by omega]
   refine⟨λh0=>?_,λj cc=>?_⟩
   .cases r with
    | nil=>simp at bq
    | cons x s=>have:=hf.head;rw [h0] at this;cases this
   .obtain⟨p,k,s,bu,aS,_⟩:=hf.ready cc
    have jl:∃eD cT,r= eD ++ (j,k) ::cT/\p= eD/\s= cT ++ r2:=by
     rcases List.append_eq_append_iff.1 bu with ⟨q,ar,aj⟩ | ⟨q,ar,aj⟩
     .exfalso
      have h3:=aS (m0,1) (by rw [ar];exact Yj _ EI)
      have Nu:(j,k) ∈ r2:=by rw [aj];simp
      exact alL
     .cases q with
      | nil=>
       exfalso
       simp at ar aj
       have h3:=aS (m0,1) (by rw [<- ar];exact EI)
       have Nu:(j,k) ∈ r2:=by rw [<- aj];simp
       exact alL
      | cons y q=>
       simp only [YL,List.cons.injEq] at aj
       obtain⟨rfl,aj⟩:=aj
       exact⟨p,q,ar,rfl,aj⟩
    obtain⟨eD,cT,rfl,rfl,rfl⟩:=jl
    have kS:∀x ∈ p,yN ops x.1 j= true:=λx av=>(aS x av).2
    have aeL:Fit md ops ((p ++ cT) ++ r2) (listed.setIfInBounds j true):=by
     have:=hf
     rw [YX,YL] at this
     have:=this.step cc
     rwa [<- YX] at this
    have hlen:(p ++ cT).length= n:=by simp at bq ⊢;omega
    have CT:(p ++ cT).Sublist (p ++ (j,k) ::cT):=List.Sublist.append_left (List.sublist_cons_self _ _) p
    have aeV:∀x ∈ p ++ cT,x.2= 0\/x.2= 6\/(x.2= 1/\x.1 ∈ ms):=λx av=>GR x (CT.subset av)
    have ato:=GR (j,k) Wn
    obtain⟨aEb,aEN,atJ,atb⟩:=mem_ready.1 cc
    have afg:∀m ∈ ms,∀jx,(m,jx) ∈ (p ++ cT) ++ r2->(m,jx) ∈ p ++ cT/\jx= 1:=by
     intro m hm jx jl
     have h1:(m,jx) ∈ (p ++ (j,k) ::cT) ++ r2:=by
      rcases YC.1 jl with h | h
      .exact Yj _ (CT.subset h)
      .exact ZI _ h
     have h2:=wY m hm jx h1
     refine⟨?_,h2.2⟩
     rcases YC.1 jl with h | h
     .exact h
     .exfalso
      have h3:=nw _ h;have h4:=h2.2
      simp at h3;omega
    by_cases xQ:k≠1
    .have CO:∀m,(m,1) ∉ p ++ cT↔(m,1) ∉ p ++ (j,k) ::cT:=λm=>by simp [Ne.symm xQ]
     obtain⟨ga,v,je,hy,_⟩:=PZ gO xQ p a kS (bB tl (λ_ _ _=>rfl))
     have mN:sB C k W:= .inr aA
     refine hy.wpOp je mN (eR (p ++ cT) _ _ W tl dy V hlen aeV aeL afg aA cv ?_ ?_ ?_)
     .have:(ms.filter λm=>decide ((m,1) ∉ p ++ cT))= ms.filter λm=>decide ((m,1) ∉ p ++ (j,k) ::cT):=by
       congr 1;funext m;exact decide_eq_decide.2 (CO m)
      rw [this];exact aC
     .intro m hm wX jx wV
      rw [CO] at wX ⊢
      exact aFO m hm wX jx wV
     .intro bA RB
      obtain⟨axH,v2,aFK,rD,nk⟩:=PZ gO xQ p a kS (bB bA (λm hm wX=>RB m hm ((CO m).2 wX)))
      obtain rfl:=Wx (je.symm.trans aFK)
      obtain rfl:=hy.uniq mN rD
      exact nk
    .obtain rfl:k= 1:=Classical.byContradiction xQ
     have WO:j ∈ ms:=by
      rcases ato with h | h | h
      .cases h
      .cases h
      .exact h.2
     have uF:∀jx ∈ S.par j,(jx,1) ∉ p ++ (j,1) ::cT:=by
      intro jx wV jl
      have he:=(fQ j WO jx wV).2
      obtain⟨fc,atI,e,atc,asZ,atd⟩:=QA.1 he
      obtain rfl:=Wx (atJ.symm.trans atI)
      have h1:=atb e atc asZ;have bC:=hf.lt (jx,1) (Yj _ jl);have h2:=(hf.mem jx bC).2 ⟨1,Yj _ jl⟩
      rw [atd,getD_both h2] at h1;cases h1
     have Bb:(j,1) ∉ p ++ cT:=by
      intro jl
      have Bd:=hf.HI
      rw [YX,YL] at Bd
      rcases YC.1 jl with h | h
      .have:=(List.pairwise_append.1 Bd).2.2 _ h (j,1) Wn
       simp [Br] at this
      .have:=(YM.1 (List.pairwise_append.1 Bd).2.1).1 (j,1) (Yj _ h)
       simp [Br] at this
     have CO:∀m,(m,1) ∉ p ++ cT↔(m,1) ∉ p ++ (j,1) ::cT\/m= j:=by
      intro m
      by_cases mB:m= j
      .subst mB;simp [Bb]
      .simp [mB]
     have atM:∀jx ∈ S.par j,jx ∈ ms:=λjx wV=>(fQ j WO jx wV).1
     obtain⟨ga,je,ni,_⟩:=PY gO p a kS (bB tl (λ_ _ _=>rfl))
     have jH:∀m,m ∈ ms->(m,1) ∉ p ++ (j,1) ::cT->m ∈ ms.filter λm=>decide ((m,1) ∉ p ++ (j,1) ::cT):=λm h1 h2=>List.mem_filter.2 ⟨h1,by simpa using h2⟩
     refine ni W aA (λm hm=>?_) _ ?_
     .have jl:=jH m (atM m hm) (uF m hm)
      exact⟨dy m,V m,aC.grow m jl,aC.post m jl,aC.aK m jl⟩
     .rintro v fz ⟨q,rfl,cy,atQ⟩
      have aFt:∀m,(m,1) ∉ p ++ (j,1) ::cT->m≠j:=λm h1 h2=>h1 (by subst h2;simp)
      have atN:∀m ∈ ms,(m,1) ∉ p ++ (j,1) ::cT->uU (S.par m) (λi=>if i= j then q else tl i)= uU (S.par m) tl:=λm hm wX=>
       air λjx wV=>by rw [XU (aFt jx (aFO m hm wX jx wV))]
      have atL:uU (S.par j) (λi=>if i= j then q else tl i)= uU (S.par j) tl:=air λjx wV=>by rw [XU (aFt jx (uF jx wV))]
      have hold:∀m,m ∈ (ms.filter λm=>decide ((m,1) ∉ p ++ cT))->m≠j->m ∈ ms.filter λm=>decide ((m,1) ∉ p ++ (j,1) ::cT):=λm hm ew=>by
       obtain⟨h1,h2⟩:=List.mem_filter.1 hm
       have h3:=(CO m).1 (of_decide_eq_true h2)
       exact jH m h1 (h3.resolve_right ew)
      refine eR (p ++ cT) _ _ fz (λi=>if i= j then q else tl i) (λi=>if i= j then W else dy i) (λi=>if i= j then fz else V i) hlen aeV aeL afg (jI W fz aA cy) (cv.trans (cy.mono cv.size)) ?_ ?_ ?_
      .refine⟨λm hm=>?_,λm hm=>?_,λm hm=>?_,λm hm=>?_,λm hm dI Ba ew=>?_⟩
       .by_cases mB:m= j
        .rw [XX mB];exact cv
        .rw [XU mB];exact aC.oj m (hold m hm mB)
       .by_cases mB:m= j
        .rw [XX mB,XX mB];exact cy
        .rw [XU mB,XU mB];exact aC.grow m (hold m hm mB)
       .by_cases mB:m= j
        .subst mB
         rw [atL]
         simp only [if_true];exact atQ
        .have h1:=hold m hm mB
         have h2:=List.mem_filter.1 h1
         rw [atN m h2.1 (of_decide_eq_true h2.2)]
         simp only [XU mB]
         exact aC.post m h1
       .by_cases mB:m= j
        .rw [XX mB];exact Wt _ _
        .rw [XU mB];have h1:=aC.aK m (hold m hm mB);exact h1.trans (cy.mono h1.size)
       .by_cases mB:m= j
        .subst mB
         have bq:dI≠m:=λh=>ew h.symm
         have h1:=aC.aK dI (hold dI Ba bq)
         simp only [if_true,XU bq]
         exact .inr h1.size
        .by_cases WW:dI= j
         .subst WW
          have h1:=aC.aK m (hold m hm mB)
          simp only [if_true,XU mB]
          exact .inl h1.size
         .simp only [XU mB,XU WW]
          exact aC.apart m (hold m hm mB) dI (hold dI Ba WW) ew
      .intro m hm wX jx wV
       rcases (CO m).1 wX with h1 | h1
       .exact (CO jx).2 (.inl (aFO m hm h1 jx wV))
       .subst h1;exact (CO jx).2 (.inl (uF jx wV))
      .intro bA RB
       have aut:bA j= q:=by have:=RB j WO Bb;simpa using this
       obtain⟨axH,aFK,_,nk⟩:=PY gO p a kS (bB bA (λm hm wX=>by
        have:=RB m hm ((CO m).2 (.inl wX))
        rw [this,XU (aFt m wX)]))
       obtain rfl:=Wx (je.symm.trans aFK)
       rw [aut] at nk
       exact nk
  .have h0:∀x ∈ r,x.2= 0\/x.2= 6:=λx av=>by
    rcases GR x av with h | h | ⟨h,_⟩
    .exact .inl h
    .exact .inr h
    .exact absurd ⟨x.1,by rw [<- h];exact av⟩ rB
   have pw:(ms.filter λm=>decide ((m,1) ∉ r))= ms:=by
    rw [List.filter_eq_self]
    intro m _
    exact Xh λh=>rB ⟨m,h⟩
   rw [pw] at aC
   have h1:=bB tl (λ_ _ _=>rfl);have h2:iF P ops C Q (r ++ r2) a W:=abP (λa' ag=>ag dy V W aC aA) r a h0 h1
   have aT:(r ++ r2).length= n + 1 + r2.length:=by simp [bq]
   rw [<- aT]
   refine KI gO _ (r ++ r2) listed a W rfl (λx av=>?_) hf (.inr aA) h2
   rcases YC.1 av with h | h
   .have:=h0 x h;omega
   .have:=nw x h;omega
def jY (ev eU:Nat):List (List Nat×Nat)->List Nat->List (Nat×Nat)
 | [],s=>s.map (·,ev)
 | (s,e) ::r,cT=>s.map (·,ev) ++ (e,eU) ::jY ev eU r cT
def cls (C:World->Prop):World->Prop:=λah=>∃k:cM C,ah= k.world
def agY (md:Region.Mode) (ops:Array Oper) (par:Nat->List Nat) (dM:List (List Nat×Nat)) (s1:List Nat) (r2:List (List Nat×Nat)) (s2:List Nat):Bool:=
 let hx:=jY 0 1 dM s1;let fc:=jY 2 3 r2 s2;let ms:=dM.map (·.2)
 Region.noSelect ops && Pb md ops && Kf md ops (hx ++ fc) && (hx ++ fc).all (λx=>decide (x.1 < ops.size)) && (List.range ops.size).all (λi=>(hx ++ fc).any λx=>x.1 == i) &&
  (hx ++ fc).all (λx=>x.2 == 1 || x.2 == 3 || tg ops x.1) && ms.all (λe=>(par e).all λm=>ms.contains m && xK md ops e m) && (hx ++ fc).all (λx=>!(ms.contains x.1) || x.2 == 1) &&
  decide (hx.length + fc.length= ops.size)
def Cq (l:List Oper) (e:Nat):Option Tmp:=match l[e]? with | some o=>o.dst | none=>none
def BG (P:Program) (l:List Oper) (C:World->Prop) (S:mZ α) (bA:Nat->α) (F:Act->Prop):List (List Nat×Nat)->List Nat->Act->Prop
 | [],s,a=>wpQuiet P l.toArray C F (ia l s) a
 | (s,e) ::r,cT,a=>wpQuiet P l.toArray C (λa'=>
   (∀W,C W->(∀m ∈ S.par e,LU S bA m W)->wpList P l.toArray (jO λfX fz=>∃p,fX= a'.put (Cq l e) (S.val e p)/\Below W.heap.size W fz/\S.post e (uU (S.par e) bA) p W fz) (ia l [e]) a' W)/\
   BG P l C S bA F r cT (a'.put (Cq l e) (S.val e (bA e)))) (ia l s) a
theorem nL.sB {o:Oper} (ax:HH k= false) (h:nL P ops C o v a):nL P ops (sB C k) o v a:=by
 have e:Go.Proofs.YtlaaemmmbodaaaaGreatDoor.sB C k= C:=by
  funext w;unfold Go.Proofs.YtlaaemmmbodaaaaGreatDoor.sB;rw [ax];exact propext ⟨λh=>h.resolve_left WG,.inr⟩
 rw [e];exact h
theorem Dr {X:Act->Prop} {R:List (Nat×Nat)->Act->Prop} {kk:Nat} {r:List (Nat×Nat)}
 (bB:∀(i:Nat) (r:List (Nat×Nat)) (a:Act),(∃eX v,l.toArray[i]? =some eX/\nL P l.toArray C eX v a/\R r (a.put eX.dst v))->R ((i,kk) ::r) a) (aR:∀a,X a->R r a):
  ∀(s:List Nat) (a:Act),(∀i ∈ s,i < l.length/\tg l.toArray i= true)->wpQuiet P l.toArray C X (ia l s) a->R (s.map (·,kk) ++ r) a
 | [],a,_,h=>aR a h
 | i ::s,a,aP,h=>by
  have bo:=aP i Wn
  have aS:ia l (i ::s)= l[i]'bo.1 ::ia l s:=by simp [ia,bo.1]
  rw [aS] at h
  have h1:l.toArray[i]? =some (l[i]'bo.1):=by simp [bo.1]
  have ez:qOp P l.toArray C i (wpQuiet P l.toArray C X (ia l s)) a:=by
   unfold qOp;simp only [h1];exact h
  obtain⟨v,hy,fj⟩:=yieldsIn_of_qOp h1 ez
  have ax:BA (l[i]'bo.1).op= true:=by have:=bo.2;simpa [tg,h1] using this
  exact bB i _ a ⟨_,v,h1,YieldsIn.aIf ax hy,Dr bB aR s _ (λj cc=>aP j (by simp [cc])) fj⟩
theorem abQ:∀(r:List (List Nat×Nat)) (cT:List Nat) (a:Act) (w:World),(∀x ∈ jY 2 3 r cT,x.1 < l.length/\(x.2= 3\/tg l.toArray x.1= true))->Ae P l C Q r cT a w->iF P l.toArray C Q (jY 2 3 r cT) a w
 | [],cT,a,w,aT,h=>by
  have:=Dr (P:=P) (C:=C) (l:=l) (R:=λr a=>iF P l.toArray C Q r a w) (kk:=2) (r:=[]) (λi r a h=>by
   obtain⟨eX,v,h1,h2,h3⟩:=h
   simp only [iF];rw [XU WG,XU WG];exact⟨eX,v,h1,h2.sB rfl,h3⟩) (λa h=>h) cT a (λi bo=>by
   have:=aT (i,2) (by simp [jY,bo]);exact⟨this.1,this.2.resolve_left Wn⟩) h
  simpa [jY] using this
 | (s,e) ::r,cT,a,w,aT,h=>by
  refine Dr (P:=P) (C:=C) (l:=l) (R:=λr a=>iF P l.toArray C Q r a w) (kk:=2) (λi r a h=>by
   obtain⟨eX,v,h1,h2,h3⟩:=h
   simp only [iF];rw [XU WG,XU WG];exact⟨eX,v,h1,h2.sB rfl,h3⟩) (λa' ez=>?_) s a (λi bo=>by
   have:=aT (i,2) (by simp [jY,bo]);exact⟨this.1,this.2.resolve_left Wn⟩) h
  have he:e < l.length:=(aT (e,3) (by simp [jY])).1
  have aS:ia l [e]= [l[e]]:=by simp [ia,he]
  rw [aS] at ez
  simp only [iF,if_true]
  unfold wpOp
  have h1:l.toArray[e]? =some l[e]:=by simp [he]
  simp only [h1]
  unfold wpList at ez
  have kl:∀fX fG,wpList P l.toArray (jO λfX fG=>C fG/\Ae P l C Q r cT fX fG) [] fX fG->C fG/\iF P l.toArray C Q (jY 2 3 r cT) fX fG:=λfX fG h2=>
   ⟨h2.2.1,abQ r cT fX fG (λx av=>aT x (by simp [jY,av])) h2.2.2⟩
  exact Tj
theorem UH {S:mZ α} {bA:Nat->α} {Pn:Act->Prop} (ag:∀a,F a->Pn a):∀(r:List (List Nat×Nat)) (cT:List Nat) (a:Act),(∀x ∈ jY 0 1 r cT,x.1 < l.length/\(x.2= 1\/tg l.toArray x.1= true))->BG P l C S bA F r cT a->oi P l.toArray C Q S bA Pn (jY 0 1 r cT) a
 | [],cT,a,aT,h=>by
  have:=Dr (P:=P) (C:=C) (l:=l) (R:=λr a=>oi P l.toArray C Q S bA Pn r a) (kk:=0) (r:=[]) (λi r a h=>by
   obtain⟨eX,v,h1,h2,h3⟩:=h
   simp only [oi];rw [XU WG];exact⟨eX,v,h1,h2.sB rfl,h3⟩) (λa h=>ag a h) cT a (λi bo=>by
   have:=aT (i,0) (by simp [jY,bo]);exact⟨this.1,this.2.resolve_left Wn⟩) h
  simpa [jY] using this
 | (s,e) ::r,cT,a,aT,h=>by
  refine Dr (P:=P) (C:=C) (l:=l) (R:=λr a=>oi P l.toArray C Q S bA Pn r a) (kk:=0) (λi r a h=>by
   obtain⟨eX,v,h1,h2,h3⟩:=h
   simp only [oi];rw [XU WG];exact⟨eX,v,h1,h2.sB rfl,h3⟩) (λa' ez=>?_) s a (λi bo=>by
   have:=aT (i,0) (by simp [jY,bo]);exact⟨this.1,this.2.resolve_left Wn⟩) h
  have he:e < l.length:=(aT (e,1) (by simp [jY])).1
  have aS:ia l [e]= [l[e]]:=by simp [ia,he]
  have cr:Cq l e= (l[e]).dst:=by unfold Cq;simp [he]
  rw [aS,cr] at ez
  simp only [oi,if_true]
  have h1:l.toArray[e]? =some l[e]:=by simp [he]
  refine⟨l[e],h1,λW aA fQ L br=>?_,UH ag r cT _ (λx av=>aT x (by simp [jY,av])) ez.2⟩
  have h2:=ez.1 W aA fQ
  unfold wpList at h2
  unfold wpOp
  simp only [h1]
  have kl:∀fX fG,wpList P l.toArray (jO λfX fz=>∃p,fX= a'.put (l[e]).dst (S.val e p)/\Below W W fz/\S.post e (uU (S.par e) bA) p W fz) [] fX fG->L fX fG:=λfX fG h3=>by
   obtain⟨_,p,rfl,aB,bt⟩:=h3
   exact br _ _ ⟨p,rfl,aB,bt⟩
  split
  .rename_i hw
   simp only [hw,if_true] at h2
   exact h2.elim (λh3=> .inl (Oper.aHf kl h3)) (λh3=>absurd h3.2 Ea)
  .rename_i hw
   simp only [hw] at h2
   exact kl _ _ h2
theorem Hx:∀(r:List (List Nat×Nat)) (cT:List Nat),∀x ∈ jY ev eU r cT,x.2= ev\/(x.2= eU/\x.1 ∈ r.map (·.2))
 | [],cT,x,av=>by
  simp [jY] at av
  obtain⟨_,_,rfl⟩:=av
  exact .inl rfl
 | (s,e) ::r,cT,x,av=>by
  simp only [jY,YC,Xl,YP] at av
  rcases av with ⟨_,_,rfl⟩ | rfl | av
  .exact .inl rfl
  .exact .inr ⟨rfl,by simp⟩
  .rcases Hx r cT x av with h | ⟨h,h2⟩
   .exact .inl h
   .exact .inr ⟨h,by simp only [List.map_cons,Xl];exact .inr h2⟩
theorem Oi:∀(r:List (List Nat×Nat)) (cT:List Nat),∀m ∈ r.map (·.2),(m,eU) ∈ jY ev eU r cT
 | [],_,m,hm=>by simp at hm
 | (s,e) ::r,cT,m,hm=>by
  simp only [List.map_cons,Xl] at hm
  simp only [jY,YC,Xl]
  rcases hm with rfl | hm
  .exact .inr (.inl rfl)
  .exact .inr (.inr (Oi r cT m hm))
theorem iP {S:mZ α} {bA:Nat->α} {s:List Nat} {r:List (List Nat×Nat)} (D:Option Tmp) (xL:Cq l e= D) (v:Value) (az:S.val e (bA e)= v)
 (h:∀K:Act->Prop,(∀a',BG P l (λah=>∃k:cM C,ah= k.world) S bA F r cT (a'.put D v)->K a')->wpQuiet P l.toArray (λah=>∃k:cM C,ah= k.world) (λa'=>
 (∀k:cM C,(∀m ∈ S.par e,LU S bA m k.world)->wpList P l.toArray (jO λfX fz=>∃p,fX= a'.put D (S.val e p)/\Below k.world k.world fz/\S.post e (uU (S.par e) bA) p k.world fz) (ia l [e]) a' k.world)/\K a') (ia l s) a):
  BG P l (λah=>∃k:cM C,ah= k.world) S bA F ((s,e) ::r) cT a:=by
 subst xL az
 have H:=h _ (λ_ h=>h);have e1:(λa':Act=>(∀W,(∃k:cM C,W= k.world)->(∀m ∈ S.par e,LU S bA m W)->wpList P l.toArray (jO λfX fz=>∃p,fX= a'.put (Cq l e) (S.val e p)/\Below W W fz/\S.post e (uU (S.par e) bA) p W fz) (ia l [e]) a' W)/\BG P l (λah=>∃k:cM C,ah= k.world) S bA F r cT (a'.put (Cq l e) (S.val e (bA e))))
   =λa'=>(∀k:cM C,(∀m ∈ S.par e,LU S bA m k.world)->wpList P l.toArray (jO λfX fz=>∃p,fX= a'.put (Cq l e) (S.val e p)/\Below k.world k.world fz/\S.post e (uU (S.par e) bA) p k.world fz) (ia l [e]) a' k.world)/\BG P l (λah=>∃k:cM C,ah= k.world) S bA F r cT (a'.put (Cq l e) (S.val e (bA e))):=by
  funext a'
  exact propext ⟨λ⟨h1,h2⟩=>⟨λk=>h1 _ ⟨k,rfl⟩,h2⟩,λ⟨h1,h2⟩=>⟨λW ⟨k,ax⟩=>ax ▸ h1 k,h2⟩⟩
 unfold BG
 rw [e1]
 exact H
theorem tU {S:mZ α} {bA:Nat->α} (h:wpQuiet P l.toArray C F (ia l cT) a):BG P l C S bA F [] cT a:=h
theorem hz {Y:Act->World->Prop} {w:World} (h:Y a w):jO Y .normal a w:=⟨rfl,h⟩
theorem akx (h:z:=by
 have h1:=eL x (Yj _ av);have h2:=hN x (Yj _ av)
 refine⟨by simpa using h1,?_⟩
 rcases Hx dM s1 x av with h3 | ⟨h3,_⟩
 .right;simpa [h3] using h2
 .exact .inl h3):z:=h
theorem aah (h:z:=by
 refine⟨dr,by simp,λi bo=>?_,λx av=>eL x av,ahB eb,λx y he _=>by
  obtain⟨o,dn,_⟩:=QA.1 he
  have hy:=(Array.getElem?_eq_some_iff.1 dn).1
  have auo:y < l.length:=by simpa using hy
  simp [ZC,auo]⟩
 have h1:=gw i (List.mem_range.2 bo)
 rw [List.any_eq_true] at h1
 obtain⟨x,av,aul⟩:=h1
 refine⟨λ_=>⟨x.2,?_⟩,λ_=>?_⟩
 .have:x.1= i:=by simpa using aul
  rw [<- this];exact av
 .have:i < l.length:=by simpa using bo
  simp [ZC,this]):z:=h
theorem aHp (h:z:=by
 rw [ui] at H
 have wi:(Code.region id l.toArray true).wp P (jO λa' ah=>Q .normal a' ah) a w:=wp_region_any hm H
 exact Code.wp_mono (λe a w h=>by obtain⟨rfl,h⟩:=h;exact h) wi):z:=h
theorem DB {Q:Exit->Act->World->Prop} {w:World} (S:mZ α) (C:World->Prop) (dM:List (List Nat×Nat)) (s1:List Nat) (r2:List (List Nat×Nat)) (s2:List Nat) (hm:P.follows .mixedOrders= true)
 (bz:agY .any l.toArray S.par dM s1 r2 s2= true) (aA:C w.drew) (jI:∀W fz,C W->Below W W fz->C fz)
 (h:∀bA:Nat->α,BG P l (λah=>∃k:cM C,ah= k.world) S bA (λa'=>∀dy V W,Made S w.drew (dM.map (·.2)) bA dy V W->C W->Ae P l (λah=>∃k:cM C,ah= k.world) (λa' ah=>Q .normal a' ah) r2 s2 a' W) dM s1 a):(Code.region id l.toArray true).wp P Q a w:=by
 simp only [agY,Xa,YN,Xf] at bz
 obtain⟨⟨⟨⟨⟨⟨⟨⟨dc,dr⟩,eb⟩,eL⟩,gw⟩,hN⟩,gB⟩,vp⟩,ui⟩:=bz
 have aFp:∀W fz,cls C W->Below W W fz->cls C fz:=λW fz ⟨k,ax⟩ aB=>⟨⟨fz,jI W fz (ax ▸ k.holds) aB⟩,rfl⟩
 have xQ:∀x ∈ jY 0 1 dM s1,x.1 < l.length/\(x.2= 1\/tg l.toArray x.1= true):=λx av=>by
  exact akx
 have nw:∀x ∈ jY 2 3 r2 s2,x.1 < l.length/\(x.2= 3\/tg l.toArray x.1= true):=λx av=>by
  have h1:=eL x (ZI _ av);have h2:=hN x (ZI _ av)
  refine⟨by simpa using h1,?_⟩
  rcases Hx r2 s2 x av with h3 | ⟨h3,_⟩
  .right;simpa [h3] using h2
  .exact .inl h3
 have pw:∀m ∈ dM.map (·.2),∀k,(m,k) ∈ jY 0 1 dM s1 ++ jY 2 3 r2 s2->(m,k) ∈ jY 0 1 dM s1/\k= 1:=by
  intro m hm k ax
  have h1:=vp _ ax;have aN:(dM.map (·.2)).contains m= true:=List.contains_iff_mem.2 hm
  simp only [aN,Zb,Bool.false_or,Xx] at h1
  refine⟨?_,h1⟩
  rcases YC.1 ax with h2 | h2
  .exact h2
  .exfalso
   rcases Hx r2 s2 _ h2 with h3 | ⟨h3,_⟩ <;> simp at h3 <;> omega
 have CJ:Fit .any l.toArray (jY 0 1 dM s1 ++ jY 2 3 r2 s2) (Array.replicate l.toArray.size false):=by
  exact aah
 have H:=akg (P:=P) (md:= .any) (ops:=l.toArray) (C:=cls C) (Q:=λa' ah=>Q .normal a' ah) (S:=S) (w0:=w.drew) (r2:=jY 2 3 r2 s2) (ms:=dM.map (·.2)) dc aFp
  (λe he m hm=>by
   have h1:=gB e he m hm
   exact⟨List.contains_iff_mem.1 h1.1,h1.2⟩)
  (λx av=>by
   rcases Hx r2 s2 x av with h | ⟨h,_⟩
   .exact .inl h
   .exact .inr (.inl h))
  _ (jY 0 1 dM s1) _ a w.drew (λ_=>default) (λ_=>w) (λ_=>w) rfl (λx av=>(Hx dM s1 x av).imp_right .inr) CJ pw ⟨⟨_,aA⟩,rfl⟩ (Wt _ _)
  (by
   have:((dM.map (·.2)).filter λm=>decide ((m,1) ∉ jY 0 1 dM s1))= []:=by
    rw [List.filter_eq_nil_iff]
    intro m hm
    simp [Oi dM s1 m hm]
   rw [this]
   exact⟨λm h=>Yr,λm h=>Yr,λm h=>Yr,λm h=>Yr,λm h=>Yr⟩)
  (λm hm bq=>absurd (Oi dM s1 m hm) bq)
  (λbA _=>UH (λa' ag dy V W aC ⟨k,Er⟩=>abQ r2 s2 a' W nw (ag dy V W aC (by rw [Er];exact k.holds))) dM s1 a xQ (h bA))
 exact aHp
theorem nL.mono {o:Oper} {aam aan:World->Prop} (aP:∀w,aan w->aam w) (h:nL P ops aam o v a):nL P ops aan o v a:=by
 rcases h with ⟨h1,h2⟩ | h
 .exact .inl ⟨h1,λw hw=>h2 w (aP w hw)⟩
 .exact .inr h
def Qg:World->Prop:=λah=>∃k:cM (λ_=>True),ah= k.world
def nB:List (List Nat×List Nat×Nat×Bool)->List Nat->List Nat->List (Nat×Nat)
 | [],s,p=>s.map (·,2) ++ p.map (·,4)
 | (s,p,e,d) ::r,cT,eD=>s.map (·,2) ++ (p.map (·,4) ++ (e,if d= true then 5 else 3) ::nB r cT eD)
def IK (d:Bool) (C:World->Prop) (w:World):Prop:=d= false->C w
def BH (P:Program) (l:List Oper) (C:World->Prop) (Q:Act->World->Prop):List (List Nat×List Nat×Nat×Bool)->List Nat->List Nat->Act->World->Prop
 | [],s,p,a,w=>wpQuiet P l.toArray C (λa'=>wpQuiet P l.toArray Qg (λfX=>Q fX w) (ia l p) a') (ia l s) a
 | (s,p,e,d) ::r,cT,eD,a,w=>wpQuiet P l.toArray C (λa'=>wpQuiet P l.toArray Qg (λfX=>wpList P l.toArray (jO λfX fG=>IK d C fG/\BH P l C Q r cT eD fX fG) (ia l [e]) fX w) (ia l p) a') (ia l s) a
theorem UI:∀(r:List (List Nat×List Nat×Nat×Bool)) (cT eD:List Nat) (a:Act) (w:World),(∀x ∈ nB r cT eD,x.1 < l.length/\(x.2= 3\/x.2= 5\/tg l.toArray x.1= true))->BH P l C Q r cT eD a w->iF P l.toArray C Q (nB r cT eD) a w
 | [],cT,eD,a,w,aT,h=>by
  refine Dr (P:=P) (C:=C) (l:=l) (R:=λr a=>iF P l.toArray C Q r a w) (kk:=2) (λi r a h=>by
   obtain⟨eX,v,h1,h2,h3⟩:=h
   simp only [iF];rw [XU WG,XU WG];exact⟨eX,v,h1,h2.sB rfl,h3⟩) (λa' ez=>?_) cT a (λi bo=>by
   have:=aT (i,2) (by simp [nB,bo]);exact⟨this.1,(this.2.resolve_left Wn).resolve_left Wn⟩) h
  have:=Dr (P:=P) (C:=Qg) (l:=l) (R:=λr a=>iF P l.toArray C Q r a w) (kk:=4) (r:=[]) (λi r a h=>by
   obtain⟨eX,v,h1,h2,h3⟩:=h
   simp only [iF];rw [XU WG,XU WG];exact⟨eX,v,h1,h2.mono (λw _=>⟨⟨w,trivial⟩,rfl⟩),h3⟩) (λa h=>h) eD a' (λi bo=>by
   have:=aT (i,4) (by simp [nB,bo]);exact⟨this.1,(this.2.resolve_left Wn).resolve_left Wn⟩) ez
  simpa using this
 | (s,p,e,d) ::r,cT,eD,a,w,aT,h=>by
  refine Dr (P:=P) (C:=C) (l:=l) (R:=λr a=>iF P l.toArray C Q r a w) (kk:=2) (λi r a h=>by
   obtain⟨eX,v,h1,h2,h3⟩:=h
   simp only [iF];rw [XU WG,XU WG];exact⟨eX,v,h1,h2.sB rfl,h3⟩) (λa' ez=>?_) s a (λi bo=>by
   have:=aT (i,2) (by simp [nB,bo]);exact⟨this.1,(this.2.resolve_left Wn).resolve_left Wn⟩) h
  refine Dr (P:=P) (C:=Qg) (l:=l) (R:=λr a=>iF P l.toArray C Q r a w) (kk:=4) (λi r a h=>by
   obtain⟨eX,v,h1,h2,h3⟩:=h
   simp only [iF];rw [XU WG,XU WG];exact⟨eX,v,h1,h2.mono (λw _=>⟨⟨w,trivial⟩,rfl⟩),h3⟩) (λa' ez=>?_) p a' (λi bo=>by
   have:=aT (i,4) (by simp [nB,bo]);exact⟨this.1,(this.2.resolve_left Wn).resolve_left Wn⟩) ez
  have he:e < l.length:=(aT (e,if d= true then 5 else 3) (by simp [nB])).1
  have aS:ia l [e]= [l[e]]:=by simp [ia,he]
  rw [aS] at ez
  have h1:l.toArray[e]? =some l[e]:=by simp [he]
  have afm:∀fX fG,BH P l C Q r cT eD fX fG->iF P l.toArray C Q (nB r cT eD) fX fG:=λfX fG h2=>UI r cT eD fX fG (λx av=>aT x (by simp [nB,av])) h2
  unfold wpList at ez
  cases d with
  | false=>
   simp only [iF,ZJ,if_false,if_true]
   unfold wpOp
   simp only [h1]
   have kl:∀fX fG,wpList P l.toArray (jO λfX fG=>IK false C fG/\BH P l C Q r cT eD fX fG) [] fX fG->C fG/\iF P l.toArray C Q (nB r cT eD) fX fG:=λfX fG h2=>
    ⟨h2.2.1 rfl,afm _ _ h2.2.2⟩
   exact Tj
  | true=>
   simp only [iF,if_true]
   rw [XU WG]
   unfold wpOp
   simp only [h1]
   have kl:∀fX fG,wpList P l.toArray (jO λfX fG=>IK true C fG/\BH P l C Q r cT eD fX fG) [] fX fG->iF P l.toArray C Q (nB r cT eD) fX fG:=λfX fG h2=>
    afm _ _ h2.2.2
   exact Tj
theorem ahl:∀(r:List (List Nat×List Nat×Nat×Bool)) (cT eD:List Nat),∀x ∈ nB r cT eD,x.2≠1/\x.2<=6
 | [],cT,eD,x,av=>by
  simp [nB] at av
  rcases av with ⟨_,_,rfl⟩ | ⟨_,_,rfl⟩ <;> simp
 | (s,p,e,d) ::r,cT,eD,x,av=>by
  simp only [nB,YC,Xl,YP] at av
  rcases av with ⟨_,_,rfl⟩ | ⟨_,_,rfl⟩ | rfl | av
  .simp
  .simp
  .cases d <;> simp
  .exact ahl r cT eD x av
def ahk (md:Region.Mode) (ops:Array Oper) (r:List (List Nat×List Nat×Nat×Bool)) (s p:List Nat):Bool:=
 let o:=nB r s p
 Region.noSelect ops && Pb md ops && Kf md ops o && o.all (λx=>decide (x.1 < ops.size)) && (List.range ops.size).all (λi=>o.any λx=>x.1 == i) &&
  o.all (λx=>x.2 == 3 || x.2 == 5 || tg ops x.1) && decide (o.length= ops.size)
theorem tV {Q:Exit->Act->World->Prop} {w:World} (C:World->Prop) (r:List (List Nat×List Nat×Nat×Bool)) (s p:List Nat) (hm:P.follows .mixedOrders= true)
 (bz:ahk .any l.toArray r s p= true) (aA:C w.drew)
 (h:BH P l (λah=>∃k:cM C,ah= k.world) (λa' ah=>Q .normal a' ah) r s p a w.drew):(Code.region id l.toArray true).wp P Q a w:=by
 simp only [ahk,Xa,YN,Xf] at bz
 obtain⟨⟨⟨⟨⟨⟨dc,dr⟩,eb⟩,eL⟩,gw⟩,hN⟩,ui⟩:=bz
 have CJ:Fit .any l.toArray (nB r s p) (Array.replicate l.toArray.size false):=by
  exact aah
 have ax:∀x ∈ nB r s p,x.1 < l.length/\(x.2= 3\/x.2= 5\/tg l.toArray x.1= true):=λx av=>by
  have h1:=eL x av;have h2:=hN x av
  refine⟨by simpa using h1,?_⟩
  simpa [or_assoc] using h2
 have H:=KI (P:=P) (md:= .any) (ops:=l.toArray) (C:=λah=>∃k:cM C,ah= k.world) (Q:=λa' ah=>Q .normal a' ah) dc _ (nB r s p) _ a w.drew rfl (ahl r s p) CJ (.inr ⟨⟨_,aA⟩,rfl⟩) (UI r s p a w.drew ax h)
 exact aHp
theorem jj {s p:List Nat} {d:Bool} {r:List (List Nat×List Nat×Nat×Bool)} {w:World}
 (h:∀K:Act->World->Prop,(∀a w,BH P l C Q r cT eD a w->K a w)->wpQuiet P l.toArray C (λa'=>wpQuiet P l.toArray (λah=>∃k:cM (λ_=>True),ah= k.world) (λfX=>wpList P l.toArray (jO λfX fG=>IK d C fG/\K fX fG) (ia l [e]) fX w) (ia l p) a') (ia l s) a):BH P l C Q ((s,p,e,d) ::r) cT eD a w:=
 h _ (λ_ _ h=>h)
theorem qu {w:World} (h:wpQuiet P l.toArray C (λa'=>wpQuiet P l.toArray (λah=>∃k:cM (λ_=>True),ah= k.world) (λfX=>Q fX w) (ia l eD) a') (ia l cT) a):BH P l C Q [] cT eD a w:=h
theorem nK {C:World->Prop} {w:World} (aA:C w) (h:K a w):jO (λfX fG=>IK false (λah=>∃k:cM C,ah= k.world) fG/\K fX fG) .normal a w:=⟨rfl,λ_=>⟨⟨w,aA⟩,rfl⟩,h⟩
theorem rP {X:World->Prop} {w:World} (h:K a w):jO (λfX fG=>IK true X fG/\K fX fG) .normal a w:=⟨rfl,λh=>Yr,h⟩
end
section
variable {P:Program} {ops:Array Oper} {md:Region.Mode} {C:World->Prop} {α:Type} [Inhabited α]
def ahb (md:Region.Mode) (ops:Array Oper) (par:Nat->List Nat) (dM:List (List Nat×Nat)) (s1:List Nat) (r2:List (List Nat×List Nat×Nat×Bool)) (s2 dt:List Nat):Bool:=
 let hx:=jY 0 1 dM s1;let fc:=nB r2 s2 dt;let ms:=dM.map (·.2)
 Region.noSelect ops && Pb md ops && Kf md ops (hx ++ fc) && (hx ++ fc).all (λx=>decide (x.1 < ops.size)) && (List.range ops.size).all (λi=>(hx ++ fc).any λx=>x.1 == i) &&
  (hx ++ fc).all (λx=>x.2 == 1 || x.2 == 3 || x.2 == 5 || tg ops x.1) && ms.all (λe=>(par e).all λm=>ms.contains m && xK md ops e m) && (hx ++ fc).all (λx=>!(ms.contains x.1) || x.2 == 1) &&
  decide (hx.length + fc.length= ops.size)
theorem RU:∀(r:List (List Nat×List Nat×Nat×Bool)) (cT eD:List Nat),∀x ∈ nB r cT eD,x.2= 2\/x.2= 3\/x.2= 4\/x.2= 5
 | [],cT,eD,x,av=>by
  simp [nB] at av
  rcases av with ⟨_,_,rfl⟩ | ⟨_,_,rfl⟩ <;> simp
 | (s,p,e,d) ::r,cT,eD,x,av=>by
  simp only [nB,YC,Xl,YP] at av
  rcases av with ⟨_,_,rfl⟩ | ⟨_,_,rfl⟩ | rfl | av
  .simp
  .simp
  .cases d <;> simp
  .exact RU r cT eD x av
theorem Ia {w:World} (S:mZ α) (C:World->Prop) (dM:List (List Nat×Nat)) (s1:List Nat) (r2:List (List Nat×List Nat×Nat×Bool)) (s2 dt:List Nat) (hm:P.follows .mixedOrders= true)
 (bz:ahb .any l.toArray S.par dM s1 r2 s2 dt= true) (aA:C w.drew) (jI:∀W fz,C W->Below W W fz->C fz)
 (h:∀bA:Nat->α,BG P l (λah=>∃k:cM C,ah= k.world) S bA (λa'=>∀dy V W,Made S w.drew (dM.map (·.2)) bA dy V W->C W->BH P l (λah=>∃k:cM C,ah= k.world) (λa' ah=>Q .normal a' ah) r2 s2 dt a' W) dM s1 a):(Code.region id l.toArray true).wp P Q a w:=by
 simp only [ahb,Xa,YN,Xf] at bz
 obtain⟨⟨⟨⟨⟨⟨⟨⟨dc,dr⟩,eb⟩,eL⟩,gw⟩,hN⟩,gB⟩,vp⟩,ui⟩:=bz
 have aFp:∀W fz,cls C W->Below W W fz->cls C fz:=λW fz ⟨k,ax⟩ aB=>⟨⟨fz,jI W fz (ax ▸ k.holds) aB⟩,rfl⟩
 have xQ:∀x ∈ jY 0 1 dM s1,x.1 < l.length/\(x.2= 1\/tg l.toArray x.1= true):=λx av=>by
  exact akx
 have nw:∀x ∈ nB r2 s2 dt,x.1 < l.length/\(x.2= 3\/x.2= 5\/tg l.toArray x.1= true):=λx av=>by
  have h1:=eL x (ZI _ av);have h2:=hN x (ZI _ av)
  refine⟨by simpa using h1,?_⟩
  have h3:=RU r2 s2 dt x av
  have h4:x.2≠1:=KK
  simpa [h4,or_assoc] using h2
 have pw:∀m ∈ dM.map (·.2),∀k,(m,k) ∈ jY 0 1 dM s1 ++ nB r2 s2 dt->(m,k) ∈ jY 0 1 dM s1/\k= 1:=by
  intro m hm k ax
  have h1:=vp _ ax;have aN:(dM.map (·.2)).contains m= true:=List.contains_iff_mem.2 hm
  simp only [aN,Zb,Bool.false_or,Xx] at h1
  refine⟨?_,h1⟩
  rcases YC.1 ax with h2 | h2
  .exact h2
  .exfalso
   have h3:=RU r2 s2 dt _ h2
   simp only at h3;omega
 have CJ:Fit .any l.toArray (jY 0 1 dM s1 ++ nB r2 s2 dt) (Array.replicate l.toArray.size false):=by
  exact aah
 have H:=akg (P:=P) (md:= .any) (ops:=l.toArray) (C:=cls C) (Q:=λa' ah=>Q .normal a' ah) (S:=S) (w0:=w.drew) (r2:=nB r2 s2 dt) (ms:=dM.map (·.2)) dc aFp
  (λe he m hm=>by
   have h1:=gB e he m hm
   exact⟨List.contains_iff_mem.1 h1.1,h1.2⟩)
  (λx av=>RU r2 s2 dt x av)
  _ (jY 0 1 dM s1) _ a w.drew (λ_=>default) (λ_=>w) (λ_=>w) rfl (λx av=>(Hx dM s1 x av).imp_right .inr) CJ pw ⟨⟨_,aA⟩,rfl⟩ (Wt _ _)
  (by
   have:((dM.map (·.2)).filter λm=>decide ((m,1) ∉ jY 0 1 dM s1))= []:=by
    rw [List.filter_eq_nil_iff]
    intro m hm
    simp [Oi dM s1 m hm]
   rw [this]
   exact⟨λm h=>Yr,λm h=>Yr,λm h=>Yr,λm h=>Yr,λm h=>Yr⟩)
  (λm hm bq=>absurd (Oi dM s1 m hm) bq)
  (λbA _=>UH (λa' ag dy V W aC ⟨k,Er⟩=>UI r2 s2 dt a' W nw (ag dy V W aC (by rw [Er];exact k.holds))) dM s1 a xQ (h bA))
 exact aHp
end
def fB (n a b:Int):Bool:=decide (a<=n) && decide (n<=b)
theorem qT {n a b:Int}:fB n a b= true↔a<=n/\n<=b:=by simp [fB]
def xZ (l:List UInt8):Bool:=l.all λc=>decide (97<=c.toNat) && decide (c.toNat<=122)
def vZ (s:ByteArray):Bool:=xZ s.data.toList && fB s.size 1 10
theorem ku {n a b:Int} (v:Bool) (az:fB n a b= v) (w:World):Rd 79 #[n,a,b] w λe ah=>e= .returned v/\ah= w:=by
 subst az
 go_in
 go_wp2
 all_goals go_ret;exact⟨by simp [fB, *] <;> omega,rfl⟩
theorem lO {n a b:Int} (v:Bool) (az:fB n a b= v) (w:World):Rd 186 #[n,a,b] w λe ah=>e= .returned v/\ah= w:=by
 subst az
 go_in
 go_wp2
 all_goals go_ret;exact⟨by simp [fB, *] <;> omega,rfl⟩
theorem agJ (s:VU) (k:Nat) (h:k < s.size):xZ (s.data.toList.take (k+1))= (xZ (s.data.toList.take k) && (decide (97<=s[k].toNat) && decide (s[k].toNat<=122))):=by
 unfold xZ
 rw [Yu ZQ,List.all_append];simp;rfl
theorem agI (s:VU) (k:Nat) (h:k < s.size) (h1:(decide (97<=s[k].toNat) && decide (s[k].toNat<=122))= false):xZ s.data.toList= false:=by
 have:xZ s.data.toList= (xZ (s.data.toList.take (k+1)) && xZ (s.data.toList.drop (k+1))):=by
  unfold xZ;rw [<- List.all_append,List.take_append_drop]
 rw [this,agJ s k h,h1];simp
theorem amW (h:z:=by
 by_cases h1:s[k].toNat < 97
 .go_wp2
  go_ret
  exact⟨by simp [vZ,agI s k bC Xq],rfl⟩
 .by_cases h2:122 < s[k].toNat
  .go_wp2
   go_ret
   exact⟨by simp [vZ,agI s k bC Xq],rfl⟩
  .go_wp2
   go_round
   case rel=>exact⟨k + 1,by omega,by go_num,by rw [agJ s k bC,aT.o];simp;omega⟩
   case measure=>simp [intOf];omega):z:=h
theorem alQ (h:z:=by
 go_ret
 have:=aT.o
 rw [YO Wn] at this
 exact⟨by simp [vZ,this],rfl⟩):z:=h
theorem awg (s:VU) (aP:s.size<=maxLen) (v:Bool) (az:vZ s= v) (w:World):Rd 281 #[s] w λe ah=>e= .returned v/\ah= w:=by
 subst az
 unfold maxLen at aP
 go_in
 go_wp2
 go_loop [3] (λi=>∃k:Nat,k<=s.size/\i= .int .i64 k/\xZ (s.data.toList.take k)= true) (λi=>s.size - (intOf i).toNat)
 case atStart=>exact⟨0,Xd _,rfl,rfl⟩
 case round=>
  obtain⟨k,ax,rfl,aT⟩:=hrel
  replace aT:=I aT
  by_cases bC:k < s.size
  .exact amW
  .obtain rfl:k= s.size:=KK
   go_wp2_with (go_at_call 79;refine (ku _ rfl _).mono ?_;rintro e ah ⟨rfl,rfl⟩)
   exact alQ
theorem awG (s:VU) (aP:s.size<=maxLen) (v:Bool) (az:vZ s= v) (w:World):Rd 283 #[s] w λe ah=>e= .returned v/\ah= w:=by
 subst az
 unfold maxLen at aP
 go_in
 go_wp2
 go_loop [3] (λi=>∃k:Nat,k<=s.size/\i= .int .i64 k/\xZ (s.data.toList.take k)= true) (λi=>s.size - (intOf i).toNat)
 case atStart=>exact⟨0,Xd _,rfl,rfl⟩
 case round=>
  obtain⟨k,ax,rfl,aT⟩:=hrel
  replace aT:=I aT
  by_cases bC:k < s.size
  .exact amW
  .obtain rfl:k= s.size:=KK
   go_wp2_with (go_at_call 186;refine (lO _ rfl _).mono ?_;rintro e ah ⟨rfl,rfl⟩)
   exact alQ
def eW (n:Int):ByteArray:=⟨(Lib.itoa n).toArray⟩
theorem Ee {a b:VU} (h:a.data.toList= b.data.toList):a= b:=by
 obtain⟨⟨a⟩⟩:=a;obtain⟨⟨b⟩⟩:=b;simp at h;rw [h]
theorem Dj:∀(k u:Nat),u < 10 ^ (k + 1)->(Lib.decDigits u).length<=k + 1
 | 0,u,h=>by rw [Lib.decDigits_one ZQ];simp
 | k + 1,u,h=>by
  rw [Lib.decDigits]
  split
  .simp
  .rw [Xu]
   have:=Dj k (u / 10) (by rw [Nat.pow_succ] at h;omega)
   simp;omega
theorem mQ (n:Int) (h:-1000000000 < n/\n < 1000000000):(eW n).size<=10:=by
 show (Lib.itoa n).toArray.size<=10
 rw [List.size_toArray]
 unfold Lib.itoa
 split
 .have:=Dj 8 n.natAbs KK
  simp;omega
 .have:=Dj 8 n.toNat KK
  omega
theorem agm (n:Nat) (h:n<=1000000000) (w:World):Rd 73 #[n] w λe ah=>e= .returned (.string ⟨(Lib.decDigits n).toArray⟩)/\Below w w ah:=by
 induction n using Nat.strongRecOn generalizing w with
 | _ n eR=>
  replace eR:=I eR
  by_cases bq:n < 10
  .go_in
   go_wp2
   go_ret
   refine⟨?_,Wt _ _⟩
   show Ending.returned (Value.string _)= _
   rw [Lib.decDigits_one bq]
   have aN:∀k:Fin 10,(⟨#[48,49,50,51,52,53,54,55,56,57]⟩ :VU).extract k (k + 1)=⟨#[UInt8.ofNat (48 + k)]⟩:=by decide +kernel
   have ax:=aN ⟨n,bq⟩
   simp only at ax
   rw [ax]
  .have bt:∀W:World,Rd 73 #[.int .i64 ((n:Int) / 10)] W λe ah=>e= .returned (.string ⟨(Lib.decDigits (n / 10)).toArray⟩)/\Below W W ah:=by
    intro W
    have h:=eR.o (n / 10) KK KK W
    rw [show ((n / 10:Nat):Int)= (n:Int) / 10 from by omega] at h
    exact h
   replace bt:=I bt
   have EI:(0:Int)<=(n:Int) % 10:=KK
   have ki:(n:Int) % 10 + 1<=10:=KK
   have CN:(n:Int) % 10<=10:=KK
   have gd:(⟨#[48,49,50,51,52,53,54,55,56,57]⟩ :VU).size= 10:=rfl
   have qQ:(⟨(Lib.decDigits (n / 10)).toArray⟩ :VU).size<=10:=by
    have:=Dj 8 (n / 10) KK
    show (Lib.decDigits (n / 10)).toArray.size<=10
    simp;omega
   have pY:((⟨#[48,49,50,51,52,53,54,55,56,57]⟩ :VU).extract (n % 10) (n % 10 + 1)).size<=10:=by
    rw [ByteArray.size_extract];omega
   go_in
   go_wp2
   refine eQ PV PV ?_
   repeat (go_big_quiet_step (((go_at_call 73;exact aD.call _ Xm (bt.o _)))))
   refine VF ?_
   intro K
   go_wp2
   go_ret
   refine⟨?_,K.ad⟩
   show Ending.returned (Value.string _)= _
   have aN:∀k:Fin 10,(⟨#[48,49,50,51,52,53,54,55,56,57]⟩ :VU).extract k (k + 1)=⟨#[UInt8.ofNat (48 + k)]⟩:=by decide +kernel
   have ax:=aN ⟨n % 10,Nat.mod_lt _ KK⟩
   simp only at ax
   rw [ax]
   refine Xc Ending.returned (Xc Value.string (Ee ?_))
   conv=>rhs;rw [Lib.decDigits,dif_neg bq]
   simp
theorem py (n:Int) (h0:-1000000000 < n) (h1:n < 1000000000) (w:World):Rd 73 #[n] w λe ah=>e= .returned (.string (eW n))/\Below w w ah:=by
 by_cases bq:0<=n
 .have h:=agm n.toNat KK w
  rw [Int.toNat_of_nonneg bq] at h
  unfold eW Lib.itoa
  rw [XU KK]
  exact h
 .have sN:n < 0:=KK
  clear bq
  have bt:∀W:World,Rd 73 #[.int .i64 (-n)] W λe ah=>e= .returned (.string ⟨(Lib.decDigits n.natAbs).toArray⟩)/\Below W W ah:=by
   intro W
   have h:=agm n.natAbs KK W
   rw [show ((n.natAbs:Nat):Int)= -n from by omega] at h
   exact h
  replace bt:=I bt
  have qQ:(Lib.decDigits n.natAbs).length<=10:=by have:=Dj 8 n.natAbs KK;omega
  go_in
  go_wp2_with fail
  refine (bt.o _).mono ?_
  rintro e bm ⟨rfl,bD⟩
  go_wp2
  go_ret
  refine⟨?_,bD⟩
  show Ending.returned (Value.string _)= _
  refine Xc Ending.returned (Xc Value.string (Ee ?_))
  unfold eW Lib.itoa
  rw [XX KK]
  simp
end Go.Proofs.YtlaaemmmbodaaaaGreatDoor
