/- Parts. -/
import Derived.BigQuiet
import Derived.Deep.Draws
import Derived.Lib.Hide
import Derived.WalkKit
import Derived.WalkLawsBesides
import Derived.WalkSpells
import Derived.Laws.AppendOwnNone
import Derived.StillTail
set_option maxHeartbeats 16000000
set_option maxRecDepth 100000
set_option linter.unnecessarySimpa false
set_option linter.unusedSimpArgs false
set_option linter.unusedVariables false
namespace Go.G9
open Go.RowKit
instance aoT:Coe Int Value:=⟨fun x=> .int .i64 x⟩
instance aoV:Coe Nat Value:=⟨fun n=> .int .i64 (n:Int)⟩
instance aoW:Coe ByteArray Value:=⟨fun x=> .string x⟩
instance aoS:Coe Bool Value:=⟨fun x=> .bool x⟩
instance aoR:Coe Nat (Option Addr):=⟨fun g=>some ⟨g,0,none⟩⟩
instance aoU {α:Type}:CoeOut (List α) Nat:=⟨List.length⟩
instance aoX:Coe World Nat:=⟨fun w=>w.heap.size⟩
structure ay (B:Nat) (w:World) where
  world:World
  ae:Below B w world
instance {B:Nat} {w:World}:Nonempty (ay B w):=⟨⟨w,Below.refl _ _⟩⟩
theorem ay.cell {B:Nat} {w:World} (k:ay B w) {p:Addr} (h:p.block < B):k.world.cell? p= w.cell? p:=k.ae.cell h
theorem ay.frozen {B:Nat} {w:World} (k:ay B w) {p:Addr} (h:p.block < B):k.world.frozen? p= w.frozen? p:=k.ae.frozen h
theorem ay.call {P:Program} {f:FuncId} {args:Array Value} {B:Nat} {w:World} {v:Value} (k:ay B w) (bG:B≤w.heap.size)
    (h:Calls P f args k.world fun e ah=>e= .returned v∧Below k.world.heap.size k.world ah):
    Calls P f args k.world fun e eE=>e= .returned v∧∃hX:ay B w,eE= hX.world:=
  h.mono fun _ ah ⟨he,aF⟩=>⟨he,⟨ah,k.ae.trans (aF.mono (Nat.le_trans bG k.ae.size))⟩,rfl⟩
theorem ay.same {P:Program} {f:FuncId} {args:Array Value} {B:Nat} {w:World} {v:Value} (k:ay B w)
    (h:Calls P f args k.world fun e ah=>e= .returned v∧ah= k.world):
    Calls P f args k.world fun e eE=>e= .returned v∧∃hX:ay B w,eE= hX.world:=
  h.mono fun _ _ ⟨he,aF⟩=>⟨he,k,aF⟩
theorem ZP {p:Prop} (h:p:=by
 funext a';exact propext ⟨fun h ah ⟨k,aD⟩=>aD ▸ h k,fun h k=>h _ ⟨k,rfl⟩⟩):p:=h
theorem eK {P:Program} {id:Nat} {Q:Exit→Act→World→Prop} {a:Act} {w:World} {l:List Oper} (hm:P.follows .mixedOrders= true) (bG:Region.lexB .any l.toArray= true)
    (h:wpQuiet P l.toArray (fun ah=>∃k:ay w.heap.size w,ah= k.world) (fun a'=>∀k:ay w.heap.size w,Q .normal a' k.world) l a):(Code.region id l.toArray true).wp P Q a w:=
  wp_region_quiet (C:=fun ah=>∃k:ay w.heap.size w,ah= k.world) hm bG ⟨⟨w.drew,(Below.refl _ _).drew⟩,rfl⟩
    (by
      have e:(fun a':Act=>∀k:ay w.heap.size w,Q .normal a' k.world)= (fun a'=>∀ah,(∃k:ay w.heap.size w,ah= k.world)→Q .normal a' ah):=by
        exact ZP
      rw [e] at h;simpa using h)
theorem aj {w bh aJ:World} (h:Below w w bh) (k:Below bh bh aJ):Below w w aJ:=h.trans (k.mono h.size)
def gy (p:Nat→Bool) (n:Nat):Bool:=(List.range n).all p
theorem acY (p:Nat→Bool) (n:Nat):gy p (n+1)= (gy p n && p n):=by simp [gy,List.range_succ]
theorem mv {p:Nat→Bool} {n:Nat} (h:gy p n= true) (aN:p n= true):gy p (n+1)= true:=by rw [acY,h,aN];rfl
theorem sQ {p:Nat→Bool} {n k:Nat} (h:k < n) (aN:p k= false):gy p n= false:=by
  simp only [gy,List.all_eq_false,List.mem_range];exact⟨k,h,by simp [aN]⟩
theorem lJ {p:Nat→Bool} {n:Nat}:gy p n= true↔∀k,k < n→p k= true:=by simp [gy]
theorem ed {a b:Bool} (h:a= b):Ending.returned a= .returned b:=by rw [h]
theorem BJ {k:IntKind} {a b:Int} (h:a= b):Ending.returned (.int k a)= .returned (.int k b):=by rw [h]
def aS {T:Type} (sz:Nat) (f:T→List Value) (w:World) (A:Option Addr) (xs:List T):Prop:=
  0 < xs.length→∃b off,A= some ⟨b,off,none⟩∧b < w.heap.size∧∀i x,xs[i]? =some x→∀j u,(f x)[j]? =some u→w.cell? ⟨b,off + i * sz + j,none⟩ =some u
theorem aS.nil {T:Type} {sz:Nat} {f:T→List Value} {w:World} {A:Option Addr}:aS sz f w A []:=fun h=>absurd h (by simp)
theorem aS.ae {T:Type} {sz:Nat} {f:T→List Value} {w ah:World} {A:Option Addr} {xs:List T} (h:aS sz f w A xs) (aF:Below w w ah):aS sz f ah A xs:=fun aY=>by
  obtain⟨b,off,aX,bu,aH⟩:=h aY
  exact⟨b,off,aX,Nat.lt_of_lt_of_le bu aF.size,fun i x aw j u hu=>(aF.cell (p:=⟨b,_,none⟩) bu).trans (aH i x aw j u hu)⟩
theorem aS.at_ {T:Type} {sz:Nat} {f:T→List Value} {w wr:World} {A:Option Addr} {xs:List T} (h:aS sz f w A xs) (aF:Below w w wr) {k:Nat} (aD:k < xs.length):
    ∃b off x,A= some ⟨b,off,none⟩∧b < wr.heap.size∧xs[k]? =some x∧∀j u,(f x)[j]? =some u→∀K:ay wr.heap.size wr,K.world.cell? ⟨b,off + k * sz + j,none⟩ =some u:=by
  obtain⟨b,off,aX,bu,aH⟩:=h (by omega)
  have Bi:=Nat.lt_of_lt_of_le bu aF.size
  exact⟨b,off,xs[k],aX,Bi,List.getElem?_eq_getElem aD,fun j u hu K=>(K.cell (p:=⟨b,_,none⟩) Bi).trans ((aF.cell (p:=⟨b,_,none⟩) bu).trans (aH k _ (List.getElem?_eq_getElem aD) j u hu))⟩
def ay.self (w:World):ay w.heap.size w:=⟨w,Below.refl _ _⟩
theorem bT (w:World) (a:Obj):Below w w (w.alloc a):=(Below.refl _ _).alloc (Nat.le_refl _) _
theorem CW (w:World) (a b:Obj):Below w w ((w.alloc a).alloc b):=(bT w a).alloc (by simp) _
theorem Kn (w:World) (a b c:Obj):Below w w (((w.alloc a).alloc b).alloc c):=(CW w a b).alloc (by simp;omega) _
theorem alE {P:Program} (t e:TypeId) (i:TypeInfo) (z:Value) (ct:P.underlying t= some (.slice e)) (hi:P.info? e= some i) (ck:i.zero= some z)
    (Up fo:IntKind) (n c:Nat) (qo:n≤c) (tj:i.bytes * c≤281474976710656) (h63:c≤9223372036854775807) (w:World):
    (Instr.makeSlice t (.int Up (n:Int)) (.int fo (c:Int))).run P w= .ok (.slice w.heap.size n c) (w.alloc (.cells (madeCells z.cells (c * i.size)) e)):=by
  have aF:(i.bytes:Int) * (c:Int)≤281474976710656:=by
    have h:((i.bytes * c:Nat):Int)≤281474976710656:=by omega
    rwa [Int.natCast_mul] at h
  have bp:=run_make (P:=P) w t e i z ct hi ck Up fo n c (by omega) (by omega) aF (by omega)
  simp only [Int.toNat_natCast] at bp
  exact bp
def aB (w:World) (g:Nat) (t:TypeId) (cs:Array Value):Prop:=w.heap[g]? =some (.cells cs t (0,0))
section
variable {w ah:World} {g:Nat} {t:TypeId} {cs:Array Value}
theorem aB.lt (h:aB w g t cs):g < w.heap.size:=by
  rcases Nat.lt_or_ge g w.heap.size with bu | uA
  · exact bu
  · unfold aB at h;rw [Array.getElem?_eq_none uA] at h;cases h
theorem aB.cell (h:aB w g t cs) (i:Nat):w.cell? ⟨g,i,none⟩ =cs[i]?:=cell_of_row w g i cs t (0,0) h
theorem aB.frozen (h:aB w g t cs) (i:Nat):w.frozen? ⟨g,i,none⟩ =false:=by
  unfold aB at h
  simp [World.frozen?,h]
theorem aB.new (w:World) (t:TypeId) (cs:Array Value):aB (w.alloc (.cells cs t)) w.heap.size t cs:=heap_alloc_new w _
theorem aB.alloc (h:aB w g t cs) (o:Obj):aB (w.alloc o) g t cs:=(Below.heap_alloc w o g h.lt).trans h
theorem aB.gE (h:aB w g t cs) (i:Nat) (u:Value):aB (w.setCell ⟨g,i,none⟩ u) g t (cs.setIfInBounds i u):=by
  unfold aB at h ⊢
  simp [World.setCell,Array.getElem?_modify,h]
theorem aB.ae {B:Nat} (h:aB w g t cs) (aF:Below B w ah) (cT:g < B):aB ah g t cs:=(aF.block g cT).trans h
end
def Own {T:Type} (B:Nat) (sz:Nat) (f:T→List Value) (t:TypeId) (w:World) (A:Option Addr) (xs:List T):Prop:=
  ∃g cs,A= some ⟨g,0,none⟩∧B≤g∧aB w g t cs∧∀i x,xs[i]? =some x→∀j u,(f x)[j]? =some u→cs[i * sz + j]? =some u
theorem Own.hj {T:Type} {B sz:Nat} {f:T→List Value} {t:TypeId} {w:World} {A:Option Addr} {xs:List T} (h:Own B sz f t w A xs):aS sz f w A xs:=fun _=>by
  obtain⟨g,cs,aX,_,aF,aH⟩:=h
  exact⟨g,0,aX,aF.lt,fun i x aw j u hu=>by rw [aF.cell,Nat.zero_add];exact aH i x aw j u hu⟩
def vn {T:Type} (sz:Nat) (f:T→List Value) (xs:List T) (k:Nat) (cs:Array Value):Prop:=
  ∀i x,i < k→xs[i]? =some x→∀j u,(f x)[j]? =some u→cs[i * sz + j]? =some u
theorem vn.zero {T:Type} {sz:Nat} {f:T→List Value} {xs:List T} {cs:Array Value}:vn sz f xs 0 cs:=fun _ _ h=>absurd h (Nat.not_lt_zero _)
theorem aB.some_ {w:World} {g:Nat} {t:TypeId} {cs:Array Value} (h:aB w g t cs) (i:Nat) (hi:i < cs.size):∃v,w.cell? ⟨g,i,none⟩ =some v:=⟨cs[i],by rw [h.cell];exact Array.getElem?_eq_getElem hi⟩
def qF:Array Value→Nat→List Value→Array Value
  | cs,_,[]=>cs
  | cs,i,u ::us=>qF (cs.setIfInBounds i u) (i + 1) us
def setCells:World→Nat→Nat→List Value→World
  | w,_,_,[]=>w
  | w,g,i,u ::us=>setCells (w.setCell ⟨g,i,none⟩ u) g (i + 1) us
theorem Xl:∀(us:List Value) (cs:Array Value) (i:Nat),(qF cs i us).size= cs.size
  | [],_,_=>rfl
  | u ::us,cs,i=>by rw [qF,Xl us];simp
theorem aB.qF {g:Nat} {t:TypeId}:∀(i:Nat) (us:List Value) {w:World} {cs:Array Value},aB w g t cs→aB (setCells w g i us) g t (Go.G9.qF cs i us)
  | _,[],_,_,h=>h
  | i,u ::us,_,_,h=>aB.qF (i + 1) us (h.gE i u)
theorem NZ:∀(us:List Value) (cs:Array Value) (i j:Nat),j < i→(qF cs i us)[j]? =cs[j]?
  | [],_,_,_,_=>rfl
  | u ::us,cs,i,j,h=>by rw [qF,NZ us _ _ _ (by omega),Array.getElem?_setIfInBounds_ne (by omega)]
theorem Xb:∀(us:List Value) (cs:Array Value) (i j:Nat) (u:Value),i + us.length≤cs.size→us[j]? =some u→(qF cs i us)[i + j]? =some u
  | [],_,_,_,_,_,h=>by simp at h
  | v ::us,cs,i,0,u,aV,h=>by
    simp only [List.length_cons] at aV
    simp at h;subst h
    rw [qF,NZ us _ _ _ (by omega),Nat.add_zero,Array.getElem?_setIfInBounds_self_of_lt (by omega)]
  | v ::us,cs,i,j + 1,u,aV,h=>by
    simp only [List.length_cons] at aV
    simp at h
    rw [qF,show i + (j + 1)= (i + 1) + j from by omega]
    exact Xb us _ _ j u (by simp;omega) h
theorem vn.put {T:Type} {sz:Nat} {f:T→List Value} {xs:List T} {k:Nat} {cs:Array Value} {x:T} (h:vn sz f xs k cs) (aw:xs[k]? =some x) (aV:k * sz + (f x).length≤cs.size)
    (hf:∀y,(f y).length= sz:=by intro y;rfl):vn sz f xs (k + 1) (Go.G9.qF cs (k * sz) (f x)):=by
  intro i y hi hy j u hu
  have bE:j < sz:=by have:=hf y;have h2:=(List.getElem?_eq_some_iff.1 hu).1;omega
  by_cases he:i= k
  · subst he
    obtain rfl:x= y:=Option.some.inj (aw.symm.trans hy)
    exact Xb _ _ _ _ _ aV hu
  · rw [NZ _ _ _ _ (by
      have:i + 1≤k:=by omega
      have:=Nat.mul_le_mul_right sz this
      rw [Nat.add_mul,Nat.one_mul] at this;omega)]
    exact h i y (by omega) hy j u hu
theorem vn.all {T:Type} {sz:Nat} {f:T→List Value} {xs:List T} {cs:Array Value} (h:vn sz f xs xs.length cs):∀i x,xs[i]? =some x→∀j u,(f x)[j]? =some u→cs[i * sz + j]? =some u:=
  fun i x aw=>h i x (List.getElem?_eq_some_iff.1 aw).1 aw
theorem boxed (w:World) (cs:Array Value) (t:TypeId) (j:Nat) (u:Value) (h:cs[j]? =some u) (K:ay (w.alloc (.cells cs t)).heap.size (w.alloc (.cells cs t))):K.world.cell? ⟨w.heap.size,j,none⟩ =some u:=
  (K.cell (p:=⟨w.heap.size,j,none⟩) (by simp)).trans (((aB.new w t cs).cell j).trans h)
def ay.drop {w bh:World} (K:ay bh.heap.size bh) (h:Below w.heap.size w bh):ay w.heap.size w:=⟨K.world,aj h K.ae⟩
open Go.RowKit
theorem aB.ur {w:World} {g:Nat} {t:TypeId} {cs:Array Value} (h:aB w g t cs) {p:Addr} (aN:g≠p.block) (u:Value):aB (w.setCell p u) g t cs:=(Below.heap_setCell w p u g aN).trans h
theorem aB.HW (w:World) (a:Obj) (t:TypeId) (cs:Array Value):aB ((w.alloc a).alloc (.cells cs t)) (w.heap.size + 1) t cs:=by
  have h:=aB.new (w.alloc a) t cs
  rwa [show (w.alloc a).heap.size= w.heap.size + 1 from by simp] at h
theorem aB.Nk (w:World) (a b:Obj) (t:TypeId) (cs:Array Value):aB (((w.alloc a).alloc b).alloc (.cells cs t)) (w.heap.size + 1 + 1) t cs:=by
  have h:=aB.new ((w.alloc a).alloc b) t cs
  rw [show ((w.alloc a).alloc b).heap.size= w.heap.size + 1 + 1 from by simp] at h
  exact h
theorem aB.akd (w:World) (a b c:Obj) (t:TypeId) (cs:Array Value):aB ((((w.alloc a).alloc b).alloc c).alloc (.cells cs t)) (w.heap.size + 1 + 1 + 1) t cs:=by
  have h:=aB.new (((w.alloc a).alloc b).alloc c) t cs
  rw [show (((w.alloc a).alloc b).alloc c).heap.size= w.heap.size + 1 + 1 + 1 from by simp] at h
  exact h
open Go.RowKit
def bd {T:Type} (B:Nat) (e:TypeId) (sz:Nat) (f:T→List Value) (w:World) (v:Value) (xs:List T):Prop:=w.ownsRow B e sz v xs.length (xs.flatMap f)
section
variable {T:Type} {B:Nat} {e:TypeId} {sz:Nat} {f:T→List Value} {w ah:World} {v:Value} {xs:List T}
theorem lz (hf:∀y,(f y).length= sz):∀xs:List T,(xs.flatMap f).length= xs.length * sz
  | []=>by simp
  | x ::xs=>by rw [List.flatMap_cons,List.length_append,lz hf xs,hf,List.length_cons,Nat.add_mul,Nat.one_mul,Nat.add_comm]
theorem AP (hf:∀y,(f y).length= sz):∀(xs:List T) (i:Nat) (x:T),xs[i]? =some x→∀(j:Nat) (u:Value),(f x)[j]? =some u→(xs.flatMap f)[i * sz + j]? =some u
  | [],_,_,h,_,_,_=>by simp at h
  | y ::xs,0,x,h,j,u,hu=>by
    simp at h;subst h
    rw [List.flatMap_cons,List.getElem?_append_left (by have:=(List.getElem?_eq_some_iff.1 hu).1;omega),Nat.zero_mul,Nat.zero_add];exact hu
  | y ::xs,i + 1,x,h,j,u,hu=>by
    simp at h
    have h2:=AP hf xs i x h j u hu
    rw [List.flatMap_cons,List.getElem?_append_right (by rw [hf,Nat.add_mul];omega),hf,show (i + 1) * sz + j - sz= i * sz + j from by rw [Nat.add_mul,Nat.one_mul];omega]
    exact h2
theorem GJ (hf:∀y,(f y).length= sz) (xs:List T) (k:Nat) (u:Value) (h:(xs.flatMap f)[k]? =some u):∃i j x,xs[i]? =some x∧(f x)[j]? =some u∧k= i * sz + j:=by
  induction xs generalizing k with
  | nil=>simp at h
  | cons y xs er=>
    rw [List.flatMap_cons] at h
    by_cases aD:k < (f y).length
    · rw [List.getElem?_append_left aD] at h
      exact⟨0,k,y,rfl,h,by omega⟩
    · rw [List.getElem?_append_right (by omega)] at h
      obtain⟨i,j,x,aw,bE,e⟩:=er _ h
      exact⟨i + 1,j,x,by simpa using aw,bE,by rw [Nat.add_mul,Nat.one_mul];have:=hf y;omega⟩
theorem bd.nil:bd B e sz f w (.slice none 0 0) []:=World.ownsRow_nil _ _ _ _
theorem bd.form (h:bd B e sz f w v xs) (hf:∀y,(f y).length= sz):∃A c,v= .slice A xs.length c∧xs.length≤c∧aS sz f w A xs∧(A= none→xs= []):=by
  obtain⟨aT,h⟩:=h
  rcases h with ⟨rfl,h0⟩ | ⟨g,cap,cur,rfl,bG,fc,qo,mh,lA,uF⟩
  · have:xs= []:=List.length_eq_zero_iff.1 h0
    subst this
    exact⟨none,0,rfl,Nat.le_refl _,aS.nil,fun _=>rfl⟩
  · refine⟨some ⟨g,0,none⟩,cap,rfl,qo,fun _=>⟨g,0,rfl,(Array.getElem?_eq_some_iff.1 fc).1,fun i x aw j u hu=>?_⟩,fun h=>by cases h⟩
    have h1:=AP hf xs i x aw j u hu
    rw [← uF,List.getElem?_take] at h1
    split at h1
    · rw [Nat.zero_add,cell_of_row w g _ cur e (0,0) fc];simpa using h1
    · cases h1
theorem bd.hj {A:Option Addr} {n c:Nat} (h:bd B e sz f w (.slice A n c) xs) (hf:∀y,(f y).length= sz:=by intro y;rfl):aS sz f w A xs:=by
  obtain⟨kS,cM,ax,_,bn,_⟩:=h.form hf
  injection ax with h1 h2 h3;subst h1;exact bn
theorem bd.ae (h:bd B e sz f w v xs) {B':Nat} (aF:Below B' w ah) (bu:∀k,v.ownBlock= some k→k < B'):bd B e sz f ah v xs:=by
  refine⟨h.1,?_⟩
  rcases h.2 with aY | ⟨g,cap,cur,rfl,bG,fc,r⟩
  · exact .inl aY
  · exact .inr ⟨g,cap,cur,rfl,bG,by rw [aF.block g (bu g rfl)];exact fc,r⟩
theorem bd.lt (h:bd B e sz f w v xs):∀k,v.ownBlock= some k→B≤k∧k < w.heap.size:=World.ownsRow.lt h
theorem bd.bm (h:bd B e sz f w v xs) (aF:Below w w ah):bd B e sz f ah v xs:=h.ae aF (fun k aD=>(h.lt k aD).2)
theorem bd.alloc (h:bd B e sz f w v xs) (o:Obj):bd B e sz f (w.alloc o) v xs:=World.ownsRow.alloc h o
theorem bd.kept {row:Option Nat} (h:bd B e sz f w v xs) (cT:w.grownBy ah row) (eM:∀k,v.ownBlock= some k→some k≠row):bd B e sz f ah v xs:=by
  refine⟨h.1,?_⟩
  rcases h.2 with aY | ⟨g,cap,cur,rfl,bG,fc,r⟩
  · exact .inl aY
  · exact .inr ⟨g,cap,cur,rfl,bG,by rw [cT.block g (Array.getElem?_eq_some_iff.1 fc).1 (eM g rfl)];exact fc,r⟩
theorem bd.base {B':Nat} (h:bd B e sz f w v xs) (bG:B'≤B):bd B' e sz f w v xs:=by
  refine⟨h.1,?_⟩
  rcases h.2 with aY | ⟨g,cap,cur,rfl,cT,r⟩
  · exact .inl aY
  · exact .inr ⟨g,cap,cur,rfl,by omega,r⟩
theorem bd.filled {g:Nat} {cs:Array Value} (aF:aB w g e cs) (bG:B≤g) (gN:cs.size= xs.length * sz) (hm:xs.length≤maxLen) (ai:∀i x,xs[i]? =some x→∀j u,(f x)[j]? =some u→cs[i * sz + j]? =some u)
    (hf:∀y,(f y).length= sz:=by intro y;rfl):bd B e sz f w (.slice (some ⟨g,0,none⟩) xs.length xs.length) xs:=by
  refine⟨lz hf xs,.inr ⟨g,xs.length,cs,rfl,bG,aF,Nat.le_refl _,hm,gN,?_⟩⟩
  rw [List.take_of_length_le (by simp [gN])]
  apply List.ext_getElem?
  intro k
  by_cases aD:k < (xs.flatMap f).length
  · obtain⟨i,j,x,aw,bE,rfl⟩:=GJ hf xs k _ (List.getElem?_eq_getElem aD)
    rw [List.getElem?_eq_getElem aD,← ai i x aw j _ bE];simp
  · rw [lz hf] at aD
    rw [List.getElem?_eq_none (by rw [Array.length_toList];omega),List.getElem?_eq_none (by rw [lz hf];omega)]
theorem aS.flat {iV:Addr} {ys:List T} (h:aS sz f w (some iV) ys) (hf:∀y,(f y).length= sz) (j:Nat) (u:Value) (hu:(ys.flatMap f)[j]? =some u):w.cell? (iV.add j)= some u:=by
  obtain⟨i,qu,y,hy,bE,rfl⟩:=GJ hf ys j u hu
  obtain⟨b,off,aX,_,aH⟩:=h (by have:=(List.getElem?_eq_some_iff.1 hy).1;omega)
  injection aX with aX;subst aX
  rw [← aH i y hy qu u bE]
  congr 1
  unfold Addr.add
  split <;> simp_all [Nat.add_assoc]
theorem aS.one (x:T) (t:TypeId):aS sz f (w.alloc (.cells (f x).toArray t)) (some ⟨w.heap.size,0,none⟩) [x]:=fun _=>
  ⟨w.heap.size,0,rfl,by simp,fun i y hy j u hu=>by
    have h0:i= 0:=by have:=(List.getElem?_eq_some_iff.1 hy).1;simp at this;omega
    subst h0;simp at hy;subst hy
    rw [Nat.zero_mul,Nat.zero_add]
    exact ((aB.new w t _).cell j).trans (by simpa using hu)⟩
theorem aS.alloc {A:Option Addr} (h:aS sz f w A xs) (o:Obj):aS sz f (w.alloc o) A xs:=h.ae (bT w o)
end
section
variable {T:Type} {B:Nat} {e:TypeId} {sz:Nat} {f:T→List Value} {w ah:World} {v:Value} {xs:List T}
theorem bd.made (w:World) (bG:B≤w.heap.size) (e:TypeId):bd B e sz f (w.alloc (.cells #[] e)) (.slice w.heap.size 0 0) ([]:List T):=
  World.ownsRow_made w #[] 0 bG (by simp) (by simp)
theorem bd.uI {A:Option Addr} {n c:Nat} (h:bd B e sz f w (.slice A n c) xs):A= none→xs= []∧c= 0:=by
  rintro rfl
  rcases h.2 with ⟨ax,h0⟩ | ⟨g,cap,cur,ax,_⟩
  · injection ax with _ _ h3;exact⟨List.length_eq_zero_iff.1 h0,h3⟩
  · injection ax with h1;cases h1
theorem VD {n:Nat} {cells:List Value} {g j:Nat} {u:Value} (h:w.ownsRow B e sz v n cells) (cT:v.ownBlock= some g):(w.setCell ⟨g,j,none⟩ u).ownsRow B e sz v n (cells.set j u):=by
  obtain⟨aT,h⟩:=h
  refine⟨by simpa using aT,?_⟩
  rcases h with ⟨rfl,_⟩ | ⟨bA,cap,cur,rfl,bG,fc,qo,mh,lA,uF⟩
  · simp [Value.ownBlock] at cT
  · simp [Value.ownBlock] at cT;subst cT
    refine .inr ⟨bA,cap,cur.setIfInBounds j u,rfl,bG,(aB.gE (w:=w) (g:=bA) (t:=e) (cs:=cur) fc j u),qo,mh,by simpa using lA,?_⟩
    rw [Array.toList_setIfInBounds,← uF,List.take_set]
theorem VC {n:Nat} {cells:List Value} {g j:Nat} (h:w.ownsRow B e sz v n cells) (cT:v.ownBlock= some g) (bE:j < cells.length):w.cell? ⟨g,j,none⟩ =some cells[j]∧w.frozen? ⟨g,j,none⟩ =false:=by
  obtain⟨aT,h⟩:=h
  rcases h with ⟨rfl,_⟩ | ⟨bA,cap,cur,rfl,bG,fc,qo,mh,lA,uF⟩
  · simp [Value.ownBlock] at cT
  · simp [Value.ownBlock] at cT;subst cT
    refine⟨?_,aB.frozen (w:=w) (g:=bA) (t:=e) (cs:=cur) fc j⟩
    rw [cell_of_row w bA j cur e (0,0) fc]
    have h1:(cur.toList.take (n * sz))[j]? =some cells[j]:=by rw [uF];exact List.getElem?_eq_getElem bE
    rw [List.getElem?_take] at h1
    split at h1
    · simpa using h1
    · cases h1
theorem vE (w:World) (row:Option Nat):w.grownBy w row:=⟨rfl,rfl,rfl,Nat.le_refl _,fun _ _ _=>rfl⟩
theorem uu {a w:World} {g j:Nat} (h:a.grownBy w (some g)) (u:Value):a.grownBy (w.setCell ⟨g,j,none⟩ u) (some g):=
  ⟨h.os,h.tape,h.output,by simpa [World.setCell] using h.size,fun i hi eM=>(Below.heap_setCell w _ u i (by rintro rfl;exact eM rfl)).trans (h.block i hi eM)⟩
theorem pH {a b c:World} {row:Option Nat} (h:a.grownBy b row) (k:b.grownBy c row):a.grownBy c row:=
  ⟨k.os.trans h.os,k.tape.trans h.tape,k.output.trans h.output,Nat.le_trans h.size k.size,fun i hi eM=>(k.block i (Nat.lt_of_lt_of_le hi h.size) eM).trans (h.block i hi eM)⟩
theorem KL {a b:World} {row:Option Nat} {B:Nat} (h:a.grownBy b row) (bG:B≤a.heap.size) (bp:∀k,row= some k→B≤k):Below B a b:=(Below.refl B a).grown h bG bp
theorem ly {a b:World} (h:Below a a b) (row:Option Nat):a.grownBy b row:=⟨h.os,h.tape,h.output,h.size,fun i hi _=>h.block i hi⟩
theorem aS.grown {A:Option Addr} {row:Option Nat} (h:aS sz f w A xs) (cT:w.grownBy ah row) (eM:∀iV,A= some iV→some iV.block≠row):aS sz f ah A xs:=fun aY=>by
  obtain⟨b,off,aX,bu,aH⟩:=h aY
  exact⟨b,off,aX,Nat.lt_of_lt_of_le bu cT.size,fun i x aw j u hu=>(World.cell?_of_block (cT.block b bu (eM _ aX))).trans (aH i x aw j u hu)⟩
end
theorem IN {P:Program} {w:World} {ops:Array Oper} {rest:List Oper} {o:Oper} {a:Act} {Q:Exit→Act→World→Prop} (mC:o.guard= none) (s x:Operand) (t:TypeId)
    (cG:o.op= .call {callee:= .builtin .append,args:=#[s,x],argTypes:=#[t,t]})
    (B:Nat) (e:TypeId) (i:TypeInfo) (z:Value) (sz bytes:Nat) (ct:P.underlying t= some (.slice e)) (hi:P.info? e= some i) (ck:i.zero= some z)
    (tx:i.size= sz) (ti:i.bytes= bytes) (tF:z.cells.size= sz) (gN:0 < sz) {T:Type} (f:T→List Value) (hf:∀y,(f y).length= sz) (jR:∀y u,u ∈ f y→u.oneCell'= true)
    (v:Value) (xs:List T) (aV:a.eval s= v) (Em:bd B e sz f w v xs) (an:Option Addr) (c2:Nat) (ys:List T) (aw:a.eval x= .slice an ys c2) (bn:aS sz f w an ys)
    (aX:an= none→ys= []∧c2= 0) (h63:xs.length + ys.length≤maxLen) (tj:(xs.length + ys.length) * bytes≤140737488355328) (DT:B≤w.heap.size)
    (h:∀ln ah,bd B e sz f ah ln (xs ++ ys)→w.grownBy ah v.ownBlock→wpList P ops Q rest (a.put o.dst ln) ah):wpList P ops Q (o ::rest) a w:=by
  cases an with
  | some iV=>
    refine wpList_append_own w mC s x t cG B e i z sz bytes ct hi ck tx ti tF gN v xs.length (xs.flatMap f) aV Em iV ys.length c2 (ys.flatMap f) aw (lz hf ys) (fun j u hu=>aS.flat bn hf j u hu)
      (fun u hu=>by obtain⟨y,_,hy⟩:=List.mem_flatMap.1 hu;exact jR y u hy) h63 tj DT (fun ln ah h1 h2 _=>h ln ah ?_ h2)
    unfold bd;rw [List.length_append,List.flatMap_append];exact h1
  | none=>
    obtain⟨rfl,rfl⟩:=aX rfl
    exact wpList_append_own_none mC s x t cG B e i sz ct hi v xs.length (xs.flatMap f) aV Em aw (h v w (by simpa using Em) ⟨rfl,rfl,rfl,Nat.le_refl _,fun _ _ _=>rfl⟩)
open Go.RowKit
instance aoJ (w:World):Nonempty (PLift (Below w.heap.size w w)):=⟨⟨Below.refl _ _⟩⟩
instance aoI (w W:World) (o:Obj) [h:Nonempty (PLift (Below w.heap.size w W))]:Nonempty (PLift (Below w.heap.size w (W.alloc o))):=⟨⟨h.elim fun x=>x.down.alloc x.down.size _⟩⟩
theorem az {w W:World} [h:Nonempty (PLift (Below w w W))]:Below w w W:=h.elim fun x=>x.down
section
variable {w W:World} {g:Nat} {t:TypeId}
theorem aB.kY {a0 a1:Value} (h:aB w g t #[a0,a1]):w.cell? ⟨g,0,none⟩ =some a0∧w.cell? ⟨g,1,none⟩ =some a1:=⟨h.cell 0,h.cell 1⟩
theorem aB.Gz {tY:Sort _} {V:tY→World} {a0 a1:Value} (h:∀k,aB (V k) g t #[a0,a1]):(∀k,(V k).cell? ⟨g,0,none⟩ =some a0)∧(∀k,(V k).cell? ⟨g,1,none⟩ =some a1):=⟨fun k=>(h k).cell 0,fun k=>(h k).cell 1⟩
theorem aB.vD {cs:Array Value} (h:aB w g t cs):w.frozen? ⟨g,0,none⟩ =false∧w.frozen? ⟨g,1,none⟩ =false:=⟨h.frozen 0,h.frozen 1⟩
theorem aB.cq {a0 a1 a2:Value} (h:aB w g t #[a0,a1,a2]):w.cell? ⟨g,0,none⟩ =some a0∧w.cell? ⟨g,1,none⟩ =some a1∧w.cell? ⟨g,2,none⟩ =some a2:=⟨h.cell 0,h.cell 1,h.cell 2⟩
theorem aB.jv {tY:Sort _} {V:tY→World} {a0 a1 a2:Value} (h:∀k,aB (V k) g t #[a0,a1,a2]):(∀k,(V k).cell? ⟨g,0,none⟩ =some a0)∧(∀k,(V k).cell? ⟨g,1,none⟩ =some a1)∧(∀k,(V k).cell? ⟨g,2,none⟩ =some a2):=⟨fun k=>(h k).cell 0,fun k=>(h k).cell 1,fun k=>(h k).cell 2⟩
theorem aB.mQ {cs:Array Value} (h:aB w g t cs):w.frozen? ⟨g,0,none⟩ =false∧w.frozen? ⟨g,1,none⟩ =false∧w.frozen? ⟨g,2,none⟩ =false:=⟨h.frozen 0,h.frozen 1,h.frozen 2⟩
theorem aB.aM {a0 a1 a2 a3 a4:Value} (h:aB w g t #[a0,a1,a2,a3,a4]):w.cell? ⟨g,0,none⟩ =some a0∧w.cell? ⟨g,1,none⟩ =some a1∧w.cell? ⟨g,2,none⟩ =some a2∧w.cell? ⟨g,3,none⟩ =some a3∧w.cell? ⟨g,4,none⟩ =some a4:=⟨h.cell 0,h.cell 1,h.cell 2,h.cell 3,h.cell 4⟩
theorem aB.jH {tY:Sort _} {V:tY→World} {a0 a1 a2 a3 a4:Value} (h:∀k,aB (V k) g t #[a0,a1,a2,a3,a4]):(∀k,(V k).cell? ⟨g,0,none⟩ =some a0)∧(∀k,(V k).cell? ⟨g,1,none⟩ =some a1)∧(∀k,(V k).cell? ⟨g,2,none⟩ =some a2)∧(∀k,(V k).cell? ⟨g,3,none⟩ =some a3)∧(∀k,(V k).cell? ⟨g,4,none⟩ =some a4):=⟨fun k=>(h k).cell 0,fun k=>(h k).cell 1,fun k=>(h k).cell 2,fun k=>(h k).cell 3,fun k=>(h k).cell 4⟩
theorem aB.iE {cs:Array Value} (h:aB w g t cs):w.frozen? ⟨g,0,none⟩ =false∧w.frozen? ⟨g,1,none⟩ =false∧w.frozen? ⟨g,2,none⟩ =false∧w.frozen? ⟨g,3,none⟩ =false∧w.frozen? ⟨g,4,none⟩ =false:=⟨h.frozen 0,h.frozen 1,h.frozen 2,h.frozen 3,h.frozen 4⟩
theorem aB.da {a0 a1 a2 a3 a4 a5:Value} (h:aB w g t #[a0,a1,a2,a3,a4,a5]):w.cell? ⟨g,0,none⟩ =some a0∧w.cell? ⟨g,1,none⟩ =some a1∧w.cell? ⟨g,2,none⟩ =some a2∧w.cell? ⟨g,3,none⟩ =some a3∧w.cell? ⟨g,4,none⟩ =some a4∧w.cell? ⟨g,5,none⟩ =some a5:=⟨h.cell 0,h.cell 1,h.cell 2,h.cell 3,h.cell 4,h.cell 5⟩
theorem aB.Kt {tY:Sort _} {V:tY→World} {a0 a1 a2 a3 a4 a5:Value} (h:∀k,aB (V k) g t #[a0,a1,a2,a3,a4,a5]):(∀k,(V k).cell? ⟨g,0,none⟩ =some a0)∧(∀k,(V k).cell? ⟨g,1,none⟩ =some a1)∧(∀k,(V k).cell? ⟨g,2,none⟩ =some a2)∧(∀k,(V k).cell? ⟨g,3,none⟩ =some a3)∧(∀k,(V k).cell? ⟨g,4,none⟩ =some a4)∧(∀k,(V k).cell? ⟨g,5,none⟩ =some a5):=⟨fun k=>(h k).cell 0,fun k=>(h k).cell 1,fun k=>(h k).cell 2,fun k=>(h k).cell 3,fun k=>(h k).cell 4,fun k=>(h k).cell 5⟩
theorem aB.rV {cs:Array Value} (h:aB w g t cs):w.frozen? ⟨g,0,none⟩ =false∧w.frozen? ⟨g,1,none⟩ =false∧w.frozen? ⟨g,2,none⟩ =false∧w.frozen? ⟨g,3,none⟩ =false∧w.frozen? ⟨g,4,none⟩ =false∧w.frozen? ⟨g,5,none⟩ =false:=⟨h.frozen 0,h.frozen 1,h.frozen 2,h.frozen 3,h.frozen 4,h.frozen 5⟩
theorem aB.pC {a0 a1 a2 a3 a4 a5 a6:Value} (h:aB w g t #[a0,a1,a2,a3,a4,a5,a6]):w.cell? ⟨g,0,none⟩ =some a0∧w.cell? ⟨g,1,none⟩ =some a1∧w.cell? ⟨g,2,none⟩ =some a2∧w.cell? ⟨g,3,none⟩ =some a3∧w.cell? ⟨g,4,none⟩ =some a4∧w.cell? ⟨g,5,none⟩ =some a5∧w.cell? ⟨g,6,none⟩ =some a6:=⟨h.cell 0,h.cell 1,h.cell 2,h.cell 3,h.cell 4,h.cell 5,h.cell 6⟩
theorem aB.Dn {cs:Array Value} (h:aB w g t cs):w.frozen? ⟨g,0,none⟩ =false∧w.frozen? ⟨g,1,none⟩ =false∧w.frozen? ⟨g,2,none⟩ =false∧w.frozen? ⟨g,3,none⟩ =false∧w.frozen? ⟨g,4,none⟩ =false∧w.frozen? ⟨g,5,none⟩ =false∧w.frozen? ⟨g,6,none⟩ =false:=⟨h.frozen 0,h.frozen 1,h.frozen 2,h.frozen 3,h.frozen 4,h.frozen 5,h.frozen 6⟩
theorem aB.aI {a0 a1 a2 a3 a4 a5 a6 a7:Value} (h:aB w g t #[a0,a1,a2,a3,a4,a5,a6,a7]):w.cell? ⟨g,0,none⟩ =some a0∧w.cell? ⟨g,1,none⟩ =some a1∧w.cell? ⟨g,2,none⟩ =some a2∧w.cell? ⟨g,3,none⟩ =some a3∧w.cell? ⟨g,4,none⟩ =some a4∧w.cell? ⟨g,5,none⟩ =some a5∧w.cell? ⟨g,6,none⟩ =some a6∧w.cell? ⟨g,7,none⟩ =some a7:=⟨h.cell 0,h.cell 1,h.cell 2,h.cell 3,h.cell 4,h.cell 5,h.cell 6,h.cell 7⟩
theorem aB.oS {tY:Sort _} {V:tY→World} {a0 a1 a2 a3 a4 a5 a6 a7:Value} (h:∀k,aB (V k) g t #[a0,a1,a2,a3,a4,a5,a6,a7]):(∀k,(V k).cell? ⟨g,0,none⟩ =some a0)∧(∀k,(V k).cell? ⟨g,1,none⟩ =some a1)∧(∀k,(V k).cell? ⟨g,2,none⟩ =some a2)∧(∀k,(V k).cell? ⟨g,3,none⟩ =some a3)∧(∀k,(V k).cell? ⟨g,4,none⟩ =some a4)∧(∀k,(V k).cell? ⟨g,5,none⟩ =some a5)∧(∀k,(V k).cell? ⟨g,6,none⟩ =some a6)∧(∀k,(V k).cell? ⟨g,7,none⟩ =some a7):=⟨fun k=>(h k).cell 0,fun k=>(h k).cell 1,fun k=>(h k).cell 2,fun k=>(h k).cell 3,fun k=>(h k).cell 4,fun k=>(h k).cell 5,fun k=>(h k).cell 6,fun k=>(h k).cell 7⟩
theorem aB.ib {cs:Array Value} (h:aB w g t cs):w.frozen? ⟨g,0,none⟩ =false∧w.frozen? ⟨g,1,none⟩ =false∧w.frozen? ⟨g,2,none⟩ =false∧w.frozen? ⟨g,3,none⟩ =false∧w.frozen? ⟨g,4,none⟩ =false∧w.frozen? ⟨g,5,none⟩ =false∧w.frozen? ⟨g,6,none⟩ =false∧w.frozen? ⟨g,7,none⟩ =false:=⟨h.frozen 0,h.frozen 1,h.frozen 2,h.frozen 3,h.frozen 4,h.frozen 5,h.frozen 6,h.frozen 7⟩
theorem aB.GL {cs:Array Value} (h:aB w g t cs):w.frozen? ⟨g,0,none⟩ =false∧w.frozen? ⟨g,1,none⟩ =false∧w.frozen? ⟨g,2,none⟩ =false∧w.frozen? ⟨g,3,none⟩ =false∧w.frozen? ⟨g,4,none⟩ =false∧w.frozen? ⟨g,5,none⟩ =false∧w.frozen? ⟨g,6,none⟩ =false∧w.frozen? ⟨g,7,none⟩ =false∧w.frozen? ⟨g,8,none⟩ =false:=⟨h.frozen 0,h.frozen 1,h.frozen 2,h.frozen 3,h.frozen 4,h.frozen 5,h.frozen 6,h.frozen 7,h.frozen 8⟩
theorem aB.bX {a0 a1 a2 a3 a4 a5 a6 a7 a8 a9 a10:Value} (h:aB w g t #[a0,a1,a2,a3,a4,a5,a6,a7,a8,a9,a10]):w.cell? ⟨g,0,none⟩ =some a0∧w.cell? ⟨g,1,none⟩ =some a1∧w.cell? ⟨g,2,none⟩ =some a2∧w.cell? ⟨g,3,none⟩ =some a3∧w.cell? ⟨g,4,none⟩ =some a4∧w.cell? ⟨g,5,none⟩ =some a5∧w.cell? ⟨g,6,none⟩ =some a6∧w.cell? ⟨g,7,none⟩ =some a7∧w.cell? ⟨g,8,none⟩ =some a8∧w.cell? ⟨g,9,none⟩ =some a9∧w.cell? ⟨g,10,none⟩ =some a10:=⟨h.cell 0,h.cell 1,h.cell 2,h.cell 3,h.cell 4,h.cell 5,h.cell 6,h.cell 7,h.cell 8,h.cell 9,h.cell 10⟩
theorem aB.qf {tY:Sort _} {V:tY→World} {a0 a1 a2 a3 a4 a5 a6 a7 a8 a9 a10:Value} (h:∀k,aB (V k) g t #[a0,a1,a2,a3,a4,a5,a6,a7,a8,a9,a10]):(∀k,(V k).cell? ⟨g,0,none⟩ =some a0)∧(∀k,(V k).cell? ⟨g,1,none⟩ =some a1)∧(∀k,(V k).cell? ⟨g,2,none⟩ =some a2)∧(∀k,(V k).cell? ⟨g,3,none⟩ =some a3)∧(∀k,(V k).cell? ⟨g,4,none⟩ =some a4)∧(∀k,(V k).cell? ⟨g,5,none⟩ =some a5)∧(∀k,(V k).cell? ⟨g,6,none⟩ =some a6)∧(∀k,(V k).cell? ⟨g,7,none⟩ =some a7)∧(∀k,(V k).cell? ⟨g,8,none⟩ =some a8)∧(∀k,(V k).cell? ⟨g,9,none⟩ =some a9)∧(∀k,(V k).cell? ⟨g,10,none⟩ =some a10):=⟨fun k=>(h k).cell 0,fun k=>(h k).cell 1,fun k=>(h k).cell 2,fun k=>(h k).cell 3,fun k=>(h k).cell 4,fun k=>(h k).cell 5,fun k=>(h k).cell 6,fun k=>(h k).cell 7,fun k=>(h k).cell 8,fun k=>(h k).cell 9,fun k=>(h k).cell 10⟩
theorem aB.gX {cs:Array Value} (h:aB w g t cs):w.frozen? ⟨g,0,none⟩ =false∧w.frozen? ⟨g,1,none⟩ =false∧w.frozen? ⟨g,2,none⟩ =false∧w.frozen? ⟨g,3,none⟩ =false∧w.frozen? ⟨g,4,none⟩ =false∧w.frozen? ⟨g,5,none⟩ =false∧w.frozen? ⟨g,6,none⟩ =false∧w.frozen? ⟨g,7,none⟩ =false∧w.frozen? ⟨g,8,none⟩ =false∧w.frozen? ⟨g,9,none⟩ =false∧w.frozen? ⟨g,10,none⟩ =false:=⟨h.frozen 0,h.frozen 1,h.frozen 2,h.frozen 3,h.frozen 4,h.frozen 5,h.frozen 6,h.frozen 7,h.frozen 8,h.frozen 9,h.frozen 10⟩
end
def uQ:List Value→Nat→List Value→List Value
  | [],_,_=>[]
  | c ::cs,0,[]=>c ::cs
  | _ ::cs,0,v ::fS=>v ::uQ cs 0 fS
  | c ::cs,k + 1,fS=>c ::uQ cs k fS
theorem Xe:∀(l:List Value) (k:Nat),uQ l k []= l
  | [],_=>rfl
  | _ ::_,0=>rfl
  | c ::cs,k + 1=>by rw [uQ,Xe cs k]
theorem Xf:∀(l:List Value) (k:Nat) (v:Value) (fS:List Value),uQ (l.set k v) (k + 1) fS= uQ l k (v ::fS)
  | [],_,_,_=>by simp [uQ]
  | c ::cs,0,v,fS=>by simp [uQ]
  | c ::cs,k + 1,v,fS=>by simp [uQ,Xf cs k v fS]
structure dy (w:World) (g k:Nat) (fS:List Value) (W:World):Prop where
  fC:w.grownBy W (some g)
  sz:W.heap.size= w.heap.size
  own:∀{t:TypeId} {l:List Value},aB w g t ⟨l⟩→aB W g t ⟨uQ l k fS⟩
  Kz:∀{p:Nat} {t:TypeId} {cs:Array Value},aB w p t cs→p≠g→aB W p t cs
  aF:∀{n:Nat} {w0:World},Below n w0 w→n≤g→Below n w0 W
theorem dy.dV {w W:World} {g k p:Nat} {fS:List Value} {t:TypeId} {cs:Array Value} (h:dy w g k fS W) (b:aB w p t cs) (eM:p≠g:=by omega):aB W p t cs:=h.Kz b eM
theorem dy.aH {w W w0:World} {g k n:Nat} {fS:List Value} (h:dy w g k fS W) (b:Below n w0 w) (aY:n≤g:=by omega):Below n w0 W:=h.aF b aY
theorem be (w:World) {b W:World} [Nonempty (PLift (Below w w b))] (h:Below b b W):Below w w W:=aj az h
theorem hD {P:Program} {fn:Func} {R:Ending→World→Prop} {a:Act} {w:World} {v:Value} (bn:R (.returned v) w) (bp:(results fn a.tmps).run P w= .ok v w) (bJ:a.defers= []:=by rfl):bodyPost P fn R .ret a w:=⟨bJ,v,bp,bn⟩
theorem dy.nil {w:World} {g k:Nat}:dy w g k [] w:=⟨vE _ _,rfl,fun {_ l} h=>by rw [Xe l k];exact h,fun h _=>h,fun h _=>h⟩
theorem dy.cons {w W:World} {g k:Nat} {v:Value} {fS:List Value} (h:dy (w.setCell ⟨g,k,none⟩ v) g (k + 1) fS W):dy w g k (v ::fS) W:=
  ⟨pH (uu (vE w (some g)) v) h.fC,h.sz.trans (by simp [World.setCell]),fun {_ l} b=>by rw [← Xf l k v fS];exact h.own (by simpa using b.gE k v),fun b aY=>h.Kz (b.ur (p:=⟨g,k,none⟩) aY v) aY,fun b aY=>h.aF (b.setCell (p:=⟨g,k,none⟩) aY v) aY⟩
theorem aB.to {w W:World} {g:Nat} {t:TypeId} {cs:Array Value} (h:aB w g t cs) (aF:Below w w W):aB W g t cs:=h.ae aF h.lt
theorem J {p:Prop} (h:p):Hid p:=Lib.hid h
theorem bd.bY {T:Type} {B sz:Nat} {f:T→List Value} {e:TypeId} {w W:World} {v:Value} {xs:List T} {g k:Nat} {fS:List Value} (h:bd B e sz f w v xs) (s:dy w g k fS W) (eM:∀q,v.ownBlock= some q→¬q= g):bd B e sz f W v xs:=h.kept s.fC (fun q bj e=>eM q bj (Option.some.inj e))
section
variable {w W:World} {g:Nat} {t:TypeId} {Q:World→Prop}
theorem mF (k:Nat) {a0:Value} (h:∀W,dy w g k [a0] W→Q W):Q (World.setCell w ⟨g,k,none⟩ a0):=h _ (dy.cons dy.nil)
theorem su (k:Nat) {a0 a1 a2:Value} (h:∀W,dy w g k [a0,a1,a2] W→Q W):Q (World.setCell (World.setCell (World.setCell w ⟨g,k,none⟩ a0) ⟨g,k + 1,none⟩ a1) ⟨g,k + 2,none⟩ a2):=h _ (dy.cons (dy.cons (dy.cons dy.nil)))
theorem dy.uh {a0 a1 a2 eu dF dJ:Value} (h:dy w g 0 [a0,a1,a2] W) (b:aB w g t #[eu,dF,dJ]):aB W g t #[a0,a1,a2]:=h.own b
theorem gF (k:Nat) {a0 a1 a2 a3 a4:Value} (h:∀W,dy w g k [a0,a1,a2,a3,a4] W→Q W):Q (World.setCell (World.setCell (World.setCell (World.setCell (World.setCell w ⟨g,k,none⟩ a0) ⟨g,k + 1,none⟩ a1) ⟨g,k + 2,none⟩ a2) ⟨g,k + 3,none⟩ a3) ⟨g,k + 4,none⟩ a4):=h _ (dy.cons (dy.cons (dy.cons (dy.cons (dy.cons dy.nil)))))
theorem dy.hV {a0 a1 a2 a3 a4 eu dF dJ fa fZ:Value} (h:dy w g 0 [a0,a1,a2,a3,a4] W) (b:aB w g t #[eu,dF,dJ,fa,fZ]):aB W g t #[a0,a1,a2,a3,a4]:=h.own b
theorem sv (k:Nat) {a0 a1 a2 a3 a4 a5:Value} (h:∀W,dy w g k [a0,a1,a2,a3,a4,a5] W→Q W):Q (World.setCell (World.setCell (World.setCell (World.setCell (World.setCell (World.setCell w ⟨g,k,none⟩ a0) ⟨g,k + 1,none⟩ a1) ⟨g,k + 2,none⟩ a2) ⟨g,k + 3,none⟩ a3) ⟨g,k + 4,none⟩ a4) ⟨g,k + 5,none⟩ a5):=h _ (dy.cons (dy.cons (dy.cons (dy.cons (dy.cons (dy.cons dy.nil))))))
theorem dy.rO {a0 a1 a2 a3 a4 a5 eu dF dJ fa fZ iN:Value} (h:dy w g 0 [a0,a1,a2,a3,a4,a5] W) (b:aB w g t #[eu,dF,dJ,fa,fZ,iN]):aB W g t #[a0,a1,a2,a3,a4,a5]:=h.own b
theorem Fl (k:Nat) {a0 a1 a2 a3 a4 a5 a6:Value} (h:∀W,dy w g k [a0,a1,a2,a3,a4,a5,a6] W→Q W):Q (World.setCell (World.setCell (World.setCell (World.setCell (World.setCell (World.setCell (World.setCell w ⟨g,k,none⟩ a0) ⟨g,k + 1,none⟩ a1) ⟨g,k + 2,none⟩ a2) ⟨g,k + 3,none⟩ a3) ⟨g,k + 4,none⟩ a4) ⟨g,k + 5,none⟩ a5) ⟨g,k + 6,none⟩ a6):=h _ (dy.cons (dy.cons (dy.cons (dy.cons (dy.cons (dy.cons (dy.cons dy.nil)))))))
theorem dy.CS {a0 a1 a2 a3 a4 a5 a6 eu dF dJ fa fZ iN jc:Value} (h:dy w g 0 [a0,a1,a2,a3,a4,a5,a6] W) (b:aB w g t #[eu,dF,dJ,fa,fZ,iN,jc]):aB W g t #[a0,a1,a2,a3,a4,a5,a6]:=h.own b
theorem hR (k:Nat) {a0 a1 a2 a3 a4 a5 a6 a7:Value} (h:∀W,dy w g k [a0,a1,a2,a3,a4,a5,a6,a7] W→Q W):Q (World.setCell (World.setCell (World.setCell (World.setCell (World.setCell (World.setCell (World.setCell (World.setCell w ⟨g,k,none⟩ a0) ⟨g,k + 1,none⟩ a1) ⟨g,k + 2,none⟩ a2) ⟨g,k + 3,none⟩ a3) ⟨g,k + 4,none⟩ a4) ⟨g,k + 5,none⟩ a5) ⟨g,k + 6,none⟩ a6) ⟨g,k + 7,none⟩ a7):=h _ (dy.cons (dy.cons (dy.cons (dy.cons (dy.cons (dy.cons (dy.cons (dy.cons dy.nil))))))))
theorem dy.ia {a0 a1 a2 a3 a4 a5 a6 a7 eu dF dJ fa fZ iN jc gu:Value} (h:dy w g 0 [a0,a1,a2,a3,a4,a5,a6,a7] W) (b:aB w g t #[eu,dF,dJ,fa,fZ,iN,jc,gu]):aB W g t #[a0,a1,a2,a3,a4,a5,a6,a7]:=h.own b
theorem dy.VN {w W:World} {g:Nat} {t:TypeId} {a0 a1 a2 a3 a4 a5 a6 a7 eu dF dJ fa fZ iN jc gu ui sT AA:Value} (h:dy w g 0 [a0,a1,a2,a3,a4,a5,a6,a7] W) (b:aB w g t #[eu,dF,dJ,fa,fZ,iN,jc,gu,ui,sT,AA]):aB W g t #[a0,a1,a2,a3,a4,a5,a6,a7,ui,sT,AA]:=h.own b
theorem dy.hP {w W:World} {g:Nat} {t:TypeId} {a0 a1 a2 a3 a4 a5 a6 a7 a8 a9 a10 eu dF dJ fa fZ iN jc gu ui sT AA:Value} (h:dy w g 0 [a0,a1,a2,a3,a4,a5,a6,a7,a8,a9,a10] W) (b:aB w g t #[eu,dF,dJ,fa,fZ,iN,jc,gu,ui,sT,AA]):aB W g t #[a0,a1,a2,a3,a4,a5,a6,a7,a8,a9,a10]:=h.own b
theorem dy.VO {w W:World} {g:Nat} {t:TypeId} {a0 eu dF dJ:Value} (h:dy w g 1 [a0] W) (b:aB w g t #[eu,dF,dJ]):aB W g t #[eu,a0,dJ]:=h.own b
theorem dy.Ik {w W:World} {g:Nat} {t:TypeId} {a0 eu dF dJ fa fZ iN jc gu:Value} (h:dy w g 1 [a0] W) (b:aB w g t #[eu,dF,dJ,fa,fZ,iN,jc,gu]):aB W g t #[eu,a0,dJ,fa,fZ,iN,jc,gu]:=h.own b
theorem dy.NA {w W:World} {g:Nat} {t:TypeId} {a0 eu dF dJ:Value} (h:dy w g 2 [a0] W) (b:aB w g t #[eu,dF,dJ]):aB W g t #[eu,dF,a0]:=h.own b
theorem dy.NB {w W:World} {g:Nat} {t:TypeId} {a0 eu dF dJ fa fZ:Value} (h:dy w g 2 [a0] W) (b:aB w g t #[eu,dF,dJ,fa,fZ]):aB W g t #[eu,dF,a0,fa,fZ]:=h.own b
theorem dy.EW {w W:World} {g:Nat} {t:TypeId} {a0 a1 a2 a3 a4 eu dF dJ fa fZ iN jc gu:Value} (h:dy w g 2 [a0,a1,a2,a3,a4] W) (b:aB w g t #[eu,dF,dJ,fa,fZ,iN,jc,gu]):aB W g t #[eu,dF,a0,a1,a2,a3,a4,gu]:=h.own b
theorem dy.EX {w W:World} {g:Nat} {t:TypeId} {a0 eu dF dJ fa fZ:Value} (h:dy w g 3 [a0] W) (b:aB w g t #[eu,dF,dJ,fa,fZ]):aB W g t #[eu,dF,dJ,a0,fZ]:=h.own b
theorem dy.VP {w W:World} {g:Nat} {t:TypeId} {a0 eu dF dJ fa fZ:Value} (h:dy w g 4 [a0] W) (b:aB w g t #[eu,dF,dJ,fa,fZ]):aB W g t #[eu,dF,dJ,fa,a0]:=h.own b
theorem dy.VQ {w W:World} {g:Nat} {t:TypeId} {a0 eu dF dJ fa fZ iN jc gu:Value} (h:dy w g 7 [a0] W) (b:aB w g t #[eu,dF,dJ,fa,fZ,iN,jc,gu]):aB W g t #[eu,dF,dJ,fa,fZ,iN,jc,a0]:=h.own b
theorem dy.VR {w W:World} {g:Nat} {t:TypeId} {a0 a1 a2 eu dF dJ fa fZ iN jc gu ui sT AA:Value} (h:dy w g 8 [a0,a1,a2] W) (b:aB w g t #[eu,dF,dJ,fa,fZ,iN,jc,gu,ui,sT,AA]):aB W g t #[eu,dF,dJ,fa,fZ,iN,jc,gu,a0,a1,a2]:=h.own b
theorem bd.aoP {T:Type} {B sz:Nat} {f:T→List Value} {e:TypeId} {w ah:World} {v:Value} {xs:List T} {p:Nat} (h:bd B e sz f w v xs) (cT:w.grownBy ah (some p)) (aN:p < B:=by omega):bd B e sz f ah v xs:=h.kept cT (fun k aD e=>by have:=(h.lt k aD).1;have:=Option.some.inj e;omega)
theorem aB.apx {w ah:World} {g p:Nat} {t:TypeId} {cs:Array Value} (h:aB w g t cs) (cT:w.grownBy ah (some p)) (eM:g≠p:=by omega):aB ah g t cs:=(cT.block g h.lt (fun e=>eM (Option.some.inj e))).trans h
theorem aB.dY {b bh:World} {g:Nat} {t:TypeId} {A:Array Value} (aF:Below b.heap.size b bh) (h:aB b g t A:=by repeat (first | exact aB.new _ _ _ | exact aB.HW _ _ _ _ | exact aB.Nk _ _ _ _ _ | exact aB.akd _ _ _ _ _ _ | refine aB.alloc ?_ _)) (aT:g < b.heap.size:=by simp <;> omega):aB bh g t A:=h.ae aF aT
theorem cF {c0:Array Value} {t0:TypeId} (h:∀W,Below w w W→aB W (w.heap.size) t0 c0→Q W):Q (World.alloc w (.cells c0 t0)):=h _ (bT _ _) (aB.new _ _ _)
theorem fe {c0 av:Array Value} {t0 t1:TypeId} (h:∀W,Below w w W→aB W (w.heap.size) t0 c0→aB W (w.heap.size + 1) t1 av→Q W):Q (World.alloc (World.alloc w (.cells c0 t0)) (.cells av t1)):=h _ (CW _ _ _) ((aB.new _ _ _).alloc _) (aB.HW _ _ _ _)
theorem fv {c0 av c2:Array Value} {t0 t1 t2:TypeId} (h:∀W,Below w w W→aB W (w.heap.size) t0 c0→aB W (w.heap.size + 1) t1 av→aB W (w.heap.size + 1 + 1) t2 c2→Q W):Q (World.alloc (World.alloc (World.alloc w (.cells c0 t0)) (.cells av t1)) (.cells c2 t2)):=h _ (Kn _ _ _ _) (((aB.new _ _ _).alloc _).alloc _) ((aB.HW _ _ _ _).alloc _) (aB.Nk _ _ _ _ _)
end
open Go.RowKit
section
variable {P:Program} {ops:Array Oper} {md:Region.Mode} {C:World→Prop}
def Fu (P:Program) (md:Region.Mode) (ops:Array Oper) (C:World→Prop) (n:Nat) (L:Array Bool→Act→Prop):Nat→Array Bool→Act→Prop
 | 0,listed,a=>L listed a
 | f + 1,listed,a=>
  Region.ready md ops listed≠[]∧∀i ∈ Region.ready md ops listed,i < n∧qOp P ops C i (Fu P md ops C n L f (listed.setIfInBounds i true)) a
theorem Yc {n g:Nat} {L:Array Bool→Act→Prop} {Q':Exit→Act→World→Prop} (gK:∀listed a,L listed a→∀w,C w→wpAny P md ops Q' g listed a w):
  ∀(f:Nat) (listed:Array Bool) (a:Act),Fu P md ops C n L f listed a→∀w,C w→wpAny P md ops Q' (f + g) listed a w
 | 0,listed,a,h=>by rw [Nat.zero_add];exact gK _ _ h
 | f + 1,listed,a,h=>fun w hw=>by
  rw [show f + 1 + g= (f + g) + 1 by omega]
  exact⟨fun h0=>absurd h0 h.1,fun i hi=>wpOp_of_qOp hw (fun a' ah tC dj=>Yc gK f _ a' dj ah tC) (h.2 i hi).2⟩
theorem Zy {p:Prop} (h:p:=by
 rcases Nat.lt_or_ge j n with h | h
 ·exact h
 ·exact absurd bE (tail_waits aV aH aY inv _ i rfl iP tB j h)):p:=h
theorem aof {n i:Nat} {dK:Oper} {v:Value} {L:Array Bool→Act→Prop} (hi:ops[i]? =some dK) (fr:∀(j:Nat) (o:Oper) cs b,ops[j]? =some o→o.op≠.select cs b)
  (aV:Region.sinkB md ops n= true) (aH:Region.chainB md ops n= true) (aY:n < ops.size) (iP:i < n)
  (tl:∀listed a,L listed a→∀j ∈ Region.ready md ops listed,n≤j):
  ∀(f:Nat) (listed:Array Bool) (a:Act),HeadInv md ops n listed→
   (∀j eU,ops[j]? =some eU→j≠i→listed.getD j true= false→(∀e ∈ eU.after,Region.binds md e= true→e.on≠i)→dK.apart ops eU= true)→
   i ∈ Region.ready md ops listed→YieldsIn P ops C dK v a→
   Fu P md ops C n L f (listed.setIfInBounds i true) (a.put dK.dst v)→Fu P md ops C n L (f + 1) listed a:=by
 intro f
 induction f with
 | zero=>
  intro listed a inv _ bp hy H
  have tB:=(mem_ready.1 bp).1
  refine⟨fun h=>(by rw [h] at bp;cases bp),fun j bE=>?_⟩
  have Hg:j < n:=by
   exact Zy
  refine⟨Hg,?_⟩
  by_cases ox:j= i
  ·subst ox;exact hy.qOp hi H
  ·have:=tl _ _ H j (ready_mono bE ox)
   omega
 | succ f er=>
  intro listed a inv Ec bp hy H
  have tB:=(mem_ready.1 bp).1
  refine⟨fun h=>(by rw [h] at bp;cases bp),fun j bE=>?_⟩
  have Hg:j < n:=by
   exact Zy
  refine⟨Hg,?_⟩
  by_cases ox:j= i
  ·subst ox;exact hy.qOp hi H
  ·have h1:=(H.2 j (ready_mono bE ox)).2
   obtain⟨Eg,eU,hg,lf⟩:=mem_ready.1 bE
   have Mg:∀e ∈ eU.after,Region.binds md e= true→e.on≠i:=fun e he aF heq=>by
    have h1:=lf e he aF
    rw [heq,getD_both tB] at h1
    cases h1
   have h2:=qOp_put hg (Ec j eU hg ox Eg Mg) (fun cs b=>fr i dK cs b hi) (fun cs b=>fr j eU cs b hg) hy h1;have LJ:∀k ok,ops[k]? =some ok→k≠i→(listed.setIfInBounds j true).getD k true= false→
     (∀e ∈ ok.after,Region.binds md e= true→e.on≠i)→dK.apart ops ok= true:=fun k ok aD LV tB gM=>by
    refine Ec k ok aD LV ?_ gM
    by_cases vP:j= k
    ·subst vP;exact Eg
    ·rw [getD_set_ne true vP] at tB;exact tB
   refine qOp_mono (fun a' h3=>er (listed.setIfInBounds j true) a' (inv.set bE Hg) LJ (ready_mono bp (Ne.symm ox)) h3.1 ?_) h2
   rw [Array.setIfInBounds_comm _ _ ox]
   exact h3.2
theorem Ya {n g:Nat} {JT:Act→Prop} (fr:Region.noSelect ops= true) (aV:Region.sinkB md ops n= true) (aH:Region.chainB md ops n= true) (aY:n < ops.size):
  ∀(l:List Oper) (k:Nat) (listed:Array Bool) (a:Act),(∀j,j < l.length→l[j]? =ops[k + j]?)→k + l.length= n→HeadInv md ops n listed→
  Region.lexHead md ops g l.length k listed= true→wpQuiet P ops C JT l a→
  Fu P md ops C n (fun UE a'=>Region.seqB md ops g n UE= true∧JT a') l.length listed a
 | [],k,listed,a,_,aD,_,bG,h=>by
  have:k= n:=by simpa using aD
  subst this
  exact⟨by simpa [Region.lexHead] using bG,h⟩
 | o ::l,k,listed,a,aT,aD,inv,bG,h=>by
  have h0:ops[k]? =some o:=by simpa using (aT 0 (by simp)).symm
  simp only [List.length_cons,Region.lexHead,Bool.and_eq_true] at bG
  obtain⟨⟨bp,hf⟩,nN⟩:=bG
  have Hh:k < n:=by simp only [List.length_cons] at aD;omega
  have oA:k ∈ Region.ready md ops listed:=by simpa using bp
  have iF:qOp P ops C k (wpQuiet P ops C JT l) a:=by unfold qOp;simp only [h0];exact h
  obtain⟨v,hy,gf⟩:=yieldsIn_of_qOp h0 iF
  exact aof h0 (Region.noSelect_spec fr) aV aH aY Hh (fun UE a' gK=>seqB_ready gK.1) l.length listed a inv (Region.free_spec h0 hf) oA hy
   (Ya fr aV aH aY l (k + 1) _ _ (fun j bE=>by have:=aT (j + 1) (by simp;omega);simpa [Nat.add_assoc,Nat.add_comm 1 j] using this) (by simp only [List.length_cons] at aD;omega) (inv.set oA Hh) nN gf)
theorem aok {id:Nat} {Q:Exit→Act→World→Prop} {a:Act} {w:World} {l:List Oper} (n:Nat) (hm:P.follows .mixedOrders= true) (bG:Region.lexTailB .any l.toArray n= true) (eC:C {w with drawn:=w.drawn + 1})
  (h:wpQuiet P l.toArray C (fun a'=>∀ah,C ah→wpList P l.toArray Q (l.drop n) a' ah) (l.take n) a):(Code.region id l.toArray true).wp P Q a w:=by
 simp only [Region.lexTailB,Bool.and_eq_true,decide_eq_true_eq] at bG
 obtain⟨⟨⟨⟨fr,aY⟩,aV⟩,aH⟩,agn⟩:=bG
 have Tj:n < l.length:=by simpa using aY
 have tA:(l.take n).length= n:=by simp;omega
 have nv:(l.drop n).length= l.toArray.size - n:=by simp
 have aiN:HeadInv .any l.toArray n (Array.replicate l.toArray.size false):=
  ⟨by simp,fun j eU _ aT=>(by rw [getD_replicate_false] at aT;cases aT),fun t _ ct=>getD_in (by simpa using ct) (getD_replicate_false _ _)⟩
 have H:=Ya (md:= .any) (g:=l.toArray.size - n) fr aV aH aY (l.take n) 0 _ a (fun j bE=>by
  have agb:j < n:=by rw [tA] at bE;exact bE
  simp [agb]) (by simpa using tA) aiN (by rw [tA];exact agn) h
 refine wp_region_any hm ?_
 have:=Yc (Q':=Q) (g:=l.toArray.size - n) (fun listed a' gK ah tC=>by
  have:=wpAny_of_seq (md:= .any) (Q':=Q) (l.drop n) n listed a' ah (fun j=>by simp [List.getElem?_drop]) (by rw [nv];exact gK.1) (gK.2 ah tC)
  rwa [nv] at this) _ _ _ H _ eC
 rw [tA,show n + (l.toArray.size - n)= l.toArray.size by omega] at this
 exact this
theorem Fv {id:Nat} {Q:Exit→Act→World→Prop} {a:Act} {w:World} {l:List Oper} (n:Nat) (hm:P.follows .mixedOrders= true) (bG:Region.lexTailB .any l.toArray n= true)
  (h:wpQuiet P l.toArray (fun ah=>∃k:ay w.heap.size w,ah= k.world) (fun a'=>∀k:ay w.heap.size w,wpList P l.toArray Q (l.drop n) a' k.world) (l.take n) a):(Code.region id l.toArray true).wp P Q a w:=
 aok (C:=fun ah=>∃k:ay w.heap.size w,ah= k.world) n hm bG ⟨⟨w.drew,(Below.refl _ _).drew⟩,rfl⟩
  (by
   have e:(fun a':Act=>∀k:ay w.heap.size w,wpList P l.toArray Q (l.drop n) a' k.world)= (fun a'=>∀ah,(∃k:ay w.heap.size w,ah= k.world)→wpList P l.toArray Q (l.drop n) a' ah):=by
    exact ZP
   rw [e] at h;exact h)
end
open Go.RowKit
section
variable {P:Program} {ops:Array Oper} {md:Region.Mode} {C:World→Prop} {Q:Act→World→Prop}
def uV:Op→Bool
 | .move _ | .assign _ | .pick _ _ _ | .load _ _ | .binOp _ _ _ _ _ | .unOp _ _ _ | .convert _ _ _ | .fieldAddr _ _ _ | .field _ _ _ | .indexAddr _ _ _ | .extract _ _ | .slice _ _ _ _ _ | .build _ _ | .index _ _ _ | .nilCheck _=>true
 | .call {callee:= .builtin .len,args:=_,argTypes:=_}=>true
 | .call {callee:= .builtin .cap,args:=_,argTypes:=_}=>true
 | _=>false
theorem Qv {s:Result Value} {f:FuncId} {args:Array Value} {ah:World}:(s.andThen fun x w=>(.ok (.value x) w:Result Next))≠.ok (.enter f args) ah:=by
 cases s <;> simp [Result.andThen]
theorem QC {α:Type} {x:Sem α} {k:α→Sem Next} {w:World} {f:FuncId} {args:Array Value} {ah:World} (h:∀a bh,(k a).run P bh≠.ok (.enter f args) ah):(x >>= k).run P w≠.ok (.enter f args) ah:=by
 simp only [Sem.run_bind]
 cases x.run P w with
 | ok a bh=>exact h a bh
 | halt e bh=>intro h2;simp [Result.andThen] at h2
theorem ake {o:Oper} {x:Operand} (cG:o.op= .nilCheck x) (Jd:Operand→Value) (w:World) (f:FuncId) (args:Array Value) (ah:World):(execOp Jd o).run P w≠.ok (.enter f args) ah:=by
 unfold execOp
 simp only [cG]
 have aN:∀(v:Value) (bh:World),(pure (Next.value v):Sem Next).run P bh≠.ok (.enter f args) ah:=fun v bh h=>by simp only [Sem.run_pure] at h;injection h with h _;cases h
 have aY:∀bh,(runtimePanic .nilDeref:Sem Next).run P bh≠.ok (.enter f args) ah:=fun bh h=>by unfold runtimePanic at h;simp at h
 split
 ·exact aY _
 ·exact aY _
 ·exact aY _
 ·split
  ·exact aY _
  ·refine QC fun a bh=>QC fun b aJ=>?_
   split
   ·intro h;simp at h
   ·exact aN _ _
  ·exact aN _ _
 ·exact aN _ _
theorem anx {o:Oper} (h:uV o.op= true) (Jd:Operand→Value) (w:World) (f:FuncId) (args:Array Value) (ah:World):(execOp Jd o).run P w≠.ok (.enter f args) ah:=by
 cases cG:o.op
 case nilCheck x=>exact ake cG Jd w f args ah
 case call c=>
  rw [cG] at h
  unfold execOp
  simp only [cG]
  obtain⟨AG,aoF,at_⟩:=c
  cases AG with
  | builtin b=>
   cases b <;> first | (simp [uV] at h;done) | skip
   all_goals simp only [resolve,invoke,builtin,Sem.run_bind,Sem.run_pure,Result.andThen_ok]
   all_goals exact Qv
  | value f=>simp [uV] at h
  | invoke r n=>simp [uV] at h
 all_goals unfold execOp
 all_goals rw [cG] at h
 all_goals first | (simp [uV] at h;done) | skip
 all_goals simp only [cG,Sem.run_bind,Sem.run_pure]
 all_goals first | exact Qv | (intro h2;cases h2;done) | skip
 all_goals (intro h2;revert h2;generalize Sem.run P _ w= s;cases s <;> simp [Result.andThen])
def hU (Q:Act→World→Prop):Exit→Act→World→Prop:=fun e a w=>e= .normal∧Q a w
theorem wW:¬LetsOut (hU Q):=fun ⟨_,_,h⟩=>by have:=h.1;cases this
def kI (P:Program) (ops:Array Oper) (C:World→Prop) (o:Oper) (v:Value) (a:Act):Prop:=
 (Region.wanted o (yielded ops a.tmps)= true∧∀w,C w→((execOp a.eval o).run P w= .ok (.value v) w∨((execOp a.eval o).run P w= .ok .skip w∧v= undef)))∨
 (Region.wanted o (yielded ops a.tmps)= false∧v= undef)
theorem kI.of_same {o:Oper} {v:Value} {a a':Act} (hy:kI P ops C o v a) (he:execOp a'.eval o= execOp a.eval o)
  (hw:Region.wanted o (yielded ops a'.tmps)= Region.wanted o (yielded ops a.tmps)):kI P ops C o v a':=by
 unfold kI at *
 rw [he,hw]
 exact hy
theorem YieldsIn.Oq {o:Oper} {v:Value} {a:Act} (aD:uV o.op= true) (hy:YieldsIn P ops C o v a):kI P ops C o v a:=by
 rcases hy with ⟨h1,h2⟩ | h
 ·refine .inl ⟨h1,fun w hw=>?_⟩
  have h3:=h2 w hw
  unfold Oper.quietAt at h3
  have h4:=anx (P:=P) aD a.eval w
  generalize (execOp a.eval o).run P w= r at h3 h4
  cases r with
  | ok n ah=>
   cases n <;> simp only [Oper.quietUpon] at h3
   case value u=>obtain⟨rfl,rfl⟩:=h3;exact .inl rfl
   case skip=>obtain⟨rfl,rfl⟩:=h3;exact .inr ⟨rfl,rfl⟩
   case enter f args=>exact absurd rfl (h4 f args ah)
  | halt x ah=>simp only [Oper.quietUpon] at h3
 ·exact .inr h
theorem kI.wpOp {i:Nat} {o:Oper} {v:Value} {a:Act} {w:World} {Q':Exit→Act→World→Prop} (hi:ops[i]? =some o) (hy:kI P ops C o v a) (eC:C w) {K:Act→World→Prop} (h:K (a.put o.dst v) w):wpOp P ops Q' i K a w:=by
 unfold Go.wpOp
 simp only [hi]
 rcases hy with ⟨hw,ax⟩ | ⟨hw,rfl⟩
 ·simp only [hw,if_true]
  refine .inl ?_
  unfold Oper.wp
  rcases ax w eC with bp | ⟨bp,rfl⟩ <;> rw [bp] <;> simp only [Oper.upon] <;> exact h
 ·simp only [hw,Bool.false_eq_true,if_false];exact h
theorem put_defers (a:Act) (x:Option Tmp) (v:Value) (d:Deferred):({a.put x v with defers:=d ::(a.put x v).defers}:Act)= ({a with defers:=d ::a.defers}:Act).put x v:=by
 cases x <;> rfl
theorem wpOp_put {j:Nat} {dK eU:Oper} {v:Value} (bE:ops[j]? =some eU) (jm:dK.apart ops eU= true)
  (agN:∀cs b,dK.op≠.select cs b) (agO:∀cs b,eU.op≠.select cs b) {K:Act→World→Prop} {a:Act} {w:World}
  (hy:kI P ops C dK v a) (h:wpOp P ops (hU Q) j K (a.put dK.dst v) w):
  wpOp P ops (hU Q) j (fun a' ah=>kI P ops C dK v a'∧K (a'.put dK.dst v) ah) a w:=by
 obtain⟨h1,h2,h3⟩:=Oper.apart_spec jm
 have keep:∀(a:Act),kI P ops C dK v a→∀u,kI P ops C dK v (a.put eU.dst u):=fun a hy u=>
  hy.of_same (execOp_put dK agN a eU.dst u h3) (wanted_put dK a eU.dst u h3)
 unfold wpOp at *
 simp only [bE] at *
 rw [wanted_put eU a dK.dst v h1] at h
 split
 ·rename_i hw
  simp only [hw,if_true] at h
  rcases h with h | h
  ·refine .inl ?_
   unfold Oper.wp at *
   rw [execOp_put eU agO a dK.dst v h1] at h
   generalize (execOp a.eval eU).run P w= r at *
   cases r with
   | ok n ah=>
    cases n <;> simp only [Oper.upon] at h ⊢
    case value u=>exact⟨keep a hy u,by rw [← Act.put_comm a v u h2];exact h⟩
    case skip=>exact⟨keep a hy _,by rw [← Act.put_comm a v undef h2];exact h⟩
    case defer d=>
     refine⟨keep {a with defers:=d ::a.defers} hy undef,?_⟩
     rw [put_defers,Act.put_comm _ v undef h2] at h
     exact h
    case enter f args=>
     refine h.mono fun e eE he=>?_
     cases e with
     | returned u=>exact⟨keep a hy u,by rw [← Act.put_comm a v u h2];exact he⟩
     | panicked c=>exact absurd he.1 (by intro h;cases h)
     | outgrown=>exact absurd he wW
    case row row args=>exact h.mono fun u eE he=>⟨keep a hy u,by rw [← Act.put_comm a v u h2];exact he⟩
   | halt x ah=>cases x <;> simp only [Oper.upon] at h ⊢ <;> exact absurd h.1 (by intro h;cases h)
  ·exact absurd h.2 wW
 ·rename_i hw
  simp only [hw] at h
  exact⟨keep a hy _,by rw [← Act.put_comm a v undef h2];exact h⟩
def qb (P:Program) (md:Region.Mode) (ops:Array Oper) (C:World→Prop) (Q:Act→World→Prop):Nat→Array Bool→Act→World→Prop
 | 0,listed,a,w=>C w∧Region.ready md ops listed= []∧Q a w
 | f + 1,listed,a,w=>C w∧Region.ready md ops listed≠[]∧∀i ∈ Region.ready md ops listed,wpOp P ops (hU Q) i (qb P md ops C Q f (listed.setIfInBounds i true)) a w
theorem qb.aiC:∀{f:Nat} {listed:Array Bool} {a:Act} {w:World},qb P md ops C Q f listed a w→C w
 | 0,_,_,_,h=>h.1
 | _ + 1,_,_,_,h=>h.1
theorem Oz:∀(f:Nat) (listed:Array Bool) (a:Act) (w:World),qb P md ops C Q f listed a w→wpAny P md ops (hU Q) f listed a w
 | 0,_,_,_,h=>⟨h.2.1,rfl,h.2.2⟩
 | f + 1,_,_,_,h=>⟨fun h0=>absurd h0 h.2.1,fun i hi=>wpOp_mono (fun a' ah dj=>Oz f _ a' ah dj) (h.2.2 i hi)⟩
theorem XZ {i:Nat} {dK:Oper} {v:Value} (hi:ops[i]? =some dK) (fr:∀(j:Nat) (o:Oper) cs b,ops[j]? =some o→o.op≠.select cs b):
  ∀(f:Nat) (listed:Array Bool) (a:Act) (w:World),
   (∀j eU,ops[j]? =some eU→j≠i→listed.getD j true= false→(∀e ∈ eU.after,Region.binds md e= true→e.on≠i)→dK.apart ops eU= true)→
   i ∈ Region.ready md ops listed→kI P ops C dK v a→C w→
   qb P md ops C Q f (listed.setIfInBounds i true) (a.put dK.dst v) w→qb P md ops C Q (f + 1) listed a w:=by
 intro f
 induction f with
 | zero=>
  intro listed a w _ bp hy eC H
  refine⟨eC,fun h=>(by rw [h] at bp;cases bp),fun j bE=>?_⟩
  by_cases ox:j= i
  ·subst ox;exact hy.wpOp hi eC H
  ·have:=ready_mono bE ox
   rw [H.2.1] at this;cases this
 | succ f er=>
  intro listed a w Ec bp hy eC H
  have tB:=(mem_ready.1 bp).1
  refine⟨eC,fun h=>(by rw [h] at bp;cases bp),fun j bE=>?_⟩
  by_cases ox:j= i
  ·subst ox;exact hy.wpOp hi eC H
  ·have h1:=H.2.2 j (ready_mono bE ox)
   obtain⟨Eg,eU,hg,lf⟩:=mem_ready.1 bE
   have Mg:∀e ∈ eU.after,Region.binds md e= true→e.on≠i:=fun e he aF heq=>by
    have h1:=lf e he aF
    rw [heq,getD_both tB] at h1
    cases h1
   have h2:=wpOp_put hg (Ec j eU hg ox Eg Mg) (fun cs b=>fr i dK cs b hi) (fun cs b=>fr j eU cs b hg) hy h1;have LJ:∀k ok,ops[k]? =some ok→k≠i→(listed.setIfInBounds j true).getD k true= false→
     (∀e ∈ ok.after,Region.binds md e= true→e.on≠i)→dK.apart ops ok= true:=fun k ok aD LV tB gM=>by
    refine Ec k ok aD LV ?_ gM
    by_cases vP:j= k
    ·subst vP;exact Eg
    ·rw [getD_set_ne true vP] at tB;exact tB
   refine wpOp_mono (fun a' ah h3=>er (listed.setIfInBounds j true) a' ah LJ (ready_mono bp (Ne.symm ox)) h3.1 h3.2.aiC ?_) h2
   rw [Array.setIfInBounds_comm _ _ ox]
   exact h3.2
theorem aoe {i f:Nat} {listed:Array Bool} {a:Act} {w:World} (bp:Region.ready md ops listed= [i]) (eC:C w)
    (h:wpOp P ops (hU Q) i (qb P md ops C Q f (listed.setIfInBounds i true)) a w):qb P md ops C Q (f + 1) listed a w:=
  ⟨eC,by rw [bp];simp,fun j bE=>by rw [bp] at bE;have:j= i:=by simpa using bE
                                   subst this;exact h⟩
def oL (ops:Array Oper) (i:Nat):Bool:=match ops[i]? with | some o=>uV o.op | none=>false
def xD (md:Region.Mode) (ops:Array Oper):List (Nat×Bool)→Array Bool→Bool
 | [],listed=>(Region.ready md ops listed).isEmpty
 | (i,false) ::r,listed=>(Region.ready md ops listed).contains i && Region.free md ops listed i && oL ops i && xD md ops r (listed.setIfInBounds i true)
 | (i,true) ::r,listed=>decide (Region.ready md ops listed= [i]) && xD md ops r (listed.setIfInBounds i true)
def zY (P:Program) (ops:Array Oper) (C:World→Prop) (Q:Act→World→Prop):List (Nat×Bool)→Act→World→Prop
 | [],a,w=>Q a w
 | (i,false) ::r,a,w=>qOp P ops C i (fun a'=>zY P ops C Q r a' w) a
 | (i,true) ::r,a,w=>wpOp P ops (hU Q) i (fun a' ah=>C ah∧zY P ops C Q r a' ah) a w
theorem Oy (fr:Region.noSelect ops= true):∀(r:List (Nat×Bool)) (listed:Array Bool) (a:Act) (w:World),xD md ops r listed= true→C w→zY P ops C Q r a w→qb P md ops C Q r.length listed a w
 | [],listed,a,w,bG,eC,h=>⟨eC,by simpa [xD] using bG,h⟩
 | (i,false) ::r,listed,a,w,bG,eC,h=>by
  simp only [xD,Bool.and_eq_true] at bG
  obtain⟨⟨⟨h1,h2⟩,h3⟩,h4⟩:=bG
  have bp:i ∈ Region.ready md ops listed:=by simpa using h1
  obtain⟨_,dK,iw,_⟩:=mem_ready.1 bp
  have aD:uV dK.op= true:=by simpa [oL,iw] using h3
  obtain⟨v,hy,gf⟩:=yieldsIn_of_qOp iw h
  exact XZ iw (Region.noSelect_spec fr) r.length listed a w (Region.free_spec iw h2) bp (YieldsIn.Oq aD hy) eC (Oy fr r _ _ _ h4 eC gf)
 | (i,true) ::r,listed,a,w,bG,eC,h=>by
  simp only [xD,Bool.and_eq_true,decide_eq_true_eq] at bG
  exact aoe bG.1 eC (wpOp_mono (fun a' ah dj=>Oy fr r _ _ _ bG.2 dj.1 dj.2) h)
def gm (l:List Oper) (s:List Nat):List Oper:=s.filterMap fun i=>l[i]?
def tU (P:Program) (l:List Oper) (C:World→Prop) (Q:Act→World→Prop):List (List Nat×Nat)→List Nat→Act→World→Prop
 | [],s,a,w=>wpQuiet P l.toArray C (fun a'=>Q a' w) (gm l s) a
 | (s,e) ::r,bZ,a,w=>wpQuiet P l.toArray C (fun a'=>wpList P l.toArray (hU fun eS eE=>C eE∧tU P l C Q r bZ eS eE) (gm l [e]) a' w) (gm l s) a
def pV:List (List Nat×Nat)→List Nat→List (Nat×Bool)
 | [],s=>s.map (·,false)
 | (s,e) ::r,bZ=>s.map (·,false) ++ (e,true) ::pV r bZ
theorem Oper.OA {o:Oper} {a:Act} {w:World} {K Qe:Act→World→Prop} {vt vu:Act→World→Prop} (h:∀a w,K a w→Qe a w) (fc:o.wp P a w K (hU vt)):o.wp P a w Qe (hU vu):=by
 unfold Oper.wp at *
 generalize (execOp a.eval o).run P w= r at *
 cases r with
 | ok n ah=>
  cases n <;> simp only [Oper.upon] at fc ⊢
  case enter f args=>
   refine fc.mono fun e eE he=>?_
   cases e with
   | returned u=>exact h _ _ he
   | panicked c=>exact absurd he.1 (by intro h;cases h)
   | outgrown=>exact absurd he wW
  case row row args=>exact fc.mono fun _ _ he=>h _ _ he
  all_goals exact h _ _ fc
 | halt x ah=>cases x <;> simp only [Oper.upon] at fc ⊢ <;> exact absurd fc.1 (by intro h;cases h)
theorem Nh {l:List Oper} {r:List (Nat×Bool)} {w:World}:∀(s:List Nat) (a:Act),(∀i ∈ s,i < l.length)→∀K:Act→Prop,(∀a,K a→zY P l.toArray C Q r a w)→
  wpQuiet P l.toArray C K (gm l s) a→zY P l.toArray C Q (s.map (·,false) ++ r) a w
 | [],a,_,K,gf,h=>gf _ h
 | i ::s,a,aV,K,gf,h=>by
  have hi:i < l.length:=aV i (by simp)
  have aN:gm l (i ::s)= l[i] ::gm l s:=by simp [gm,hi]
  rw [aN] at h
  have dj:qOp P l.toArray C i (wpQuiet P l.toArray C K (gm l s)) a:=by
   unfold qOp
   have:l.toArray[i]? =some l[i]:=by simp [hi]
   simp only [this]
   exact h
  exact qOp_mono (fun a' h2=>Nh s a' (fun j bE=>aV j (by simp [bE])) K gf h2) dj
theorem IT {p:Prop} (h:p:=by
 split
 ·rename_i hw
  simp only [hw,if_true] at dj
  exact dj.elim (fun h2=> .inl (Oper.OA iQ h2)) (fun h2=>absurd h2.2 wW)
 ·rename_i hw
  simp only [hw] at dj
  exact iQ _ _ dj):p:=h
theorem UY:∀{l:List Oper} (r:List (List Nat×Nat)) (bZ:List Nat) (a:Act) (w:World),(∀i ∈ (pV r bZ),i.1 < l.length)→tU P l C Q r bZ a w→zY P l.toArray C Q (pV r bZ) a w
 | l,[],bZ,a,w,aT,h=>by
  have:=Nh (Q:=Q) (r:=[]) bZ a (fun i hi=>aT (i,false) (by simp [pV,hi])) _ (fun a' (dj:Q a' w)=>dj) h
  simpa [pV] using this
 | l,(s,e) ::r,bZ,a,w,aT,h=>by
  refine Nh s a (fun i hi=>aT (i,false) (by simp [pV,hi])) _ (fun a' dj=>?_) h
  have he:e < l.length:=aT (e,true) (by simp [pV])
  have aN:gm l [e]= [l[e]]:=by simp [gm,he]
  rw [aN] at dj
  show wpOp P l.toArray (hU Q) e _ a' w
  unfold wpOp
  have:l.toArray[e]? =some l[e]:=by simp [he]
  simp only [this]
  unfold wpList at dj
  have iQ:∀eS eE,wpList P l.toArray (hU fun eS eE=>C eE∧tU P l C Q r bZ eS eE) [] eS eE→C eE∧zY P l.toArray C Q (pV r bZ) eS eE:=fun eS eE h2=>
   ⟨h2.2.1,UY r bZ eS eE (fun i hi=>aT i (by simp [pV,hi])) h2.2.2⟩
  exact IT
theorem Yx {p:Prop} (h:p:=by
 have lI:(Code.region id l.toArray true).wp P (hU fun a' ah=>Q .normal a' ah) a w:=wp_region_any hm (by simpa using H)
 exact Code.wp_mono (fun e a w h=>by obtain⟨rfl,h⟩:=h;exact h) lI):p:=h
theorem aoj {id:Nat} {Q:Exit→Act→World→Prop} {a:Act} {w:World} {l:List Oper} (C:World→Prop) (r:List (List Nat×Nat)) (bZ:List Nat) (hm:P.follows .mixedOrders= true)
  (bG:(Region.noSelect l.toArray && xD .any l.toArray (pV r bZ) (Array.replicate l.length false) && decide ((pV r bZ).length= l.length) && (pV r bZ).all (fun i=>decide (i.1 < l.length)))= true)
  (eC:C w.drew) (h:tU P l C (fun a' ah=>Q .normal a' ah) r bZ a w.drew):(Code.region id l.toArray true).wp P Q a w:=by
 simp only [Bool.and_eq_true,decide_eq_true_eq,List.all_eq_true] at bG
 obtain⟨⟨⟨h1,h2⟩,h3⟩,h4⟩:=bG
 have H:=Oz _ _ _ _ (Oy (md:= .any) h1 _ _ _ _ h2 eC (UY r bZ a _ (fun i hi=>h4 i hi) h))
 rw [h3] at H
 exact Yx
structure cH (C:World→Prop) where
 world:World
 holds:C world
theorem nh {id:Nat} {Q:Exit→Act→World→Prop} {a:Act} {w:World} {l:List Oper} (C:World→Prop) (r:List (List Nat×Nat)) (bZ:List Nat) (hm:P.follows .mixedOrders= true)
  (bG:(Region.noSelect l.toArray && xD .any l.toArray (pV r bZ) (Array.replicate l.length false) && decide ((pV r bZ).length= l.length) && (pV r bZ).all (fun i=>decide (i.1 < l.length)))= true)
  (eC:C w.drew) (h:tU P l (fun ah=>∃k:cH C,ah= k.world) (fun a' ah=>Q .normal a' ah) r bZ a w.drew):(Code.region id l.toArray true).wp P Q a w:=
 aoj (fun ah=>∃k:cH C,ah= k.world) r bZ hm bG ⟨⟨_,eC⟩,rfl⟩ h
theorem gr {l:List Oper} {s bZ:List Nat} {e:Nat} {r:List (List Nat×Nat)} {a:Act} {w:World}
  (h:∀K:Act→World→Prop,(∀a w,tU P l C Q r bZ a w→K a w)→wpQuiet P l.toArray C (fun a'=>wpList P l.toArray (hU fun eS eE=>C eE∧K eS eE) (gm l [e]) a' w) (gm l s) a):tU P l C Q ((s,e) ::r) bZ a w:=
 h _ (fun _ _ h=>h)
theorem kD {l:List Oper} {bZ:List Nat} {a:Act} {w:World} (h:wpQuiet P l.toArray C (fun a'=>Q a' w) (gm l bZ) a):tU P l C Q [] bZ a w:=h
theorem gw {C:World→Prop} {K:Act→World→Prop} {a:Act} {w:World} (eC:C w) (h:K a w):hU (fun eS eE=>(∃k:cH C,eE= k.world)∧K eS eE) .normal a w:=⟨rfl,⟨⟨w,eC⟩,rfl⟩,h⟩
end
open Go.RowKit
section
variable {P:Program} {md:Region.Mode} {C:World→Prop} {Q:Act→World→Prop}
def Fm (md:Region.Mode) (ops:Array Oper):List Nat→Array Bool→Bool
 | [],_=>true
 | i ::s,listed=>(Region.ready md ops listed).contains i && Region.free md ops listed i && oL ops i && Fm md ops s (listed.setIfInBounds i true)
def Iu:List Nat→Array Bool→Array Bool
 | [],L=>L
 | i ::s,L=>Iu s (L.setIfInBounds i true)
theorem Kj {l:List Oper} (fr:Region.noSelect l.toArray= true) {w:World} {f:Nat} (eC:C w) (K:Act→Prop):∀(s:List Nat) (listed:Array Bool) (a:Act),Fm md l.toArray s listed= true→(∀i ∈ s,i < l.length)→
  (∀a',K a'→qb P md l.toArray C Q f (Iu s listed) a' w)→wpQuiet P l.toArray C K (gm l s) a→qb P md l.toArray C Q (s.length + f) listed a w
 | [],listed,a,_,_,aD,h=>by
  have dj:qb P md l.toArray C Q f listed a w:=aD a h
  rwa [List.length_nil,Nat.zero_add]
 | i ::s,listed,a,bG,aT,Bh,h=>by
  simp only [Fm,Bool.and_eq_true] at bG
  obtain⟨⟨⟨h1,h2⟩,h3⟩,h4⟩:=bG
  have hi:i < l.length:=aT i (by simp)
  have bp:i ∈ Region.ready md l.toArray listed:=by simpa using h1
  obtain⟨_,dK,iw,_⟩:=mem_ready.1 bp
  have aD:uV dK.op= true:=by simpa [oL,iw] using h3
  have aN:gm l (i ::s)= l[i] ::gm l s:=by simp [gm,hi]
  rw [aN] at h
  have dj:qOp P l.toArray C i (wpQuiet P l.toArray C K (gm l s)) a:=by
   unfold qOp
   have:l.toArray[i]? =some l[i]:=by simp [hi]
   simp only [this]
   exact h
  obtain⟨v,hy,gf⟩:=yieldsIn_of_qOp iw dj
  have afc:=Kj fr eC K s (listed.setIfInBounds i true) _ h4 (fun j bE=>aT j (by simp [bE])) Bh gf
  rw [List.length_cons,show s.length + 1 + f= (s.length + f) + 1 from by omega]
  exact XZ iw (Region.noSelect_spec fr) (s.length + f) listed a w (Region.free_spec iw h2) bp (YieldsIn.Oq aD hy) eC afc
theorem acZ {l:List Oper} {e:Nat} {a:Act} {w:World} {K:Act→World→Prop} (he:e < l.length) (h:wpList P l.toArray (hU K) (gm l [e]) a w):wpOp P l.toArray (hU Q) e K a w:=by
 have aN:gm l [e]= [l[e]]:=by simp [gm,he]
 rw [aN] at h
 unfold wpOp
 have:l.toArray[e]? =some l[e]:=by simp [he]
 simp only [this]
 unfold wpList at h
 have iQ:∀eS eE,wpList P l.toArray (hU K) [] eS eE→K eS eE:=fun eS eE h2=>h2.2
 split
 ·rename_i hw
  simp only [hw,if_true] at h
  exact h.elim (fun h2=> .inl (Oper.OA iQ h2)) (fun h2=>absurd h2.2 wW)
 ·rename_i hw
  simp only [hw] at h
  exact iQ _ _ h
def uP (L:Array Bool):Nat:=(L.toList.filter (fun b=>!b)).length
theorem aoi {id:Nat} {Q:Exit→Act→World→Prop} {a:Act} {w:World} {l:List Oper} (C:World→Prop) (hm:P.follows .mixedOrders= true) (h:qb P .any l.toArray C (fun a' ah=>Q .normal a' ah) l.length (Array.replicate l.length false) a w.drew):(Code.region id l.toArray true).wp P Q a w:=by
 have H:=Oz _ _ _ _ h
 exact Yx
end
open Go.RowKit
section
variable {P:Program} {kT:World→Prop} {Q:Act→World→Prop} {l:List Oper}
def Rest (P:Program) (l:List Oper) (kT:World→Prop) (Q:Act→World→Prop) (L:Array Bool) (a:Act) (w:World):Prop:=qb P .any l.toArray (fun ah=>∃k:cH kT,ah= k.world) Q (uP L) L a w
def Gh (P:Program) (l:List Oper) (kT:World→Prop) (i:Nat) (s:List Nat) (a:Act) (w:World) (K:Act→World→Prop):Prop:=wpList P l.toArray (hU fun eS eE=>kT eE∧wpQuiet P l.toArray (fun ah=>∃k:cH kT,ah= k.world) (fun a3=>K a3 eE) (gm l s) eS) (gm l [i]) a w
def yC (l:List Oper) (L:Array Bool) (i:Nat) (s:List Nat) (At:Array Bool):Bool:=decide (i < l.length) && s.all (fun i=>decide (i < l.length)) && Fm .any l.toArray s (L.setIfInBounds i true) && decide (Iu s (L.setIfInBounds i true)= At) && decide (uP L= s.length + uP At + 1)
theorem NS (fr:Region.noSelect l.toArray= true) {L At:Array Bool} {i:Nat} {s:List Nat} {a:Act} {w:World} {f:Nat} (hf:uP L= f + 1) (bG:yC l L i s At= true) (h:Gh P l kT i s a w (Rest P l kT Q At)):
  wpOp P l.toArray (hU Q) i (qb P .any l.toArray (fun ah=>∃k:cH kT,ah= k.world) Q f (L.setIfInBounds i true)) a w:=by
 simp only [yC,Bool.and_eq_true,decide_eq_true_eq,List.all_eq_true] at bG
 obtain⟨⟨⟨⟨dF,dJ⟩,fa⟩,fZ⟩,iN⟩:=bG
 refine wpOp_mono (fun eS eE aeQ=>?_) (acZ dF h)
 obtain⟨aeV,bj⟩:=aeQ
 have cT:f= s.length + uP At:=by omega
 rw [cT]
 exact Kj fr ⟨⟨eE,aeV⟩,rfl⟩ _ s _ eS fa dJ (fun a' yJ=>by rw [fZ];exact yJ) bj
theorem alu (i1:Nat) (s1:List Nat) (CG:Array Bool) (i2:Nat) (s2:List Nat) (Qf:Array Bool) {L:Array Bool} {a:Act} {w:World} (bG:(Region.noSelect l.toArray && decide (Region.ready .any l.toArray L= [i1,i2]) && yC l L i1 s1 CG && yC l L i2 s2 Qf)= true) (eC:kT w)
  (h1:∀K:Act→World→Prop,(∀a w,Rest P l kT Q CG a w→K a w)→Gh P l kT i1 s1 a w K) (h2:∀K:Act→World→Prop,(∀a w,Rest P l kT Q Qf a w→K a w)→Gh P l kT i2 s2 a w K):Rest P l kT Q L a w:=by
 simp only [Bool.and_eq_true,decide_eq_true_eq] at bG
 obtain⟨⟨⟨fr,bp⟩,e1⟩,e2⟩:=bG
 have De:=e1
 simp only [yC,Bool.and_eq_true,decide_eq_true_eq] at De
 obtain⟨f,hf⟩ :∃f,uP L= f + 1:=⟨_,De.2⟩
 unfold Rest
 rw [hf]
 refine⟨⟨⟨w,eC⟩,rfl⟩,by rw [bp];simp,fun i hi=>?_⟩
 rw [bp] at hi
 simp only [List.mem_cons,List.not_mem_nil,or_false] at hi
 rcases hi with rfl | rfl
 ·exact NS fr hf e1 (h1 _ fun _ _ h=>h)
 ·exact NS fr hf e2 (h2 _ fun _ _ h=>h)
theorem NT (i1:Nat) (s1:List Nat) (CG:Array Bool) {L:Array Bool} {a:Act} {w:World} (bG:(Region.noSelect l.toArray && decide (Region.ready .any l.toArray L= [i1]) && yC l L i1 s1 CG)= true) (eC:kT w)
  (h1:∀K:Act→World→Prop,(∀a w,Rest P l kT Q CG a w→K a w)→Gh P l kT i1 s1 a w K):Rest P l kT Q L a w:=by
 simp only [Bool.and_eq_true,decide_eq_true_eq] at bG
 obtain⟨⟨fr,bp⟩,e1⟩:=bG
 have De:=e1
 simp only [yC,Bool.and_eq_true,decide_eq_true_eq] at De
 obtain⟨f,hf⟩ :∃f,uP L= f + 1:=⟨_,De.2⟩
 unfold Rest
 rw [hf]
 refine⟨⟨⟨w,eC⟩,rfl⟩,by rw [bp];simp,fun i hi=>?_⟩
 rw [bp] at hi
 simp only [List.mem_cons,List.not_mem_nil,or_false] at hi
 subst hi
 exact NS fr hf e1 (h1 _ fun _ _ h=>h)
theorem als {L:Array Bool} {a:Act} {w:World} (bG:(decide (Region.ready .any l.toArray L= []) && decide (uP L= 0))= true) (eC:kT w) (h:Q a w):Rest P l kT Q L a w:=by
 simp only [Bool.and_eq_true,decide_eq_true_eq] at bG
 unfold Rest
 rw [bG.2]
 exact⟨⟨⟨w,eC⟩,rfl⟩,bG.1,h⟩
theorem aol {id:Nat} {Q:Exit→Act→World→Prop} {a:Act} {w:World} (kT:World→Prop) (jg:List Nat) (Gc:Array Bool) (hm:P.follows .mixedOrders= true)
  (bG:(Region.noSelect l.toArray && Fm .any l.toArray jg (Array.replicate l.length false) && decide (Iu jg (Array.replicate l.length false)= Gc) && decide (l.length= jg.length + uP Gc) && jg.all (fun i=>decide (i < l.length)))= true)
  (eC:kT w.drew) (h:∀K:Act→World→Prop,(∀a w,Rest P l kT (fun a' ah=>Q .normal a' ah) Gc a w→K a w)→wpQuiet P l.toArray (fun ah=>∃k:cH kT,ah= k.world) (fun a'=>K a' w.drew) (gm l jg) a):(Code.region id l.toArray true).wp P Q a w:=by
 simp only [Bool.and_eq_true,decide_eq_true_eq,List.all_eq_true] at bG
 obtain⟨⟨⟨⟨dF,dJ⟩,fa⟩,fZ⟩,iN⟩:=bG
 refine aoi (fun ah=>∃k:cH kT,ah= k.world) hm ?_
 have aV:=Kj (P:=P) (md:= .any) (Q:=fun a' ah=>Q .normal a' ah) (f:=uP Gc) dF (w:=w.drew) ⟨⟨_,eC⟩,rfl⟩ _ jg (Array.replicate l.length false) a dJ iN (fun a' yJ=>by rw [fa];exact yJ) (h _ fun _ _ h=>h)
 rwa [← fZ] at aV
end
open Go.RowKit
section
variable {P:Program} {ops:Array Oper} {md:Region.Mode} {C:World→Prop} {Q:Act→World→Prop}
def rT (md:Region.Mode) (ops:Array Oper) (y x:Nat):Bool:=match ops[y]? with | some o=>o.after.any (fun e=>Region.binds md e && e.on == x) | none=>false
def sR (ops:Array Oper) (x y:Nat):Bool:=match ops[x]?,ops[y]? with | some a,some b=>a.apart ops b | _,_=>false
def zN (md:Region.Mode) (ops:Array Oper):Nat→Nat→Nat→Bool
 | 0,y,x=>rT md ops y x
 | n + 1,y,x=>rT md ops y x || (List.range ops.size).any fun m=>rT md ops y m && zN md ops n m x
def zI (k:Nat):Bool:=k == 4 || k == 6
def qS (k:Nat):Bool:=k == 0 || k == 2
def xE (x y:Nat):Bool:=(qS x && y != 5) || zI x || (x == 1 && (y == 0 || y == 1 || y == 6))
def uM (md:Region.Mode) (ops:Array Oper) (x y:Nat×Nat):Bool:=
 !(rT md ops x.1 y.1) && !(x.1 == y.1) && !(x.2 == 5 && qS y.2) && ((xE x.2 y.2 && sR ops x.1 y.1) || zN md ops 3 y.1 x.1)
def BF (md:Region.Mode) (ops:Array Oper):List (Nat×Nat)→Bool
 | []=>true
 | x ::r=>r.all (uM md ops x) && BF md ops r
theorem VE:∀{r:List (Nat×Nat)},BF md ops r= true→r.Pairwise fun x y=>uM md ops x y= true
 | [],_=> .nil
 | x ::r,h=>by
  simp only [BF,Bool.and_eq_true,List.all_eq_true] at h
  exact .cons (fun y hy=>h.1 y hy) (VE h.2)
def Fs (md:Region.Mode) (ops:Array Oper):Bool:=(List.range ops.size).all fun i=>match ops[i]? with | some o=>o.after.all (fun e=>!(Region.binds md e) || (decide (e.on < ops.size) && !(e.on == i))) | none=>true
theorem GG {x y:Nat}:rT md ops y x= true↔∃o,ops[y]? =some o∧∃e ∈ o.after,Region.binds md e= true∧e.on= x:=by
 unfold rT
 cases h:ops[y]? with
 | none=>simp
 | some o=>
  simp only [← Array.any_toList,List.any_eq_true]
  simp
theorem CT {x y:Nat}:sR ops x y= true↔∃a b,ops[x]? =some a∧ops[y]? =some b∧a.apart ops b= true:=by
 unfold sR
 cases h:ops[x]? with
 | none=>simp
 | some a=>cases h2:ops[y]? with
  | none=>simp
  | some b=>simp
structure Fit (md:Region.Mode) (ops:Array Oper) (r:List (Nat×Nat)) (listed:Array Bool):Prop where
 wf:Fs md ops= true
 size:listed.size= ops.size
 mem:∀i,i < ops.size→(listed.getD i true= false↔∃k,(i,k) ∈ r)
 lt:∀x ∈ r,x.1 < ops.size
 zJ:r.Pairwise fun x y=>uM md ops x y= true
 AG:∀x y,rT md ops y x= true→listed.getD x true= false→listed.getD y true= false
theorem Fit.Ic {r:List (Nat×Nat)} {listed:Array Bool} (_:Fit md ops r listed) {j x:Nat} (he:rT md ops j x= true) (aw:listed.getD x true= false) (bE:j ∈ Region.ready md ops listed):False:=by
 obtain⟨_,o,cG,h2⟩:=mem_ready.1 bE
 obtain⟨lQ,El,e,hm,aF,agA⟩:=GG.1 he
 have:o= lQ:=Option.some.inj (cG.symm.trans El)
 subst this
 have h3:=h2 e hm aF
 rw [agA] at h3
 rw [getD_both aw] at h3;cases h3
theorem Fit.reach {r:List (Nat×Nat)} {listed:Array Bool} (h:Fit md ops r listed) {x:Nat} (aw:listed.getD x true= false):∀(n y:Nat),zN md ops n y x= true→listed.getD y true= false
 | 0,y,he=>h.AG x y he aw
 | n + 1,y,he=>by
  simp only [zN,Bool.or_eq_true,List.any_eq_true,Bool.and_eq_true] at he
  rcases he with he | ⟨m,_,h1,h2⟩
  ·exact h.AG x y he aw
  ·exact h.AG m y h1 (h.reach aw n m h2)
theorem Fit.akh {r:List (Nat×Nat)} {listed:Array Bool} (h:Fit md ops r listed) {j x:Nat} (aw:listed.getD x true= false) (bE:j ∈ Region.ready md ops listed):∀n,zN md ops n j x= false:=by
 intro n
 cases bp:zN md ops n j x with
 | false=>rfl
 | true=>
  exfalso
  cases n with
  | zero=>exact h.Ic bp aw bE
  | succ n=>
   simp only [zN,Bool.or_eq_true,List.any_eq_true,Bool.and_eq_true] at bp
   rcases bp with he | ⟨m,_,h1,h2⟩
   ·exact h.Ic he aw bE
   ·exact h.Ic h1 (h.reach aw n m h2) bE
theorem Fit.step {p s:List (Nat×Nat)} {j k:Nat} {listed:Array Bool} (h:Fit md ops (p ++ (j,k) ::s) listed) (agh:j ∈ Region.ready md ops listed):Fit md ops (p ++ s) (listed.setIfInBounds j true):=by
 have vU:(p ++ s).Sublist (p ++ (j,k) ::s):=List.Sublist.append_left (List.sublist_cons_self _ _) p
 refine⟨h.wf,by simpa using h.size,fun i hi=>?_,fun x aw=>h.lt x (vU.subset aw),h.zJ.sublist vU,fun x y he aw=>?_⟩
 case refine_2=>
  have pa:listed.getD x true= false:=by
   by_cases SV:j= x
   ·subst SV
    exfalso
    by_cases aT:j < listed.size
    ·simp [Array.getD_eq_getD_getElem?,Array.getElem?_setIfInBounds_self_of_lt aT] at aw
    ·simp [Array.getD_eq_getD_getElem?,aT] at aw
   ·simpa [Array.getD_eq_getD_getElem?,Array.getElem?_setIfInBounds_ne SV] using aw
  by_cases SW:j= y
  ·subst SW
   exact (h.Ic he pa agh).elim
  ·have:=h.AG x y he pa
   simpa [Array.getD_eq_getD_getElem?,Array.getElem?_setIfInBounds_ne SW] using this
 by_cases xn:j= i
 ·subst xn
  have bE:j < listed.size:=by rw [h.size];exact hi
  have h1:(listed.setIfInBounds j true).getD j true= true:=by simp [Array.getD_eq_getD_getElem?,Array.getElem?_setIfInBounds_self_of_lt bE]
  rw [h1]
  refine⟨fun h2=>(by cases h2),fun ⟨hX,aD⟩=>?_⟩
  exfalso
  rcases List.mem_append.1 aD with aD | aD
  ·have:=(List.pairwise_append.1 h.zJ).2.2 _ aD (j,k) (by simp)
   simp [uM] at this
  ·have:=(List.pairwise_cons.1 (List.pairwise_append.1 h.zJ).2.1).1 _ aD
   simp [uM] at this
 ·have h1:(listed.setIfInBounds j true).getD i true= listed.getD i true:=by simp [Array.getD_eq_getD_getElem?,Array.getElem?_setIfInBounds_ne xn]
  rw [h1,h.mem i hi]
  constructor
  ·rintro ⟨hX,aD⟩
   refine⟨hX,?_⟩
   rcases List.mem_append.1 aD with aD | aD
   ·exact List.mem_append_left _ aD
   ·rcases List.mem_cons.1 aD with aD | aD
    ·exact absurd (congrArg Prod.fst aD).symm xn
    ·exact List.mem_append_right _ aD
  ·rintro ⟨hX,aD⟩
   exact⟨hX,vU.subset aD⟩
theorem aeN {listed:Array Bool} {i:Nat} (hi:i < listed.size) (h:¬listed.getD i true= false):listed.getD i false= true:=by
 simp only [Array.getD_eq_getD_getElem?,Array.getElem?_eq_getElem hi,Option.getD_some] at h ⊢
 cases fc:listed[i] with
 | true=>rfl
 | false=>exact absurd fc h
theorem Fit.head {x:Nat×Nat} {s:List (Nat×Nat)} {listed:Array Bool} (h:Fit md ops (x ::s) listed):x.1 ∈ Region.ready md ops listed:=by
 have aw:=h.lt x (by simp)
 refine mem_ready.2 ⟨(h.mem _ aw).2 ⟨x.2,by simp⟩,ops[x.1],Array.getElem?_eq_getElem aw,fun e he aF=>?_⟩
 have MM:=h.wf
 unfold Fs at MM
 rw [List.all_eq_true] at MM
 have h1:=MM x.1 (List.mem_range.2 aw)
 simp only [Array.getElem?_eq_getElem aw,Array.all_eq_true_iff_forall_mem] at h1
 have h2:=h1 e he
 simp only [aF,Bool.not_true,Bool.false_or,Bool.and_eq_true,decide_eq_true_eq,Bool.not_eq_true',beq_eq_false_iff_ne] at h2
 refine aeN (by rw [h.size];exact h2.1) fun hf=>?_
 obtain⟨k,aD⟩:=(h.mem _ h2.1).1 hf
 rcases List.mem_cons.1 aD with aD | aD
 ·exact h2.2 (congrArg Prod.fst aD)
 ·have:=(List.pairwise_cons.1 h.zJ).1 _ aD
  simp only [uM,Bool.and_eq_true,Bool.not_eq_true'] at this
  have h3:rT md ops x.1 e.on= true:=GG.2 ⟨_,Array.getElem?_eq_getElem aw,e,he,aF,rfl⟩
  rw [this.1.1.1] at h3;cases h3
theorem Fit.ready {r:List (Nat×Nat)} {j:Nat} {listed:Array Bool} (h:Fit md ops r listed) (bE:j ∈ Region.ready md ops listed):
  ∃p k s,r= p ++ (j,k) ::s∧(∀x ∈ p,xE x.2 k= true∧sR ops x.1 j= true)∧(k= 5→∀x ∈ s,qS x.2= false):=by
 obtain⟨h1,o,cG,h2⟩:=mem_ready.1 bE
 have bu:j < ops.size:=(Array.getElem?_eq_some_iff.1 cG).1
 obtain⟨k,aD⟩:=(h.mem j bu).1 h1
 obtain⟨p,s,bp⟩:=List.append_of_mem aD
 refine⟨p,k,s,bp,fun x aw=>?_,fun LR x aw=>?_⟩
 case refine_2=>
  subst bp LR
  have aN:=(List.pairwise_cons.1 (List.pairwise_append.1 h.zJ).2.1).1 x aw
  simp only [uM,Bool.and_eq_true,Bool.not_eq_true'] at aN
  simpa using aN.1.2
 subst bp
 have aN:=(List.pairwise_append.1 h.zJ).2.2 x aw (j,k) (by simp);have Hr:=(h.mem x.1 (h.lt x (List.mem_append_left _ aw))).2 ⟨x.2,List.mem_append_left _ aw⟩;have eM:=h.akh Hr bE 3
 simp only [uM,eM,Bool.or_false,Bool.and_eq_true] at aN
 exact aN.2
def oo (C:World→Prop) (k:Nat):World→Prop:=fun w=>zI k= true∨C w
def gx (P:Program) (ops:Array Oper) (C:World→Prop) (Q:Act→World→Prop):List (Nat×Nat)→Act→World→Prop
 | [],a,w=>Q a w
 | (i,k) ::r,a,w=>if k= 3 then wpOp P ops (hU Q) i (fun a' ah=>C ah∧gx P ops C Q r a' ah) a w
  else if k= 5 then wpOp P ops (hU Q) i (fun a' ah=>gx P ops C Q r a' ah) a w
  else∃dK v,ops[i]? =some dK∧kI P ops (oo C k) dK v a∧gx P ops C Q r (a.put dK.dst v) w
theorem rF (fr:Region.noSelect ops= true) {i:Nat} {o:Oper} (h:ops[i]? =some o):∀cs b,o.op≠.select cs b:=fun cs b=>Region.noSelect_spec fr i o cs b h
theorem YO {p:Prop} (h:p:=by
 refine⟨dK,pk,iw,xy.of_same (execOp_put dK (rF fr iw) a eU.dst v h3) (wanted_put dK a eU.dst v h3),?_⟩
 rw [← Act.put_comm a pk v h2]
 exact aV):p:=h
theorem Qm (fr:Region.noSelect ops= true) {j xA:Nat} {s:List (Nat×Nat)} (yT:xA≠3∧xA≠5):∀(p:List (Nat×Nat)) (a:Act) (w:World),(∀x ∈ p,(x.2≠3∧x.2≠5)∧sR ops x.1 j= true)→gx P ops C Q (p ++ (j,xA) ::s) a w→
  ∃eU v,ops[j]? =some eU∧kI P ops (oo C xA) eU v a∧gx P ops C Q (p ++ s) (a.put eU.dst v) w
 | [],a,w,_,h=>by
  simp only [List.nil_append,gx,if_neg yT.1,if_neg yT.2] at h
  exact h
 | (i,k) ::p,a,w,aN,h=>by
  have hi:=aN (i,k) (by simp)
  simp only [List.cons_append,gx,if_neg hi.1.1,if_neg hi.1.2] at h
  obtain⟨dK,pk,iw,xy,bp⟩:=h
  obtain⟨eU,v,hg,Ez,aV⟩:=Qm fr yT p _ w (fun x aw=>aN x (by simp [aw])) bp
  obtain⟨a1,dF,e1,e2,jm⟩:=CT.1 hi.2
  obtain rfl:=Option.some.inj (iw.symm.trans e1)
  obtain rfl:=Option.some.inj (hg.symm.trans e2)
  obtain⟨h1,h2,h3⟩:=Oper.apart_spec jm
  refine⟨eU,v,hg,Ez.of_same (execOp_put eU (rF fr hg) a dK.dst pk h1).symm (wanted_put eU a dK.dst pk h1).symm,?_⟩
  simp only [List.cons_append,gx,if_neg hi.1.1,if_neg hi.1.2]
  exact YO
theorem Qi (fr:Region.noSelect ops= true) {j:Nat} {eU:Oper} (hg:ops[j]? =some eU) {s:List (Nat×Nat)}:∀(p:List (Nat×Nat)) (a:Act) (w:World),(∀x ∈ p,(x.2≠3∧x.2≠5)∧sR ops x.1 j= true)→gx P ops C Q (p ++ (j,3) ::s) a w→
  wpOp P ops (hU Q) j (fun a' ah=>C ah∧gx P ops C Q (p ++ s) a' ah) a w
 | [],a,w,_,h=>by
  simp only [List.nil_append,gx,if_true] at h
  exact h
 | (i,k) ::p,a,w,aN,h=>by
  have hi:=aN (i,k) (by simp)
  simp only [List.cons_append,gx,if_neg hi.1.1,if_neg hi.1.2] at h
  obtain⟨dK,pk,iw,xy,bp⟩:=h
  have er:=Qi fr hg p _ w (fun x aw=>aN x (by simp [aw])) bp
  obtain⟨a1,dF,e1,e2,jm⟩:=CT.1 hi.2
  obtain rfl:=Option.some.inj (iw.symm.trans e1)
  obtain rfl:=Option.some.inj (hg.symm.trans e2)
  refine wpOp_mono (fun a' ah dj=>⟨dj.2.1,?_⟩) (wpOp_put hg jm (rF fr iw) (rF fr hg) xy er)
  simp only [List.cons_append,gx,if_neg hi.1.1,if_neg hi.1.2]
  exact⟨dK,pk,iw,dj.1,dj.2.2⟩
theorem Qj (fr:Region.noSelect ops= true) {j:Nat} {eU:Oper} (hg:ops[j]? =some eU) {s:List (Nat×Nat)}:∀(p:List (Nat×Nat)) (a:Act) (w:World),(∀x ∈ p,(x.2≠3∧x.2≠5)∧sR ops x.1 j= true)→gx P ops C Q (p ++ (j,5) ::s) a w→
  wpOp P ops (hU Q) j (fun a' ah=>gx P ops C Q (p ++ s) a' ah) a w
 | [],a,w,_,h=>by
  simp only [List.nil_append,gx] at h
  exact h
 | (i,k) ::p,a,w,aN,h=>by
  have hi:=aN (i,k) (by simp)
  simp only [List.cons_append,gx,if_neg hi.1.1,if_neg hi.1.2] at h
  obtain⟨dK,pk,iw,xy,bp⟩:=h
  have er:=Qj fr hg p _ w (fun x aw=>aN x (by simp [aw])) bp
  obtain⟨a1,dF,e1,e2,jm⟩:=CT.1 hi.2
  obtain rfl:=Option.some.inj (iw.symm.trans e1)
  obtain rfl:=Option.some.inj (hg.symm.trans e2)
  refine wpOp_mono (fun a' ah dj=>?_) (wpOp_put hg jm (rF fr iw) (rF fr hg) xy er)
  simp only [List.cons_append,gx,if_neg hi.1.1,if_neg hi.1.2]
  exact⟨dK,pk,iw,dj.1,dj.2⟩
theorem akq {x k:Nat} (h:xE x k= true):x≠3∧x≠5:=by
 constructor
 ·rintro rfl;simp [xE,qS,zI] at h
 ·rintro rfl;simp [xE,qS,zI] at h
theorem akp {x:Nat} (h:xE x 5= true):qS x= false:=by
 cases aH:qS x with
 | false=>rfl
 | true=>
  simp only [qS,Bool.or_eq_true,beq_iff_eq] at aH
  rcases aH with rfl | rfl <;> simp [xE,qS,zI] at h
theorem BV (fr:Region.noSelect ops= true):∀(n:Nat) (r:List (Nat×Nat)) (listed:Array Bool) (a:Act) (w:World),r.length= n→(∀x ∈ r,x.2≠1∧x.2≤6)→Fit md ops r listed→((∀x ∈ r,qS x.2= false)∨C w)→gx P ops C Q r a w→wpAny P md ops (hU Q) n listed a w
 | 0,r,listed,a,w,aY,_,hf,eC,h=>by
  obtain rfl:=List.length_eq_zero_iff.1 aY
  refine⟨List.eq_nil_iff_forall_not_mem.2 fun j bE=>?_,rfl,h⟩
  obtain⟨p,k,s,bp,_⟩:=hf.ready bE
  simp at bp
 | n + 1,r,listed,a,w,aY,h1,hf,eC,h=>by
  refine⟨fun h0=>?_,fun j bE=>?_⟩
  ·cases r with
   | nil=>simp at aY
   | cons x s=>have:=hf.head;rw [h0] at this;cases this
  ·obtain⟨p,k,s,rfl,aN,LR⟩:=hf.ready bE
   have Ml:∀x ∈ p,(x.2≠3∧x.2≠5)∧sR ops x.1 j= true:=fun x aw=>⟨akq (aN x aw).1,(aN x aw).2⟩
   have hlen:(p ++ s).length= n:=by simp at aY ⊢;omega
   have vU:(p ++ s).Sublist (p ++ (j,k) ::s):=List.Sublist.append_left (List.sublist_cons_self _ _) p
   have oV:∀x ∈ p ++ s,x.2≠1∧x.2≤6:=fun x aw=>h1 x (vU.subset aw)
   have bu:=hf.lt (j,k) (by simp)
   by_cases aD:k= 3
   ·subst aD
    exact wpOp_mono (fun a' ah dj=>BV fr n _ _ _ _ hlen oV (hf.step bE) (.inr dj.1) dj.2) (Qi fr (Array.getElem?_eq_getElem bu) p a w Ml h)
   ·by_cases kP:k= 5
    ·subst kP
     have gM:∀x ∈ p ++ s,qS x.2= false:=fun x aw=>by
      rcases List.mem_append.1 aw with aw | aw
      ·exact akp (aN x aw).1
      ·exact LR rfl x aw
     exact wpOp_mono (fun a' ah dj=>BV fr n _ _ _ _ hlen oV (hf.step bE) (.inl gM) dj) (Qj fr (Array.getElem?_eq_getElem bu) p a w Ml h)
    ·obtain⟨eU,v,hg,hy,aV⟩:=Qm fr ⟨aD,kP⟩ p a w Ml h
     have sa:oo C k w:=by
      have Bh:=h1 (j,k) (by simp)
      simp only at Bh
      unfold oo
      rcases eC with eC | eC
      ·have h3:=eC (j,k) (by simp)
       left
       simp only [qS,Bool.or_eq_false_iff,beq_eq_false_iff_ne] at h3
       have:k= 4∨k= 6:=by omega
       rcases this with rfl | rfl <;> rfl
      ·exact .inr eC
     refine hy.wpOp hg sa (BV fr n _ _ _ _ hlen oV (hf.step bE) ?_ aV)
     rcases eC with eC | eC
     ·exact .inl fun x aw=>eC x (vU.subset aw)
     ·exact .inr eC
theorem akC {a b:Act} {d:Option Tmp} {u v:Value} (aV:b.tmps.size= a.tmps.size) (h:b.put d u= b.put d v):a.put d u= a.put d v:=by
 cases d with
 | none=>rfl
 | some d=>
  simp only [Act.put] at h ⊢
  have h1:b.tmps.setIfInBounds d u= b.tmps.setIfInBounds d v:=by injection h
  by_cases bJ:d < b.tmps.size
  ·have h2:u= v:=by
    have h3:=congrArg (fun t:Array Value=>t[d]?) h1
    simp only [Array.getElem?_setIfInBounds_self_of_lt bJ] at h3
    exact Option.some.inj h3
   rw [h2]
  ·have hle:a.tmps.size≤d:=aV ▸ Nat.le_of_not_lt bJ
   have h3:∀x,a.tmps.setIfInBounds d x= a.tmps:=fun x=>Array.setIfInBounds_eq_of_size_le hle
   rw [h3,h3]
theorem Ij (a:Act) (d:Option Tmp) (v:Value):(a.put d v).tmps.size= a.tmps.size:=by
 cases d <;> simp [Act.put]
theorem VM (a:Act) (d:Option Tmp) (v:Value):(a.put d v).defers= a.defers:=by
 cases d <;> rfl
def Jh (P:Program) (ops:Array Oper) (Q:Act→World→Prop) (e:Nat) (lS:Oper) (K:Value→World→Prop) (a:Act) (W:World):Prop:=
 ∀L:Act→World→Prop,(∀v eF,K v eF→L (a.put lS.dst v) eF)→wpOp P ops (hU Q) e L a W
theorem aeO {e:Nat} {lS:Oper} {K:Value→World→Prop} {a b:Act} {W:World} (he:ops[e]? =some lS) (bp:execOp a.eval lS= execOp b.eval lS)
  (hw:Region.wanted lS (yielded ops a.tmps)= Region.wanted lS (yielded ops b.tmps)) (aV:b.tmps.size= a.tmps.size) (h:Jh P ops Q e lS K b W):Jh P ops Q e lS K a W:=by
 intro L gK
 have H:=h (fun dc eF=>(∀u,dc= b.put lS.dst u→L (a.put lS.dst u) eF)∧∃u,dc= b.put lS.dst u) (fun v eF ax=>⟨fun u hu=>by rw [← akC aV hu];exact gK v eF ax,v,rfl⟩)
 unfold wpOp at H ⊢
 simp only [he] at H ⊢
 rw [← hw] at H
 split
 ·rename_i MN
  simp only [MN,if_true] at H
  rcases H with H | H
  ·refine .inl ?_
   unfold Oper.wp at H ⊢
   rw [← bp] at H
   generalize (execOp a.eval lS).run P W= r at *
   cases r with
   | ok n ah=>
    cases n <;> simp only [Oper.upon] at H ⊢
    case value u=>exact H.1 u rfl
    case skip=>exact H.1 undef rfl
    case defer d=>
     obtain⟨u,hu⟩:=H.2
     have h1:=congrArg Act.defers hu
     rw [VM,VM] at h1
     have h2:=congrArg List.length h1
     simp at h2
    case enter f args=>
     refine H.mono fun e eE fc=>?_
     cases e with
     | returned u=>exact fc.1 u rfl
     | panicked c=>exact absurd fc.1 (by intro h;cases h)
     | outgrown=>exact absurd fc wW
    case row row args=>exact H.mono fun u eE fc=>fc.1 u rfl
   | halt x ah=>cases x <;> simp only [Oper.upon] at H ⊢ <;> exact absurd H.1 (by intro h;cases h)
  ·exact absurd H.2 wW
 ·rename_i MN
  simp only [MN] at H
  exact H.1 undef rfl
structure kq (α:Type) where
 par:Nat→List Nat
 val:Nat→α→Value
 post:Nat→(Nat→α)→α→World→World→Prop
variable {α:Type} [Inhabited α]
def pY (ps:List Nat) (bl:Nat→α):Nat→α:=fun m=>if ps.contains m then bl m else default
theorem Wv {ps:List Nat} {bl oO:Nat→α} (h:∀m ∈ ps,bl m= oO m):pY ps bl= pY ps oO:=by
 funext m
 unfold pY
 split
 ·rename_i hm;exact h m (List.contains_iff_mem.1 hm)
 ·rfl
def CJ (S:kq α) (bl:Nat→α) (m:Nat) (W:World):Prop:=∃cN V,Below cN.heap.size cN V∧S.post m (pY (S.par m) bl) (bl m) cN V∧Below V.heap.size V W
def CK (P:Program) (ops:Array Oper) (C:World→Prop) (Q:Act→World→Prop) (S:kq α) (bl:Nat→α) (e:Nat) (lS:Oper) (a:Act):Prop:=
 ∀W,C W→(∀m ∈ S.par e,CJ S bl m W)→Jh P ops Q e lS (fun v eF=>∃p,v= S.val e p∧Below W.heap.size W eF∧S.post e (pY (S.par e) bl) p W eF) a W
def kX (P:Program) (ops:Array Oper) (C:World→Prop) (Q:Act→World→Prop) (S:kq α) (bl:Nat→α) (F:Act→Prop):List (Nat×Nat)→Act→Prop
 | [],a=>F a
 | (i,k) ::r,a=>if k= 1 then∃dK,ops[i]? =some dK∧CK P ops C Q S bl i dK a∧kX P ops C Q S bl F r (a.put dK.dst (S.val i (bl i)))
  else∃dK v,ops[i]? =some dK∧kI P ops (oo C k) dK v a∧kX P ops C Q S bl F r (a.put dK.dst v)
theorem CK.of_same {S:kq α} {bl:Nat→α} {e:Nat} {lS:Oper} {a b:Act} (he:ops[e]? =some lS) (bp:execOp a.eval lS= execOp b.eval lS)
  (hw:Region.wanted lS (yielded ops a.tmps)= Region.wanted lS (yielded ops b.tmps)) (aV:b.tmps.size= a.tmps.size) (h:CK P ops C Q S bl e lS b):CK P ops C Q S bl e lS a:=
 fun W eC aN=>aeO he bp hw aV (h W eC aN)
theorem Gg (fr:Region.noSelect ops= true) {S:kq α} {bl:Nat→α} {F:Act→Prop} {j xA:Nat} {s:List (Nat×Nat)} (yT:xA≠1):∀(p:List (Nat×Nat)) (a:Act),(∀x ∈ p,sR ops x.1 j= true)→kX P ops C Q S bl F (p ++ (j,xA) ::s) a→
  ∃eU v,ops[j]? =some eU∧kI P ops (oo C xA) eU v a∧kX P ops C Q S bl F (p ++ s) (a.put eU.dst v)
 | [],a,_,h=>by
  simp only [List.nil_append,kX,if_neg yT] at h
  exact h
 | (i,k) ::p,a,aN,h=>by
  have hi:=aN (i,k) (by simp)
  obtain⟨a1,dF,e1,e2,jm⟩:=CT.1 hi
  obtain⟨h1,h2,h3⟩:=Oper.apart_spec jm
  by_cases aD:k= 1
  ·subst aD
   simp only [List.cons_append,kX,if_true] at h
   obtain⟨dK,iw,Mc,bp⟩:=h
   obtain⟨eU,v,hg,Ez,aV⟩:=Gg fr yT p _ (fun x aw=>aN x (by simp [aw])) bp
   obtain rfl:=Option.some.inj (iw.symm.trans e1)
   obtain rfl:=Option.some.inj (hg.symm.trans e2)
   refine⟨eU,v,hg,Ez.of_same (execOp_put eU (rF fr hg) a dK.dst _ h1).symm (wanted_put eU a dK.dst _ h1).symm,?_⟩
   simp only [List.cons_append,kX,if_true]
   refine⟨dK,iw,Mc.of_same iw (execOp_put dK (rF fr iw) a eU.dst v h3) (wanted_put dK a eU.dst v h3) (Ij _ _ _).symm,?_⟩
   rw [← Act.put_comm a _ v h2]
   exact aV
  ·simp only [List.cons_append,kX,if_neg aD] at h
   obtain⟨dK,pk,iw,xy,bp⟩:=h
   obtain⟨eU,v,hg,Ez,aV⟩:=Gg fr yT p _ (fun x aw=>aN x (by simp [aw])) bp
   obtain rfl:=Option.some.inj (iw.symm.trans e1)
   obtain rfl:=Option.some.inj (hg.symm.trans e2)
   refine⟨eU,v,hg,Ez.of_same (execOp_put eU (rF fr hg) a dK.dst pk h1).symm (wanted_put eU a dK.dst pk h1).symm,?_⟩
   simp only [List.cons_append,kX,if_neg aD]
   exact YO
theorem Gf (fr:Region.noSelect ops= true) {S:kq α} {bl:Nat→α} {F:Act→Prop} {j:Nat} {s:List (Nat×Nat)}:∀(p:List (Nat×Nat)) (a:Act),(∀x ∈ p,sR ops x.1 j= true)→kX P ops C Q S bl F (p ++ (j,1) ::s) a→
  ∃eU,ops[j]? =some eU∧CK P ops C Q S bl j eU a∧kX P ops C Q S bl F (p ++ s) (a.put eU.dst (S.val j (bl j)))
 | [],a,_,h=>by
  simp only [List.nil_append,kX,if_true] at h
  exact h
 | (i,k) ::p,a,aN,h=>by
  have hi:=aN (i,k) (by simp)
  obtain⟨a1,dF,e1,e2,jm⟩:=CT.1 hi
  obtain⟨h1,h2,h3⟩:=Oper.apart_spec jm
  by_cases aD:k= 1
  ·subst aD
   simp only [List.cons_append,kX,if_true] at h
   obtain⟨dK,iw,Mc,bp⟩:=h
   obtain⟨eU,hg,jQ,aV⟩:=Gf fr p _ (fun x aw=>aN x (by simp [aw])) bp
   obtain rfl:=Option.some.inj (iw.symm.trans e1)
   obtain rfl:=Option.some.inj (hg.symm.trans e2)
   refine⟨eU,hg,jQ.of_same hg (execOp_put eU (rF fr hg) a dK.dst _ h1).symm (wanted_put eU a dK.dst _ h1).symm (Ij _ _ _),?_⟩
   simp only [List.cons_append,kX,if_true]
   refine⟨dK,iw,Mc.of_same iw (execOp_put dK (rF fr iw) a eU.dst _ h3) (wanted_put dK a eU.dst _ h3) (Ij _ _ _).symm,?_⟩
   rw [← Act.put_comm a _ _ h2]
   exact aV
  ·simp only [List.cons_append,kX,if_neg aD] at h
   obtain⟨dK,pk,iw,xy,bp⟩:=h
   obtain⟨eU,hg,jQ,aV⟩:=Gf fr p _ (fun x aw=>aN x (by simp [aw])) bp
   obtain rfl:=Option.some.inj (iw.symm.trans e1)
   obtain rfl:=Option.some.inj (hg.symm.trans e2)
   refine⟨eU,hg,jQ.of_same hg (execOp_put eU (rF fr hg) a dK.dst pk h1).symm (wanted_put eU a dK.dst pk h1).symm (Ij _ _ _),?_⟩
   simp only [List.cons_append,kX,if_neg aD]
   refine⟨dK,pk,iw,xy.of_same (execOp_put dK (rF fr iw) a eU.dst _ h3) (wanted_put dK a eU.dst _ h3),?_⟩
   rw [← Act.put_comm a pk _ h2]
   exact aV
theorem kI.uniq {o:Oper} {v ln:Value} {a:Act} {W:World} (eC:C W) (h:kI P ops C o v a) (dj:kI P ops C o ln a):v= ln:=by
 rcases h with ⟨hw,h⟩ | ⟨hw,h⟩ <;> rcases dj with ⟨tC,dj⟩ | ⟨tC,dj⟩
 ·rcases h W eC with h1 | ⟨h1,rfl⟩ <;> rcases dj W eC with h2 | ⟨h2,rfl⟩
  ·rw [h1] at h2;injection h2 with h3 _;injection h3
  ·rw [h1] at h2;injection h2 with h3 _;cases h3
  ·rw [h1] at h2;injection h2 with h3 _;cases h3
  ·rfl
 ·rw [hw] at tC;cases tC
 ·rw [hw] at tC;cases tC
 ·rw [h,dj]
structure Made (S:kq α) (w0:World) (ms:List Nat) (bl:Nat→α) (cN V:Nat→World) (W:World):Prop where
 lN:∀m ∈ ms,Below w0.heap.size w0 (cN m)
 grow:∀m ∈ ms,Below (cN m).heap.size (cN m) (V m)
 post:∀m ∈ ms,S.post m (pY (S.par m) bl) (bl m) (cN m) (V m)
 bm:∀m ∈ ms,Below (V m).heap.size (V m) W
 apart:∀m ∈ ms,∀n ∈ ms,m≠n→(V m).heap.size≤(cN n).heap.size∨(V n).heap.size≤(cN m).heap.size
theorem Made.whole {S:kq α} {w0:World} {ms:List Nat} {bl:Nat→α} {cN V:Nat→World} {W:World} (h:Made S w0 ms bl cN V W) (m:Nat) (hm:m ∈ ms):Below w0 w0 W:=aj (aj (h.lN m hm) (h.grow m hm)) (h.bm m hm)
theorem _root_.Go.RowKit.Below.oM {w W:World} (h:Below w.drew.heap.size w.drew W):Below w w W:=⟨h.os,h.tape,h.output,h.size,h.block⟩
theorem Qk {S:kq α} {bl:Nat→α} {F:Act→Prop} {r2:List (Nat×Nat)} {W:World} (ai:∀a,F a→gx P ops C Q r2 a W):∀(r:List (Nat×Nat)) (a:Act),(∀x ∈ r,x.2= 0∨x.2= 6)→kX P ops C Q S bl F r a→gx P ops C Q (r ++ r2) a W
 | [],a,_,h=>ai a h
 | (i,k) ::r,a,h0,h=>by
  have aD:k= 0∨k= 6:=h0 (i,k) (by simp)
  have n1:k≠1:=by omega
  have n3:k≠3:=by omega
  have n5:k≠5:=by omega
  simp only [kX,if_neg n1] at h
  simp only [List.cons_append,gx,if_neg n3,if_neg n5]
  obtain⟨dK,v,iw,hy,bp⟩:=h
  exact⟨dK,v,iw,hy,Qk ai r _ (fun x aw=>h0 x (by simp [aw])) bp⟩
variable {S:kq α} {w0:World} {r2:List (Nat×Nat)} {ms:List Nat}
def abA (P:Program) (ops:Array Oper) (C:World→Prop) (Q:Act→World→Prop) (S:kq α) (w0:World) (r2:List (Nat×Nat)) (ms:List Nat) (bl:Nat→α) (a:Act):Prop:=
 ∀cN V W,Made S w0 ms bl cN V W→C W→gx P ops C Q r2 a W
theorem Zw {p:Prop} (h:p:=by
 have:=kP _ SU
 simp only at this h3
 rcases this with rfl | rfl | rfl | rfl <;> simp [xE,qS,zI] at h3):p:=h
theorem Yb (fr:Region.noSelect ops= true) (iF:∀W eF,C W→Below W W eF→C eF)
  (fq:∀e ∈ ms,∀m ∈ S.par e,m ∈ ms∧rT md ops e m= true) (kP:∀x ∈ r2,x.2= 2∨x.2= 3∨x.2= 4∨x.2= 5):
  ∀(n:Nat) (r:List (Nat×Nat)) (listed:Array Bool) (a:Act) (W:World) (oO:Nat→α) (cN V:Nat→World),r.length= n→(∀x ∈ r,x.2= 0∨x.2= 6∨(x.2= 1∧x.1 ∈ ms))→Fit md ops (r ++ r2) listed→
   (∀m ∈ ms,∀k,(m,k) ∈ r ++ r2→(m,k) ∈ r∧k= 1)→
   C W→Below w0 w0 W→Made S w0 (ms.filter fun m=>decide ((m,1) ∉ r)) oO cN V W→(∀m ∈ ms,(m,1) ∉ r→∀k ∈ S.par m,(k,1) ∉ r)→
   (∀bl:Nat→α,(∀m ∈ ms,(m,1) ∉ r→bl m= oO m)→kX P ops C Q S bl (abA P ops C Q S w0 r2 ms bl) r a)→wpAny P md ops (hU Q) (n + r2.length) listed a W:=by
 intro n
 induction n with
 | zero=>
  intro r listed a W oO cN V aY _ hf _ eC _ aU _ bn
  obtain rfl:=List.length_eq_zero_iff.1 aY
  have h1:=bn oO (fun _ _ _=>rfl)
  have pP:(ms.filter fun m=>decide ((m,1) ∉ ([]:List (Nat×Nat))))= ms:=by simp
  rw [pP] at aU
  rw [Nat.zero_add]
  exact BV fr _ r2 listed a W rfl (fun x aw=>by have:=kP x aw;omega) hf (.inr eC) (h1 cN V W aU eC)
 | succ n er=>
  intro r listed a W oO cN V aY LW hf ts eC bL aU Mm bn
  by_cases ny:∃m,(m,1) ∈ r
  ·obtain⟨m0,Mb⟩:=ny
   rw [show n + 1 + r2.length= (n + r2.length) + 1 by omega]
   refine⟨fun h0=>?_,fun j bE=>?_⟩
   ·cases r with
    | nil=>simp at aY
    | cons x s=>have:=hf.head;rw [h0] at this;cases this
   ·obtain⟨p,k,s,bp,aN,_⟩:=hf.ready bE
    have iP:∃dk bZ,r= dk ++ (j,k) ::bZ∧p= dk∧s= bZ ++ r2:=by
     rcases List.append_eq_append_iff.1 bp with ⟨q,au,al⟩ | ⟨q,au,al⟩
     ·exfalso
      have h3:=aN (m0,1) (by rw [au];exact List.mem_append_left _ Mb)
      have SU:(j,k) ∈ r2:=by rw [al];simp
      exact Zw
     ·cases q with
      | nil=>
       exfalso
       simp at au al
       have h3:=aN (m0,1) (by rw [← au];exact Mb)
       have SU:(j,k) ∈ r2:=by rw [← al];simp
       exact Zw
      | cons y q=>
       simp only [List.cons_append,List.cons.injEq] at al
       obtain⟨rfl,al⟩:=al
       exact⟨p,q,au,rfl,al⟩
    obtain⟨dk,bZ,rfl,rfl,rfl⟩:=iP
    have jm:∀x ∈ p,sR ops x.1 j= true:=fun x aw=>(aN x aw).2
    have SL:Fit md ops ((p ++ bZ) ++ r2) (listed.setIfInBounds j true):=by
     have:=hf
     rw [List.append_assoc,List.cons_append] at this
     have:=this.step bE
     rwa [← List.append_assoc] at this
    have hlen:(p ++ bZ).length= n:=by simp at aY ⊢;omega
    have vU:(p ++ bZ).Sublist (p ++ (j,k) ::bZ):=List.Sublist.append_left (List.sublist_cons_self _ _) p
    have SZ:∀x ∈ p ++ bZ,x.2= 0∨x.2= 6∨(x.2= 1∧x.1 ∈ ms):=fun x aw=>LW x (vU.subset aw)
    have age:=LW (j,k) (by simp)
    obtain⟨apV,aqy,agz,afP⟩:=mem_ready.1 bE
    have Ti:∀m ∈ ms,∀hX,(m,hX) ∈ (p ++ bZ) ++ r2→(m,hX) ∈ p ++ bZ∧hX= 1:=by
     intro m hm hX iP
     have h1:(m,hX) ∈ (p ++ (j,k) ::bZ) ++ r2:=by
      rcases List.mem_append.1 iP with h | h
      ·exact List.mem_append_left _ (vU.subset h)
      ·exact List.mem_append_right _ h
     have h2:=ts m hm hX h1
     refine⟨?_,h2.2⟩
     rcases List.mem_append.1 iP with h | h
     ·exact h
     ·exfalso
      have h3:=kP _ h;have h4:=h2.2
      simp at h3;omega
    by_cases tr:k≠1
    ·have vR:∀m,(m,1) ∉ p ++ bZ↔(m,1) ∉ p ++ (j,k) ::bZ:=fun m=>by simp [Ne.symm tr]
     obtain⟨eU,v,hg,hy,_⟩:=Gg fr tr p a jm (bn oO (fun _ _ _=>rfl))
     have sa:oo C k W:= .inr eC
     refine hy.wpOp hg sa (er (p ++ bZ) _ _ W oO cN V hlen SZ SL Ti eC bL ?_ ?_ ?_)
     ·have:(ms.filter fun m=>decide ((m,1) ∉ p ++ bZ))= ms.filter fun m=>decide ((m,1) ∉ p ++ (j,k) ::bZ):=by
       congr 1;funext m;exact decide_eq_decide.2 (vR m)
      rw [this];exact aU
     ·intro m hm rj hX sb
      rw [vR] at rj ⊢
      exact Mm m hm rj hX sb
     ·intro bl Hw
      obtain⟨akm,v2,Mj,sh,za⟩:=Gg fr tr p a jm (bn bl (fun m hm rj=>Hw m hm ((vR m).2 rj)))
      obtain rfl:=Option.some.inj (hg.symm.trans Mj)
      obtain rfl:=hy.uniq sa sh
      exact za
    ·obtain rfl:k= 1:=Classical.byContradiction tr
     have LQ:j ∈ ms:=by
      rcases age with h | h | h
      ·cases h
      ·cases h
      ·exact h.2
     have tl:∀hX ∈ S.par j,(hX,1) ∉ p ++ (j,1) ::bZ:=by
      intro hX sb iP
      have he:=(fq j LQ hX sb).2
      obtain⟨fi,agy,e,afR,afN,afS⟩:=GG.1 he
      obtain rfl:=Option.some.inj (agz.symm.trans agy)
      have h1:=afP e afR afN;have bu:=hf.lt (hX,1) (List.mem_append_left _ iP);have h2:=(hf.mem hX bu).2 ⟨1,List.mem_append_left _ iP⟩
      rw [afS,getD_both h2] at h1;cases h1
     have Me:(j,1) ∉ p ++ bZ:=by
      intro iP
      have Mr:=hf.zJ
      rw [List.append_assoc,List.cons_append] at Mr
      rcases List.mem_append.1 iP with h | h
      ·have:=(List.pairwise_append.1 Mr).2.2 _ h (j,1) (by simp)
       simp [uM] at this
      ·have:=(List.pairwise_cons.1 (List.pairwise_append.1 Mr).2.1).1 (j,1) (List.mem_append_left _ h)
       simp [uM] at this
     have vR:∀m,(m,1) ∉ p ++ bZ↔(m,1) ∉ p ++ (j,1) ::bZ∨m= j:=by
      intro m
      by_cases jQ:m= j
      ·subst jQ;simp [Me]
      ·simp [jQ]
     have agC:∀hX ∈ S.par j,hX ∈ ms:=fun hX sb=>(fq j LQ hX sb).1
     obtain⟨eU,hg,km,_⟩:=Gf fr p a jm (bn oO (fun _ _ _=>rfl))
     have kl:∀m,m ∈ ms→(m,1) ∉ p ++ (j,1) ::bZ→m ∈ ms.filter fun m=>decide ((m,1) ∉ p ++ (j,1) ::bZ):=fun m h1 h2=>List.mem_filter.2 ⟨h1,by simpa using h2⟩
     refine km W eC (fun m hm=>?_) _ ?_
     ·have iP:=kl m (agC m hm) (tl m hm)
      exact⟨cN m,V m,aU.grow m iP,aU.post m iP,aU.bm m iP⟩
     ·rintro v eF ⟨q,rfl,cT,agG⟩
      have MJ:∀m,(m,1) ∉ p ++ (j,1) ::bZ→m≠j:=fun m h1 h2=>h1 (by subst h2;simp)
      have agD:∀m ∈ ms,(m,1) ∉ p ++ (j,1) ::bZ→pY (S.par m) (fun i=>if i= j then q else oO i)= pY (S.par m) oO:=fun m hm rj=>
       Wv fun hX sb=>by rw [if_neg (MJ hX (Mm m hm rj hX sb))]
      have agB:pY (S.par j) (fun i=>if i= j then q else oO i)= pY (S.par j) oO:=Wv fun hX sb=>by rw [if_neg (MJ hX (tl hX sb))]
      have hold:∀m,m ∈ (ms.filter fun m=>decide ((m,1) ∉ p ++ bZ))→m≠j→m ∈ ms.filter fun m=>decide ((m,1) ∉ p ++ (j,1) ::bZ):=fun m hm eM=>by
       obtain⟨h1,h2⟩:=List.mem_filter.1 hm
       have h3:=(vR m).1 (of_decide_eq_true h2)
       exact kl m h1 (h3.resolve_right eM)
      refine er (p ++ bZ) _ _ eF (fun i=>if i= j then q else oO i) (fun i=>if i= j then W else cN i) (fun i=>if i= j then eF else V i) hlen SZ SL Ti (iF W eF eC cT) (bL.trans (cT.mono bL.size)) ?_ ?_ ?_
      ·refine⟨fun m hm=>?_,fun m hm=>?_,fun m hm=>?_,fun m hm=>?_,fun m hm hO Bj eM=>?_⟩
       ·by_cases jQ:m= j
        ·rw [if_pos jQ];exact bL
        ·rw [if_neg jQ];exact aU.lN m (hold m hm jQ)
       ·by_cases jQ:m= j
        ·rw [if_pos jQ,if_pos jQ];exact cT
        ·rw [if_neg jQ,if_neg jQ];exact aU.grow m (hold m hm jQ)
       ·by_cases jQ:m= j
        ·subst jQ
         rw [agB]
         simp only [if_true];exact agG
        ·have h1:=hold m hm jQ
         have h2:=List.mem_filter.1 h1
         rw [agD m h2.1 (of_decide_eq_true h2.2)]
         simp only [if_neg jQ]
         exact aU.post m h1
       ·by_cases jQ:m= j
        ·rw [if_pos jQ];exact Below.refl _ _
        ·rw [if_neg jQ];have h1:=aU.bm m (hold m hm jQ);exact h1.trans (cT.mono h1.size)
       ·by_cases jQ:m= j
        ·subst jQ
         have aY:hO≠m:=fun h=>eM h.symm
         have h1:=aU.bm hO (hold hO Bj aY)
         simp only [if_true,if_neg aY]
         exact .inr h1.size
        ·by_cases Md:hO= j
         ·subst Md
          have h1:=aU.bm m (hold m hm jQ)
          simp only [if_true,if_neg jQ]
          exact .inl h1.size
         ·simp only [if_neg jQ,if_neg Md]
          exact aU.apart m (hold m hm jQ) hO (hold hO Bj Md) eM
      ·intro m hm rj hX sb
       rcases (vR m).1 rj with h1 | h1
       ·exact (vR hX).2 (.inl (Mm m hm h1 hX sb))
       ·subst h1;exact (vR hX).2 (.inl (tl hX sb))
      ·intro bl Hw
       have ahf:bl j= q:=by have:=Hw j LQ Me;simpa using this
       obtain⟨akm,Mj,_,za⟩:=Gf fr p a jm (bn bl (fun m hm rj=>by
        have:=Hw m hm ((vR m).2 (.inl rj))
        rw [this,if_neg (MJ m rj)]))
       obtain rfl:=Option.some.inj (hg.symm.trans Mj)
       rw [ahf] at za
       exact za
  ·have h0:∀x ∈ r,x.2= 0∨x.2= 6:=fun x aw=>by
    rcases LW x aw with h | h | ⟨h,_⟩
    ·exact .inl h
    ·exact .inr h
    ·exact absurd ⟨x.1,by rw [← h];exact aw⟩ ny
   have pP:(ms.filter fun m=>decide ((m,1) ∉ r))= ms:=by
    rw [List.filter_eq_self]
    intro m _
    exact decide_eq_true fun h=>ny ⟨m,h⟩
   rw [pP] at aU
   have h1:=bn oO (fun _ _ _=>rfl);have h2:gx P ops C Q (r ++ r2) a W:=Qk (fun a' ai=>ai cN V W aU eC) r a h0 h1
   have aT:(r ++ r2).length= n + 1 + r2.length:=by simp [aY]
   rw [← aT]
   refine BV fr _ (r ++ r2) listed a W rfl (fun x aw=>?_) hf (.inr eC) h2
   rcases List.mem_append.1 aw with h | h
   ·have:=h0 x h;omega
   ·have:=kP x h;omega
def ie (dZ eI:Nat):List (List Nat×Nat)→List Nat→List (Nat×Nat)
 | [],s=>s.map (·,dZ)
 | (s,e) ::r,bZ=>s.map (·,dZ) ++ (e,eI) ::ie dZ eI r bZ
def cls (C:World→Prop):World→Prop:=fun ah=>∃k:cH C,ah= k.world
def UZ (md:Region.Mode) (ops:Array Oper) (par:Nat→List Nat) (dL:List (List Nat×Nat)) (s1:List Nat) (r2:List (List Nat×Nat)) (s2:List Nat):Bool:=
 let iz:=ie 0 1 dL s1;let fi:=ie 2 3 r2 s2;let ms:=dL.map (·.2)
 Region.noSelect ops && Fs md ops && BF md ops (iz ++ fi) && (iz ++ fi).all (fun x=>decide (x.1 < ops.size)) && (List.range ops.size).all (fun i=>(iz ++ fi).any fun x=>x.1 == i) &&
  (iz ++ fi).all (fun x=>x.2 == 1 || x.2 == 3 || oL ops x.1) && ms.all (fun e=>(par e).all fun m=>ms.contains m && rT md ops e m) && (iz ++ fi).all (fun x=>!(ms.contains x.1) || x.2 == 1) &&
  decide (iz.length + fi.length= ops.size)
def vz (l:List Oper) (e:Nat):Option Tmp:=match l[e]? with | some o=>o.dst | none=>none
def vc (P:Program) (l:List Oper) (C:World→Prop) (S:kq α) (bl:Nat→α) (F:Act→Prop):List (List Nat×Nat)→List Nat→Act→Prop
 | [],s,a=>wpQuiet P l.toArray C F (gm l s) a
 | (s,e) ::r,bZ,a=>wpQuiet P l.toArray C (fun a'=>
   (∀W,C W→(∀m ∈ S.par e,CJ S bl m W)→wpList P l.toArray (hU fun eS eF=>∃p,eS= a'.put (vz l e) (S.val e p)∧Below W.heap.size W eF∧S.post e (pY (S.par e) bl) p W eF) (gm l [e]) a' W)∧
   vc P l C S bl F r bZ (a'.put (vz l e) (S.val e (bl e)))) (gm l s) a
theorem kI.oo {o:Oper} {v:Value} {a:Act} {k:Nat} (aD:zI k= false) (h:kI P ops C o v a):kI P ops (oo C k) o v a:=by
 have e:Go.G9.oo C k= C:=by
  funext w;unfold Go.G9.oo;rw [aD];exact propext ⟨fun h=>h.resolve_left (by decide),.inr⟩
 rw [e];exact h
theorem wv {l:List Oper} {X:Act→Prop} {R:List (Nat×Nat)→Act→Prop} {kk:Nat} {r:List (Nat×Nat)}
  (bn:∀(i:Nat) (r:List (Nat×Nat)) (a:Act),(∃dK v,l.toArray[i]? =some dK∧kI P l.toArray C dK v a∧R r (a.put dK.dst v))→R ((i,kk) ::r) a) (aR:∀a,X a→R r a):
  ∀(s:List Nat) (a:Act),(∀i ∈ s,i < l.length∧oL l.toArray i= true)→wpQuiet P l.toArray C X (gm l s) a→R (s.map (·,kk) ++ r) a
 | [],a,_,h=>aR a h
 | i ::s,a,aV,h=>by
  have hi:=aV i (by simp)
  have aN:gm l (i ::s)= l[i]'hi.1 ::gm l s:=by simp [gm,hi.1]
  rw [aN] at h
  have h1:l.toArray[i]? =some (l[i]'hi.1):=by simp [hi.1]
  have dj:qOp P l.toArray C i (wpQuiet P l.toArray C X (gm l s)) a:=by
   unfold qOp;simp only [h1];exact h
  obtain⟨v,hy,gf⟩:=yieldsIn_of_qOp h1 dj
  have aD:uV (l[i]'hi.1).op= true:=by have:=hi.2;simpa [oL,h1] using this
  exact bn i _ a ⟨_,v,h1,YieldsIn.Oq aD hy,wv bn aR s _ (fun j bE=>aV j (by simp [bE])) gf⟩
theorem Ql {l:List Oper}:∀(r:List (List Nat×Nat)) (bZ:List Nat) (a:Act) (w:World),(∀x ∈ ie 2 3 r bZ,x.1 < l.length∧(x.2= 3∨oL l.toArray x.1= true))→tU P l C Q r bZ a w→gx P l.toArray C Q (ie 2 3 r bZ) a w
 | [],bZ,a,w,aT,h=>by
  have:=wv (P:=P) (C:=C) (l:=l) (R:=fun r a=>gx P l.toArray C Q r a w) (kk:=2) (r:=[]) (fun i r a h=>by
   obtain⟨dK,v,h1,h2,h3⟩:=h
   simp only [gx];rw [if_neg (by decide),if_neg (by decide)];exact⟨dK,v,h1,h2.oo rfl,h3⟩) (fun a h=>h) bZ a (fun i hi=>by
   have:=aT (i,2) (by simp [ie,hi]);exact⟨this.1,this.2.resolve_left (by simp)⟩) h
  simpa [ie] using this
 | (s,e) ::r,bZ,a,w,aT,h=>by
  refine wv (P:=P) (C:=C) (l:=l) (R:=fun r a=>gx P l.toArray C Q r a w) (kk:=2) (fun i r a h=>by
   obtain⟨dK,v,h1,h2,h3⟩:=h
   simp only [gx];rw [if_neg (by decide),if_neg (by decide)];exact⟨dK,v,h1,h2.oo rfl,h3⟩) (fun a' dj=>?_) s a (fun i hi=>by
   have:=aT (i,2) (by simp [ie,hi]);exact⟨this.1,this.2.resolve_left (by simp)⟩) h
  have he:e < l.length:=(aT (e,3) (by simp [ie])).1
  have aN:gm l [e]= [l[e]]:=by simp [gm,he]
  rw [aN] at dj
  simp only [gx,if_true]
  unfold wpOp
  have h1:l.toArray[e]? =some l[e]:=by simp [he]
  simp only [h1]
  unfold wpList at dj
  have iQ:∀eS eE,wpList P l.toArray (hU fun eS eE=>C eE∧tU P l C Q r bZ eS eE) [] eS eE→C eE∧gx P l.toArray C Q (ie 2 3 r bZ) eS eE:=fun eS eE h2=>
   ⟨h2.2.1,Ql r bZ eS eE (fun x aw=>aT x (by simp [ie,aw])) h2.2.2⟩
  exact IT
theorem Kb {l:List Oper} {S:kq α} {bl:Nat→α} {F FG:Act→Prop} (ai:∀a,F a→FG a):∀(r:List (List Nat×Nat)) (bZ:List Nat) (a:Act),(∀x ∈ ie 0 1 r bZ,x.1 < l.length∧(x.2= 1∨oL l.toArray x.1= true))→vc P l C S bl F r bZ a→kX P l.toArray C Q S bl FG (ie 0 1 r bZ) a
 | [],bZ,a,aT,h=>by
  have:=wv (P:=P) (C:=C) (l:=l) (R:=fun r a=>kX P l.toArray C Q S bl FG r a) (kk:=0) (r:=[]) (fun i r a h=>by
   obtain⟨dK,v,h1,h2,h3⟩:=h
   simp only [kX];rw [if_neg (by decide)];exact⟨dK,v,h1,h2.oo rfl,h3⟩) (fun a h=>ai a h) bZ a (fun i hi=>by
   have:=aT (i,0) (by simp [ie,hi]);exact⟨this.1,this.2.resolve_left (by simp)⟩) h
  simpa [ie] using this
 | (s,e) ::r,bZ,a,aT,h=>by
  refine wv (P:=P) (C:=C) (l:=l) (R:=fun r a=>kX P l.toArray C Q S bl FG r a) (kk:=0) (fun i r a h=>by
   obtain⟨dK,v,h1,h2,h3⟩:=h
   simp only [kX];rw [if_neg (by decide)];exact⟨dK,v,h1,h2.oo rfl,h3⟩) (fun a' dj=>?_) s a (fun i hi=>by
   have:=aT (i,0) (by simp [ie,hi]);exact⟨this.1,this.2.resolve_left (by simp)⟩) h
  have he:e < l.length:=(aT (e,1) (by simp [ie])).1
  have aN:gm l [e]= [l[e]]:=by simp [gm,he]
  have bJ:vz l e= (l[e]).dst:=by unfold vz;simp [he]
  rw [aN,bJ] at dj
  simp only [kX,if_true]
  have h1:l.toArray[e]? =some l[e]:=by simp [he]
  refine⟨l[e],h1,fun W eC fq L gK=>?_,Kb ai r bZ _ (fun x aw=>aT x (by simp [ie,aw])) dj.2⟩
  have h2:=dj.1 W eC fq
  unfold wpList at h2
  unfold wpOp
  simp only [h1]
  have iQ:∀eS eE,wpList P l.toArray (hU fun eS eF=>∃p,eS= a'.put (l[e]).dst (S.val e p)∧Below W W eF∧S.post e (pY (S.par e) bl) p W eF) [] eS eE→L eS eE:=fun eS eE h3=>by
   obtain⟨_,p,rfl,aF,bj⟩:=h3
   exact gK _ _ ⟨p,rfl,aF,bj⟩
  split
  ·rename_i hw
   simp only [hw,if_true] at h2
   exact h2.elim (fun h3=> .inl (Oper.OA iQ h3)) (fun h3=>absurd h3.2 wW)
  ·rename_i hw
   simp only [hw] at h2
   exact iQ _ _ h2
theorem zz {dZ eI:Nat}:∀(r:List (List Nat×Nat)) (bZ:List Nat),∀x ∈ ie dZ eI r bZ,x.2= dZ∨(x.2= eI∧x.1 ∈ r.map (·.2))
 | [],bZ,x,aw=>by
  simp [ie] at aw
  obtain⟨_,_,rfl⟩:=aw
  exact .inl rfl
 | (s,e) ::r,bZ,x,aw=>by
  simp only [ie,List.mem_append,List.mem_cons,List.mem_map] at aw
  rcases aw with ⟨_,_,rfl⟩ | rfl | aw
  ·exact .inl rfl
  ·exact .inr ⟨rfl,by simp⟩
  ·rcases zz r bZ x aw with h | ⟨h,h2⟩
   ·exact .inl h
   ·exact .inr ⟨h,by simp only [List.map_cons,List.mem_cons];exact .inr h2⟩
theorem EL {dZ eI:Nat}:∀(r:List (List Nat×Nat)) (bZ:List Nat),∀m ∈ r.map (·.2),(m,eI) ∈ ie dZ eI r bZ
 | [],_,m,hm=>by simp at hm
 | (s,e) ::r,bZ,m,hm=>by
  simp only [List.map_cons,List.mem_cons] at hm
  simp only [ie,List.mem_append,List.mem_cons]
  rcases hm with rfl | hm
  ·exact .inr (.inl rfl)
  ·exact .inr (.inr (EL r bZ m hm))
theorem hI {l:List Oper} {S:kq α} {bl:Nat→α} {F:Act→Prop} {s bZ:List Nat} {e:Nat} {r:List (List Nat×Nat)} {a:Act} (D:Option Tmp) (xf:vz l e= D) (v:Value) (ax:S.val e (bl e)= v)
  (h:∀K:Act→Prop,(∀a',vc P l (fun ah=>∃k:cH C,ah= k.world) S bl F r bZ (a'.put D v)→K a')→wpQuiet P l.toArray (fun ah=>∃k:cH C,ah= k.world) (fun a'=>
   (∀k:cH C,(∀m ∈ S.par e,CJ S bl m k.world)→wpList P l.toArray (hU fun eS eF=>∃p,eS= a'.put D (S.val e p)∧Below k.world.heap.size k.world eF∧S.post e (pY (S.par e) bl) p k.world eF) (gm l [e]) a' k.world)∧K a') (gm l s) a):
  vc P l (fun ah=>∃k:cH C,ah= k.world) S bl F ((s,e) ::r) bZ a:=by
 subst xf ax
 have H:=h _ (fun _ h=>h);have e1:(fun a':Act=>(∀W,(∃k:cH C,W= k.world)→(∀m ∈ S.par e,CJ S bl m W)→wpList P l.toArray (hU fun eS eF=>∃p,eS= a'.put (vz l e) (S.val e p)∧Below W W eF∧S.post e (pY (S.par e) bl) p W eF) (gm l [e]) a' W)∧vc P l (fun ah=>∃k:cH C,ah= k.world) S bl F r bZ (a'.put (vz l e) (S.val e (bl e))))
   =fun a'=>(∀k:cH C,(∀m ∈ S.par e,CJ S bl m k.world)→wpList P l.toArray (hU fun eS eF=>∃p,eS= a'.put (vz l e) (S.val e p)∧Below k.world.heap.size k.world eF∧S.post e (pY (S.par e) bl) p k.world eF) (gm l [e]) a' k.world)∧vc P l (fun ah=>∃k:cH C,ah= k.world) S bl F r bZ (a'.put (vz l e) (S.val e (bl e))):=by
  funext a'
  exact propext ⟨fun ⟨h1,h2⟩=>⟨fun k=>h1 _ ⟨k,rfl⟩,h2⟩,fun ⟨h1,h2⟩=>⟨fun W ⟨k,aD⟩=>aD ▸ h1 k,h2⟩⟩
 unfold vc
 rw [e1]
 exact H
theorem qJ {l:List Oper} {S:kq α} {bl:Nat→α} {F:Act→Prop} {bZ:List Nat} {a:Act} (h:wpQuiet P l.toArray C F (gm l bZ) a):vc P l C S bl F [] bZ a:=h
theorem hA {Y:Act→World→Prop} {a:Act} {w:World} (h:Y a w):hU Y .normal a w:=⟨rfl,h⟩
theorem Yn {p:Prop} (h:p:=by
 have h1:=fZ x (List.mem_append_left _ aw);have h2:=jc x (List.mem_append_left _ aw)
 refine⟨by simpa using h1,?_⟩
 rcases zz dL s1 x aw with h3 | ⟨h3,_⟩
 ·right;simpa [h3] using h2
 ·exact .inl h3):p:=h
theorem OZ {p:Prop} (h:p:=by
 refine⟨dJ,by simp,fun i hi=>?_,fun x aw=>fZ x aw,VE fa,fun x y he _=>by
  obtain⟨o,cG,_⟩:=GG.1 he
  have hy:=(Array.getElem?_eq_some_iff.1 cG).1
  have ahb:y < l.length:=by simpa using hy
  simp [Array.getD_eq_getD_getElem?,ahb]⟩
 have h1:=iN i (List.mem_range.2 hi)
 rw [List.any_eq_true] at h1
 obtain⟨x,aw,agZ⟩:=h1
 refine⟨fun _=>⟨x.2,?_⟩,fun _=>?_⟩
 ·have:x.1= i:=by simpa using agZ
  rw [← this];exact aw
 ·have:i < l.length:=by simpa using hi
  simp [Array.getD_eq_getD_getElem?,this]):p:=h
theorem ON {p:Prop} (h:p:=by
 rw [sT] at H
 have lI:(Code.region id l.toArray true).wp P (hU fun a' ah=>Q .normal a' ah) a w:=wp_region_any hm H
 exact Code.wp_mono (fun e a w h=>by obtain⟨rfl,h⟩:=h;exact h) lI):p:=h
theorem wF {id:Nat} {Q:Exit→Act→World→Prop} {a:Act} {w:World} {l:List Oper} (S:kq α) (C:World→Prop) (dL:List (List Nat×Nat)) (s1:List Nat) (r2:List (List Nat×Nat)) (s2:List Nat) (hm:P.follows .mixedOrders= true)
  (bG:UZ .any l.toArray S.par dL s1 r2 s2= true) (eC:C w.drew) (iF:∀W eF,C W→Below W W eF→C eF)
  (h:∀bl:Nat→α,vc P l (fun ah=>∃k:cH C,ah= k.world) S bl (fun a'=>∀cN V W,Made S w.drew (dL.map (·.2)) bl cN V W→C W→tU P l (fun ah=>∃k:cH C,ah= k.world) (fun a' ah=>Q .normal a' ah) r2 s2 a' W) dL s1 a):(Code.region id l.toArray true).wp P Q a w:=by
 simp only [UZ,Bool.and_eq_true,List.all_eq_true,decide_eq_true_eq] at bG
 obtain⟨⟨⟨⟨⟨⟨⟨⟨dF,dJ⟩,fa⟩,fZ⟩,iN⟩,jc⟩,gu⟩,ui⟩,sT⟩:=bG
 have MD:∀W eF,cls C W→Below W W eF→cls C eF:=fun W eF ⟨k,aD⟩ aF=>⟨⟨eF,iF W eF (aD ▸ k.holds) aF⟩,rfl⟩
 have tr:∀x ∈ ie 0 1 dL s1,x.1 < l.length∧(x.2= 1∨oL l.toArray x.1= true):=fun x aw=>by
  exact Yn
 have kP:∀x ∈ ie 2 3 r2 s2,x.1 < l.length∧(x.2= 3∨oL l.toArray x.1= true):=fun x aw=>by
  have h1:=fZ x (List.mem_append_right _ aw);have h2:=jc x (List.mem_append_right _ aw)
  refine⟨by simpa using h1,?_⟩
  rcases zz r2 s2 x aw with h3 | ⟨h3,_⟩
  ·right;simpa [h3] using h2
  ·exact .inl h3
 have pP:∀m ∈ dL.map (·.2),∀k,(m,k) ∈ ie 0 1 dL s1 ++ ie 2 3 r2 s2→(m,k) ∈ ie 0 1 dL s1∧k= 1:=by
  intro m hm k aD
  have h1:=ui _ aD;have aH:(dL.map (·.2)).contains m= true:=List.contains_iff_mem.2 hm
  simp only [aH,Bool.not_true,Bool.false_or,beq_iff_eq] at h1
  refine⟨?_,h1⟩
  rcases List.mem_append.1 aD with h2 | h2
  ·exact h2
  ·exfalso
   rcases zz r2 s2 _ h2 with h3 | ⟨h3,_⟩ <;> simp at h3 <;> omega
 have vO:Fit .any l.toArray (ie 0 1 dL s1 ++ ie 2 3 r2 s2) (Array.replicate l.toArray.size false):=by
  exact OZ
 have H:=Yb (P:=P) (md:= .any) (ops:=l.toArray) (C:=cls C) (Q:=fun a' ah=>Q .normal a' ah) (S:=S) (w0:=w.drew) (r2:=ie 2 3 r2 s2) (ms:=dL.map (·.2)) dF MD
  (fun e he m hm=>by
   have h1:=gu e he m hm
   exact⟨List.contains_iff_mem.1 h1.1,h1.2⟩)
  (fun x aw=>by
   rcases zz r2 s2 x aw with h | ⟨h,_⟩
   ·exact .inl h
   ·exact .inr (.inl h))
  _ (ie 0 1 dL s1) _ a w.drew (fun _=>default) (fun _=>w) (fun _=>w) rfl (fun x aw=>(zz dL s1 x aw).imp_right .inr) vO pP ⟨⟨_,eC⟩,rfl⟩ (Below.refl _ _)
  (by
   have:((dL.map (·.2)).filter fun m=>decide ((m,1) ∉ ie 0 1 dL s1))= []:=by
    rw [List.filter_eq_nil_iff]
    intro m hm
    simp [EL dL s1 m hm]
   rw [this]
   exact⟨fun m h=>(by cases h),fun m h=>(by cases h),fun m h=>(by cases h),fun m h=>(by cases h),fun m h=>(by cases h)⟩)
  (fun m hm aY=>absurd (EL dL s1 m hm) aY)
  (fun bl _=>Kb (fun a' ai cN V W aU ⟨k,KS⟩=>Ql r2 s2 a' W kP (ai cN V W aU (by rw [KS];exact k.holds))) dL s1 a tr (h bl))
 exact ON
theorem kI.mono {o:Oper} {v:Value} {a:Act} {Pg Ph:World→Prop} (aV:∀w,Ph w→Pg w) (h:kI P ops Pg o v a):kI P ops Ph o v a:=by
 rcases h with ⟨h1,h2⟩ | h
 ·exact .inl ⟨h1,fun w hw=>h2 w (aV w hw)⟩
 ·exact .inr h
def Gn:World→Prop:=fun ah=>∃k:cH (fun _=>True),ah= k.world
def ky:List (List Nat×List Nat×Nat×Bool)→List Nat→List Nat→List (Nat×Nat)
 | [],s,p=>s.map (·,2) ++ p.map (·,4)
 | (s,p,e,d) ::r,bZ,dk=>s.map (·,2) ++ (p.map (·,4) ++ (e,if d= true then 5 else 3) ::ky r bZ dk)
def As (d:Bool) (C:World→Prop) (w:World):Prop:=d= false→C w
def vd (P:Program) (l:List Oper) (C:World→Prop) (Q:Act→World→Prop):List (List Nat×List Nat×Nat×Bool)→List Nat→List Nat→Act→World→Prop
 | [],s,p,a,w=>wpQuiet P l.toArray C (fun a'=>wpQuiet P l.toArray Gn (fun eS=>Q eS w) (gm l p) a') (gm l s) a
 | (s,p,e,d) ::r,bZ,dk,a,w=>wpQuiet P l.toArray C (fun a'=>wpQuiet P l.toArray Gn (fun eS=>wpList P l.toArray (hU fun eS eE=>As d C eE∧vd P l C Q r bZ dk eS eE) (gm l [e]) eS w) (gm l p) a') (gm l s) a
theorem Kc {l:List Oper}:∀(r:List (List Nat×List Nat×Nat×Bool)) (bZ dk:List Nat) (a:Act) (w:World),(∀x ∈ ky r bZ dk,x.1 < l.length∧(x.2= 3∨x.2= 5∨oL l.toArray x.1= true))→vd P l C Q r bZ dk a w→gx P l.toArray C Q (ky r bZ dk) a w
 | [],bZ,dk,a,w,aT,h=>by
  refine wv (P:=P) (C:=C) (l:=l) (R:=fun r a=>gx P l.toArray C Q r a w) (kk:=2) (fun i r a h=>by
   obtain⟨dK,v,h1,h2,h3⟩:=h
   simp only [gx];rw [if_neg (by decide),if_neg (by decide)];exact⟨dK,v,h1,h2.oo rfl,h3⟩) (fun a' dj=>?_) bZ a (fun i hi=>by
   have:=aT (i,2) (by simp [ky,hi]);exact⟨this.1,(this.2.resolve_left (by simp)).resolve_left (by simp)⟩) h
  have:=wv (P:=P) (C:=Gn) (l:=l) (R:=fun r a=>gx P l.toArray C Q r a w) (kk:=4) (r:=[]) (fun i r a h=>by
   obtain⟨dK,v,h1,h2,h3⟩:=h
   simp only [gx];rw [if_neg (by decide),if_neg (by decide)];exact⟨dK,v,h1,h2.mono (fun w _=>⟨⟨w,trivial⟩,rfl⟩),h3⟩) (fun a h=>h) dk a' (fun i hi=>by
   have:=aT (i,4) (by simp [ky,hi]);exact⟨this.1,(this.2.resolve_left (by simp)).resolve_left (by simp)⟩) dj
  simpa using this
 | (s,p,e,d) ::r,bZ,dk,a,w,aT,h=>by
  refine wv (P:=P) (C:=C) (l:=l) (R:=fun r a=>gx P l.toArray C Q r a w) (kk:=2) (fun i r a h=>by
   obtain⟨dK,v,h1,h2,h3⟩:=h
   simp only [gx];rw [if_neg (by decide),if_neg (by decide)];exact⟨dK,v,h1,h2.oo rfl,h3⟩) (fun a' dj=>?_) s a (fun i hi=>by
   have:=aT (i,2) (by simp [ky,hi]);exact⟨this.1,(this.2.resolve_left (by simp)).resolve_left (by simp)⟩) h
  refine wv (P:=P) (C:=Gn) (l:=l) (R:=fun r a=>gx P l.toArray C Q r a w) (kk:=4) (fun i r a h=>by
   obtain⟨dK,v,h1,h2,h3⟩:=h
   simp only [gx];rw [if_neg (by decide),if_neg (by decide)];exact⟨dK,v,h1,h2.mono (fun w _=>⟨⟨w,trivial⟩,rfl⟩),h3⟩) (fun a' dj=>?_) p a' (fun i hi=>by
   have:=aT (i,4) (by simp [ky,hi]);exact⟨this.1,(this.2.resolve_left (by simp)).resolve_left (by simp)⟩) dj
  have he:e < l.length:=(aT (e,if d= true then 5 else 3) (by simp [ky])).1
  have aN:gm l [e]= [l[e]]:=by simp [gm,he]
  rw [aN] at dj
  have h1:l.toArray[e]? =some l[e]:=by simp [he]
  have Ts:∀eS eE,vd P l C Q r bZ dk eS eE→gx P l.toArray C Q (ky r bZ dk) eS eE:=fun eS eE h2=>Kc r bZ dk eS eE (fun x aw=>aT x (by simp [ky,aw])) h2
  unfold wpList at dj
  cases d with
  | false=>
   simp only [gx,Bool.false_eq_true,if_false,if_true]
   unfold wpOp
   simp only [h1]
   have iQ:∀eS eE,wpList P l.toArray (hU fun eS eE=>As false C eE∧vd P l C Q r bZ dk eS eE) [] eS eE→C eE∧gx P l.toArray C Q (ky r bZ dk) eS eE:=fun eS eE h2=>
    ⟨h2.2.1 rfl,Ts _ _ h2.2.2⟩
   exact IT
  | true=>
   simp only [gx,if_true]
   rw [if_neg (by decide)]
   unfold wpOp
   simp only [h1]
   have iQ:∀eS eE,wpList P l.toArray (hU fun eS eE=>As true C eE∧vd P l C Q r bZ dk eS eE) [] eS eE→gx P l.toArray C Q (ky r bZ dk) eS eE:=fun eS eE h2=>
    Ts _ _ h2.2.2
   exact IT
theorem Vm:∀(r:List (List Nat×List Nat×Nat×Bool)) (bZ dk:List Nat),∀x ∈ ky r bZ dk,x.2≠1∧x.2≤6
 | [],bZ,dk,x,aw=>by
  simp [ky] at aw
  rcases aw with ⟨_,_,rfl⟩ | ⟨_,_,rfl⟩ <;> simp
 | (s,p,e,d) ::r,bZ,dk,x,aw=>by
  simp only [ky,List.mem_append,List.mem_cons,List.mem_map] at aw
  rcases aw with ⟨_,_,rfl⟩ | ⟨_,_,rfl⟩ | rfl | aw
  ·simp
  ·simp
  ·cases d <;> simp
  ·exact Vm r bZ dk x aw
def Vl (md:Region.Mode) (ops:Array Oper) (r:List (List Nat×List Nat×Nat×Bool)) (s p:List Nat):Bool:=
 let o:=ky r s p
 Region.noSelect ops && Fs md ops && BF md ops o && o.all (fun x=>decide (x.1 < ops.size)) && (List.range ops.size).all (fun i=>o.any fun x=>x.1 == i) &&
  o.all (fun x=>x.2 == 3 || x.2 == 5 || oL ops x.1) && decide (o.length= ops.size)
theorem Fx {id:Nat} {Q:Exit→Act→World→Prop} {a:Act} {w:World} {l:List Oper} (C:World→Prop) (r:List (List Nat×List Nat×Nat×Bool)) (s p:List Nat) (hm:P.follows .mixedOrders= true)
  (bG:Vl .any l.toArray r s p= true) (eC:C w.drew)
  (h:vd P l (fun ah=>∃k:cH C,ah= k.world) (fun a' ah=>Q .normal a' ah) r s p a w.drew):(Code.region id l.toArray true).wp P Q a w:=by
 simp only [Vl,Bool.and_eq_true,List.all_eq_true,decide_eq_true_eq] at bG
 obtain⟨⟨⟨⟨⟨⟨dF,dJ⟩,fa⟩,fZ⟩,iN⟩,jc⟩,sT⟩:=bG
 have vO:Fit .any l.toArray (ky r s p) (Array.replicate l.toArray.size false):=by
  exact OZ
 have aD:∀x ∈ ky r s p,x.1 < l.length∧(x.2= 3∨x.2= 5∨oL l.toArray x.1= true):=fun x aw=>by
  have h1:=fZ x aw;have h2:=jc x aw
  refine⟨by simpa using h1,?_⟩
  simpa [or_assoc] using h2
 have H:=BV (P:=P) (md:= .any) (ops:=l.toArray) (C:=fun ah=>∃k:cH C,ah= k.world) (Q:=fun a' ah=>Q .normal a' ah) dF _ (ky r s p) _ a w.drew rfl (Vm r s p) vO (.inr ⟨⟨_,eC⟩,rfl⟩) (Kc r s p a w.drew aD h)
 exact ON
theorem oa {l:List Oper} {s p bZ dk:List Nat} {e:Nat} {d:Bool} {r:List (List Nat×List Nat×Nat×Bool)} {a:Act} {w:World}
  (h:∀K:Act→World→Prop,(∀a w,vd P l C Q r bZ dk a w→K a w)→wpQuiet P l.toArray C (fun a'=>wpQuiet P l.toArray (fun ah=>∃k:cH (fun _=>True),ah= k.world) (fun eS=>wpList P l.toArray (hU fun eS eE=>As d C eE∧K eS eE) (gm l [e]) eS w) (gm l p) a') (gm l s) a):vd P l C Q ((s,p,e,d) ::r) bZ dk a w:=
 h _ (fun _ _ h=>h)
theorem xR {l:List Oper} {bZ dk:List Nat} {a:Act} {w:World} (h:wpQuiet P l.toArray C (fun a'=>wpQuiet P l.toArray (fun ah=>∃k:cH (fun _=>True),ah= k.world) (fun eS=>Q eS w) (gm l dk) a') (gm l bZ) a):vd P l C Q [] bZ dk a w:=h
theorem wV {C:World→Prop} {K:Act→World→Prop} {a:Act} {w:World} (eC:C w) (h:K a w):hU (fun eS eE=>As false (fun ah=>∃k:cH C,ah= k.world) eE∧K eS eE) .normal a w:=⟨rfl,fun _=>⟨⟨w,eC⟩,rfl⟩,h⟩
theorem wU {X:World→Prop} {K:Act→World→Prop} {a:Act} {w:World} (h:K a w):hU (fun eS eE=>As true X eE∧K eS eE) .normal a w:=⟨rfl,fun h=>(by cases h),h⟩
end
open Go.RowKit
section
variable {P:Program} {ops:Array Oper} {md:Region.Mode} {C:World→Prop} {α:Type} [Inhabited α]
def Vc (md:Region.Mode) (ops:Array Oper) (par:Nat→List Nat) (dL:List (List Nat×Nat)) (s1:List Nat) (r2:List (List Nat×List Nat×Nat×Bool)) (s2 cZ:List Nat):Bool:=
 let iz:=ie 0 1 dL s1;let fi:=ky r2 s2 cZ;let ms:=dL.map (·.2)
 Region.noSelect ops && Fs md ops && BF md ops (iz ++ fi) && (iz ++ fi).all (fun x=>decide (x.1 < ops.size)) && (List.range ops.size).all (fun i=>(iz ++ fi).any fun x=>x.1 == i) &&
  (iz ++ fi).all (fun x=>x.2 == 1 || x.2 == 3 || x.2 == 5 || oL ops x.1) && ms.all (fun e=>(par e).all fun m=>ms.contains m && rT md ops e m) && (iz ++ fi).all (fun x=>!(ms.contains x.1) || x.2 == 1) &&
  decide (iz.length + fi.length= ops.size)
theorem HS:∀(r:List (List Nat×List Nat×Nat×Bool)) (bZ dk:List Nat),∀x ∈ ky r bZ dk,x.2= 2∨x.2= 3∨x.2= 4∨x.2= 5
 | [],bZ,dk,x,aw=>by
  simp [ky] at aw
  rcases aw with ⟨_,_,rfl⟩ | ⟨_,_,rfl⟩ <;> simp
 | (s,p,e,d) ::r,bZ,dk,x,aw=>by
  simp only [ky,List.mem_append,List.mem_cons,List.mem_map] at aw
  rcases aw with ⟨_,_,rfl⟩ | ⟨_,_,rfl⟩ | rfl | aw
  ·simp
  ·simp
  ·cases d <;> simp
  ·exact HS r bZ dk x aw
theorem Fw {id:Nat} {Q:Exit→Act→World→Prop} {a:Act} {w:World} {l:List Oper} (S:kq α) (C:World→Prop) (dL:List (List Nat×Nat)) (s1:List Nat) (r2:List (List Nat×List Nat×Nat×Bool)) (s2 cZ:List Nat) (hm:P.follows .mixedOrders= true)
  (bG:Vc .any l.toArray S.par dL s1 r2 s2 cZ= true) (eC:C w.drew) (iF:∀W eF,C W→Below W W eF→C eF)
  (h:∀bl:Nat→α,vc P l (fun ah=>∃k:cH C,ah= k.world) S bl (fun a'=>∀cN V W,Made S w.drew (dL.map (·.2)) bl cN V W→C W→vd P l (fun ah=>∃k:cH C,ah= k.world) (fun a' ah=>Q .normal a' ah) r2 s2 cZ a' W) dL s1 a):(Code.region id l.toArray true).wp P Q a w:=by
 simp only [Vc,Bool.and_eq_true,List.all_eq_true,decide_eq_true_eq] at bG
 obtain⟨⟨⟨⟨⟨⟨⟨⟨dF,dJ⟩,fa⟩,fZ⟩,iN⟩,jc⟩,gu⟩,ui⟩,sT⟩:=bG
 have MD:∀W eF,cls C W→Below W W eF→cls C eF:=fun W eF ⟨k,aD⟩ aF=>⟨⟨eF,iF W eF (aD ▸ k.holds) aF⟩,rfl⟩
 have tr:∀x ∈ ie 0 1 dL s1,x.1 < l.length∧(x.2= 1∨oL l.toArray x.1= true):=fun x aw=>by
  exact Yn
 have kP:∀x ∈ ky r2 s2 cZ,x.1 < l.length∧(x.2= 3∨x.2= 5∨oL l.toArray x.1= true):=fun x aw=>by
  have h1:=fZ x (List.mem_append_right _ aw);have h2:=jc x (List.mem_append_right _ aw)
  refine⟨by simpa using h1,?_⟩
  have h3:=HS r2 s2 cZ x aw
  have h4:x.2≠1:=by omega
  simpa [h4,or_assoc] using h2
 have pP:∀m ∈ dL.map (·.2),∀k,(m,k) ∈ ie 0 1 dL s1 ++ ky r2 s2 cZ→(m,k) ∈ ie 0 1 dL s1∧k= 1:=by
  intro m hm k aD
  have h1:=ui _ aD;have aH:(dL.map (·.2)).contains m= true:=List.contains_iff_mem.2 hm
  simp only [aH,Bool.not_true,Bool.false_or,beq_iff_eq] at h1
  refine⟨?_,h1⟩
  rcases List.mem_append.1 aD with h2 | h2
  ·exact h2
  ·exfalso
   have h3:=HS r2 s2 cZ _ h2
   simp only at h3;omega
 have vO:Fit .any l.toArray (ie 0 1 dL s1 ++ ky r2 s2 cZ) (Array.replicate l.toArray.size false):=by
  exact OZ
 have H:=Yb (P:=P) (md:= .any) (ops:=l.toArray) (C:=cls C) (Q:=fun a' ah=>Q .normal a' ah) (S:=S) (w0:=w.drew) (r2:=ky r2 s2 cZ) (ms:=dL.map (·.2)) dF MD
  (fun e he m hm=>by
   have h1:=gu e he m hm
   exact⟨List.contains_iff_mem.1 h1.1,h1.2⟩)
  (fun x aw=>HS r2 s2 cZ x aw)
  _ (ie 0 1 dL s1) _ a w.drew (fun _=>default) (fun _=>w) (fun _=>w) rfl (fun x aw=>(zz dL s1 x aw).imp_right .inr) vO pP ⟨⟨_,eC⟩,rfl⟩ (Below.refl _ _)
  (by
   have:((dL.map (·.2)).filter fun m=>decide ((m,1) ∉ ie 0 1 dL s1))= []:=by
    rw [List.filter_eq_nil_iff]
    intro m hm
    simp [EL dL s1 m hm]
   rw [this]
   exact⟨fun m h=>(by cases h),fun m h=>(by cases h),fun m h=>(by cases h),fun m h=>(by cases h),fun m h=>(by cases h)⟩)
  (fun m hm aY=>absurd (EL dL s1 m hm) aY)
  (fun bl _=>Kb (fun a' ai cN V W aU ⟨k,KS⟩=>Kc r2 s2 cZ a' W kP (ai cN V W aU (by rw [KS];exact k.holds))) dL s1 a tr (h bl))
 exact ON
end
end Go.G9
