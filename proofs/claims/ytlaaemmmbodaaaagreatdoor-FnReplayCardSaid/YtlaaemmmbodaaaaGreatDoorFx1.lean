/- Parts. -/
import Derived.Shelf.Slices.SearchI
import Derived.Shelf.Slices.Turned
import Derived.Shelf.SlicesE.DeleteFunc
import Derived.Shelf.Small.Wraps
import Derived.Shelf.Strconv.ErrVarAll
import Derived.Shelf.Strconv.Itoa3
import Derived.Shelf.Strconv.ParseUint10b16
import Derived.Shelf.Strconv.ParseUint10b32
import Derived.Shelf.Strconv.ParseUint10b64
import Derived.Shelf.Strconv.ParseUint10b8
import Derived.Shelf.Strconv.ParseUintEmpty
import Derived.Shelf.Strings.Explode
import Derived.Shelf.Strings.OnBuilder
import Derived.Shelf.Strings.Shaped
import Derived.Shelf.Strings.SplitShaped
import Derived.Shelf.Unicode.DecodeAny
import Derived.Shelf.Utf8.RuneCount
import Derived.Lib.SlBytesRow
import Derived.Lib.OwnBridge
import Derived.Test.YtlaaemmmbodaaaaGreatDoorFx0
set_option maxHeartbeats 16000000
set_option maxRecDepth 100000
set_option linter.all false
open Go Go.Shelf Go.RowKit Go.Sort Go.Proofs Go.Proofs.YtlaaemmmbodaaaaGreatDoor
variable {s:VU} {a:Act} {k sz B g i j cap:Nat} {ah:World} {P:Program} {e t:TypeId} {v u:Value} {n x z id:Int} {A:QR} {cs yP:Array Value} {S D:List Int} {vs us:List Value} {ops:Array Oper} {rest:List Oper} {Q:Exit->Act->World->Prop} {l:Prop}
namespace Go.Proofs
theorem aGP (h:l:=by rw [jR,yM bC (by rw [HR av.out hy.out,az,decide_eq_false (show¬(aM.id ⟨yv,KM,vc,ys,Ft,rh,KN,KO⟩) < (aM.id ⟨id,nm,rk,se,gQ,am,dz,aP⟩) from by show¬(yv < id);omega)];rfl)];rfl):l:=h
theorem aGR (h:l:=by rw [HR av.out hy.out,az,cr.out,decide_eq_true (show (aM.id ⟨yv,KM,vc,ys,Ft,rh,KN,KO⟩) < (aM.id ⟨id,nm,rk,se,gQ,am,dz,aP⟩) from hid)];rfl):l:=h
theorem ZH (h:l:=by rw [List.length_take];omega):l:=h
theorem aGw (h:l:=by rw [Bs (q:=⟨qr,cQ,true⟩) hf.out];simp only [jH.out];rfl):l:=h
theorem aGV (h:l:=by rw [ByteArray.toList_eq,ByteArray.toList_eq];exact λe=>h (Ee e)):l:=h
theorem aGX (h:l:=by rw [Bs (q:=⟨qr,cQ,false⟩) hf.out];simp only [jH.out];rfl):l:=h
theorem Zz (h:l:=by unfold maxLen;simp;omega):l:=h
theorem wa (h:l:=by simp [vS,av.out,az]):l:=h
def Tryz.agA:Go.Shelf.Ren:=⟨λ| 156=>249 | 165=>298 | 166=>299 | 169=>300 | 240=>324 | 241=>325 | 276=>337 | 277=>338 | n=>n,λ| 31=>57 | 9=>9 | 3=>3 | 4=>4 | 0=>0 | 20=>20 | 72=>285 | 76=>258 | 70=>283 | 37=>35 | 75=>257 | 127=>302 | 164=>318 | 5=>5 | 80=>135 | n=>n,λ| n=>n⟩
theorem Tryz.awU:Go.Proofs.Lays.n156 Tryz.prog Tryz.agA:={
  mixed:=PV
  f156:=Tryz.func249.trans (Xc some PV)
  f165:=Tryz.func298.trans (Xc some PV)
  f166:=Tryz.func299.trans (Xc some PV)
  f169:=Tryz.func300.trans (Xc some PV)
  f240:=Tryz.func324.trans (Xc some PV)
  f241:=Tryz.func325.trans (Xc some PV)
  f276:=Tryz.func337.trans (Xc some PV)
  f277:=Tryz.func338.trans (Xc some PV)
  t0:=Tryz.underlying0
  a0:=Tryz.isAgg0
  z0:=Tryz.sizeOf0
  v0:=Tryz.zeroValue0
  t3:=Tryz.underlying3
  a3:=Tryz.isAgg3
  z3:=Tryz.sizeOf3
  v3:=Tryz.zeroValue3
  t4:=Tryz.underlying4
  a4:=Tryz.isAgg4
  z4:=Tryz.sizeOf4
  v4:=Tryz.zeroValue4
  t9:=Tryz.underlying9
  a9:=Tryz.isAgg9
  z9:=Tryz.sizeOf9
  v9:=Tryz.zeroValue9
  t20:=Tryz.underlying20
  a20:=Tryz.isAgg20
  z20:=Tryz.sizeOf20
  v20:=Tryz.zeroValue20
  t31:=Tryz.underlying57
  a31:=Tryz.isAgg57
  z31:=Tryz.sizeOf57
  v31:=Tryz.zeroValue57
  t37:=Tryz.underlying35
  a37:=Tryz.isAgg35
  z37:=Tryz.sizeOf35
  v37:=Tryz.zeroValue35
  t70:=Tryz.underlying283
  a70:=Tryz.isAgg283
  z70:=Tryz.sizeOf283
  v70:=Tryz.zeroValue283
  t72:=Tryz.underlying285
  a72:=Tryz.isAgg285
  z72:=Tryz.sizeOf285
  v72:=Tryz.zeroValue285
  t75:=Tryz.underlying257
  a75:=Tryz.isAgg257
  z75:=Tryz.sizeOf257
  v75:=Tryz.zeroValue257
  t76:=Tryz.underlying258
  a76:=Tryz.isAgg258
  z76:=Tryz.sizeOf258
  v76:=Tryz.zeroValue258
  t127:=Tryz.underlying302
  a127:=Tryz.isAgg302
  z127:=Tryz.sizeOf302
  v127:=Tryz.zeroValue302
  t164:=Tryz.underlying318
  a164:=Tryz.isAgg318
  z164:=Tryz.sizeOf318
  v164:=Tryz.zeroValue318}
def Tryz.awX:Go.Shelf.Ren:=⟨λ| 171=>70 | 243=>128 | 246=>208 | 283=>277 | 284=>278 | 285=>279 | 286=>280 | 129=>311 | 317=>310 | 318=>312 | 319=>313 | 320=>314 | 337=>332 | 338=>333 | n=>n,λ| 3=>3 | 9=>9 | 2=>2 | 4=>4 | 171=>269 | 0=>0 | 53=>93 | 37=>35 | 5=>5 | 173=>272 | 212=>290 | 51=>291 | 20=>20 | 213=>292 | 46=>191 | 232=>323 | 233=>324 | n=>n,λ| 17=>2 | 18=>7 | 19=>8 | n=>n⟩
theorem Tryz.awW:Go.Proofs.LaysM.n171 Tryz.prog Tryz.awX:={
  mixed:=PV
  f129:=Tryz.func311.trans (Xc some PV)
  f171:=Tryz.func70.trans (Xc some PV)
  f243:=Tryz.func128.trans (Xc some PV)
  f246:=Tryz.func208.trans (Xc some PV)
  f283:=Tryz.func277.trans (Xc some PV)
  f284:=Tryz.func278.trans (Xc some PV)
  f285:=Tryz.func279.trans (Xc some PV)
  f286:=Tryz.func280.trans (Xc some PV)
  f317:=Tryz.func310.trans (Xc some PV)
  f318:=Tryz.func312.trans (Xc some PV)
  f319:=Tryz.func313.trans (Xc some PV)
  f320:=Tryz.func314.trans (Xc some PV)
  f337:=Tryz.func332.trans (Xc some PV)
  f338:=Tryz.func333.trans (Xc some PV)
  t0:=Tryz.underlying0
  a0:=Tryz.isAgg0
  z0:=Tryz.sizeOf0
  v0:=Tryz.zeroValue0
  t2:=Tryz.underlying2
  a2:=Tryz.isAgg2
  z2:=Tryz.sizeOf2
  v2:=Tryz.zeroValue2
  t3:=Tryz.underlying3
  a3:=Tryz.isAgg3
  z3:=Tryz.sizeOf3
  v3:=Tryz.zeroValue3
  t4:=Tryz.underlying4
  a4:=Tryz.isAgg4
  z4:=Tryz.sizeOf4
  v4:=Tryz.zeroValue4
  t5:=Tryz.underlying5
  a5:=Tryz.isAgg5
  z5:=Tryz.sizeOf5
  v5:=Tryz.zeroValue5
  t9:=Tryz.underlying9
  a9:=Tryz.isAgg9
  z9:=Tryz.sizeOf9
  v9:=Tryz.zeroValue9
  t20:=Tryz.underlying20
  a20:=Tryz.isAgg20
  z20:=Tryz.sizeOf20
  v20:=Tryz.zeroValue20
  t37:=Tryz.underlying35
  a37:=Tryz.isAgg35
  z37:=Tryz.sizeOf35
  v37:=Tryz.zeroValue35
  t46:=Tryz.underlying191
  a46:=Tryz.isAgg191
  z46:=Tryz.sizeOf191
  v46:=Tryz.zeroValue191
  t51:=Tryz.underlying291
  a51:=Tryz.isAgg291
  z51:=Tryz.sizeOf291
  v51:=Tryz.zeroValue291
  t53:=Tryz.underlying93
  a53:=Tryz.isAgg93
  z53:=Tryz.sizeOf93
  v53:=Tryz.zeroValue93
  t171:=Tryz.underlying269
  a171:=Tryz.isAgg269
  z171:=Tryz.sizeOf269
  v171:=Tryz.zeroValue269
  t173:=Tryz.underlying272
  a173:=Tryz.isAgg272
  z173:=Tryz.sizeOf272
  v173:=Tryz.zeroValue272
  t212:=Tryz.underlying290
  a212:=Tryz.isAgg290
  z212:=Tryz.sizeOf290
  v212:=Tryz.zeroValue290
  t213:=Tryz.underlying292
  a213:=Tryz.isAgg292
  z213:=Tryz.sizeOf292
  t232:=Tryz.underlying323
  a232:=Tryz.isAgg323
  z232:=Tryz.sizeOf323
  v232:=Tryz.zeroValue323
  t233:=Tryz.underlying324
  a233:=Tryz.isAgg324
  z233:=Tryz.sizeOf324
  v233:=Tryz.zeroValue324
  g17:=PV
  g18:=PV
  g19:=PV
  i0:=PV
  i2:=PV
  i3:=PV
  i4:=PV
  i5:=PV
  i9:=PV
  i20:=PV
  i37:=PV
  i46:=PV
  i51:=PV
  i53:=PV
  i171:=PV
  i173:=PV
  i212:=PV
  i232:=PV
  i233:=PV
  m17:=PV
  m18:=PV
  m19:=by kernel_rfl}
theorem Tryz.strconv_Itoa (n:Int) (h0:-9223372036854775808<=n) (h1:n<=9223372036854775807) (w:World) (aud:Lib.TabIs Tryz.prog w "internal/strconv.uint64pow10" .u64 Lib.pow10Tab):
    Rd 70 #[n] w λe ah=>e= .returned (.string ⟨(Lib.itoa n).toArray⟩)/\∃k os,ah= grow (w.drewN k) os:=Any.strconv_Itoa Tryz.awW n h0 h1 w aud
def Tryz.awV:Go.Shelf.Ren:=⟨λ| 172=>247 | 244=>296 | 245=>297 | 247=>319 | 279=>320 | 280=>321 | 281=>322 | 282=>323 | 287=>334 | 316=>335 | 171=>70 | 205=>336 | 321=>343 | 322=>344 | 243=>128 | 246=>208 | 283=>277 | 284=>278 | 285=>279 | 286=>280 | 129=>311 | 317=>310 | 318=>312 | 319=>313 | 320=>314 | 337=>332 | 338=>333 | n=>n,λ| 9=>9 | 3=>3 | 75=>257 | 76=>258 | 4=>4 | 5=>5 | 167=>296 | 37=>35 | 0=>0 | 85=>297 | 2=>2 | 168=>299 | 53=>93 | 175=>313 | 46=>191 | 210=>316 | 127=>302 | 145=>328 | 143=>326 | 21=>21 | 171=>269 | 173=>272 | 212=>290 | 51=>291 | 20=>20 | 213=>292 | 232=>323 | 233=>324 | 80=>135 | n=>n,λ| 15=>5 | 16=>6 | 17=>2 | 18=>7 | 19=>8 | n=>n⟩
theorem Tryz.agB:Go.Proofs.LaysC.n172 Tryz.prog Tryz.awV:={
  mixed:=PV
  f129:=Tryz.func311.trans (Xc some PV)
  f171:=Tryz.func70.trans (Xc some PV)
  f172:=Tryz.func247.trans (Xc some PV)
  f205:=Tryz.func336.trans (Xc some PV)
  f243:=Tryz.func128.trans (Xc some PV)
  f244:=Tryz.func296.trans (Xc some PV)
  f245:=Tryz.func297.trans (Xc some PV)
  f246:=Tryz.func208.trans (Xc some PV)
  f247:=Tryz.func319.trans (Xc some PV)
  f279:=Tryz.func320.trans (Xc some PV)
  f280:=Tryz.func321.trans (Xc some PV)
  f281:=Tryz.func322.trans (Xc some PV)
  f282:=Tryz.func323.trans (Xc some PV)
  f283:=Tryz.func277.trans (Xc some PV)
  f284:=Tryz.func278.trans (Xc some PV)
  f285:=Tryz.func279.trans (Xc some PV)
  f286:=Tryz.func280.trans (Xc some PV)
  f287:=Tryz.func334.trans (Xc some PV)
  f316:=Tryz.func335.trans (Xc some PV)
  f317:=Tryz.func310.trans (Xc some PV)
  f318:=Tryz.func312.trans (Xc some PV)
  f319:=Tryz.func313.trans (Xc some PV)
  f320:=Tryz.func314.trans (Xc some PV)
  f321:=Tryz.func343.trans (Xc some PV)
  f322:=Tryz.func344.trans (Xc some PV)
  f337:=Tryz.func332.trans (Xc some PV)
  f338:=Tryz.func333.trans (Xc some PV)
  t0:=Tryz.underlying0
  a0:=Tryz.isAgg0
  z0:=Tryz.sizeOf0
  v0:=Tryz.zeroValue0
  t2:=Tryz.underlying2
  a2:=Tryz.isAgg2
  z2:=Tryz.sizeOf2
  v2:=Tryz.zeroValue2
  t3:=Tryz.underlying3
  a3:=Tryz.isAgg3
  z3:=Tryz.sizeOf3
  v3:=Tryz.zeroValue3
  t4:=Tryz.underlying4
  a4:=Tryz.isAgg4
  z4:=Tryz.sizeOf4
  v4:=Tryz.zeroValue4
  t5:=Tryz.underlying5
  a5:=Tryz.isAgg5
  z5:=Tryz.sizeOf5
  v5:=Tryz.zeroValue5
  t9:=Tryz.underlying9
  a9:=Tryz.isAgg9
  z9:=Tryz.sizeOf9
  v9:=Tryz.zeroValue9
  t20:=Tryz.underlying20
  a20:=Tryz.isAgg20
  z20:=Tryz.sizeOf20
  v20:=Tryz.zeroValue20
  t21:=Tryz.underlying21
  a21:=Tryz.isAgg21
  z21:=Tryz.sizeOf21
  v21:=Tryz.zeroValue21
  t37:=Tryz.underlying35
  a37:=Tryz.isAgg35
  z37:=Tryz.sizeOf35
  v37:=Tryz.zeroValue35
  t46:=Tryz.underlying191
  a46:=Tryz.isAgg191
  z46:=Tryz.sizeOf191
  v46:=Tryz.zeroValue191
  t51:=Tryz.underlying291
  a51:=Tryz.isAgg291
  z51:=Tryz.sizeOf291
  v51:=Tryz.zeroValue291
  t53:=Tryz.underlying93
  a53:=Tryz.isAgg93
  z53:=Tryz.sizeOf93
  v53:=Tryz.zeroValue93
  t75:=Tryz.underlying257
  a75:=Tryz.isAgg257
  z75:=Tryz.sizeOf257
  v75:=Tryz.zeroValue257
  t76:=Tryz.underlying258
  a76:=Tryz.isAgg258
  z76:=Tryz.sizeOf258
  v76:=Tryz.zeroValue258
  t85:=Tryz.underlying297
  a85:=Tryz.isAgg297
  z85:=Tryz.sizeOf297
  v85:=Tryz.zeroValue297
  t127:=Tryz.underlying302
  a127:=Tryz.isAgg302
  z127:=Tryz.sizeOf302
  v127:=Tryz.zeroValue302
  t143:=Tryz.underlying326
  a143:=Tryz.isAgg326
  z143:=Tryz.sizeOf326
  v143:=Tryz.zeroValue326
  t145:=Tryz.underlying328
  a145:=Tryz.isAgg328
  z145:=Tryz.sizeOf328
  v145:=Tryz.zeroValue328
  t167:=Tryz.underlying296
  a167:=Tryz.isAgg296
  z167:=Tryz.sizeOf296
  v167:=Tryz.zeroValue296
  t168:=Tryz.underlying299
  a168:=Tryz.isAgg299
  z168:=Tryz.sizeOf299
  v168:=Tryz.zeroValue299
  t171:=Tryz.underlying269
  a171:=Tryz.isAgg269
  z171:=Tryz.sizeOf269
  v171:=Tryz.zeroValue269
  t173:=Tryz.underlying272
  a173:=Tryz.isAgg272
  z173:=Tryz.sizeOf272
  v173:=Tryz.zeroValue272
  t175:=Tryz.underlying313
  a175:=Tryz.isAgg313
  z175:=Tryz.sizeOf313
  v175:=Tryz.zeroValue313
  t210:=Tryz.underlying316
  a210:=Tryz.isAgg316
  z210:=Tryz.sizeOf316
  v210:=Tryz.zeroValue316
  t212:=Tryz.underlying290
  a212:=Tryz.isAgg290
  z212:=Tryz.sizeOf290
  v212:=Tryz.zeroValue290
  t213:=Tryz.underlying292
  a213:=Tryz.isAgg292
  z213:=Tryz.sizeOf292
  t232:=Tryz.underlying323
  a232:=Tryz.isAgg323
  z232:=Tryz.sizeOf323
  v232:=Tryz.zeroValue323
  t233:=Tryz.underlying324
  a233:=Tryz.isAgg324
  z233:=Tryz.sizeOf324
  v233:=Tryz.zeroValue324
  g15:=PV
  g16:=PV
  g17:=PV
  g18:=PV
  g19:=PV
  t80:=Tryz.underlying135
  a80:=Tryz.isAgg135
  z80:=Tryz.sizeOf135
  v80:=Tryz.zeroValue135
  i0:=PV
  i2:=PV
  i3:=PV
  i4:=PV
  i5:=PV
  i9:=PV
  i20:=PV
  i21:=PV
  i37:=PV
  i46:=PV
  i51:=PV
  i53:=PV
  i75:=PV
  i76:=PV
  i80:=PV
  i85:=PV
  i127:=PV
  i143:=PV
  i145:=PV
  i167:=PV
  i168:=PV
  i171:=PV
  i173:=PV
  i175:=PV
  i210:=PV
  i212:=PV
  i232:=PV
  i233:=PV
  m15:=PV
  m16:=PV
  m17:=PV
  m18:=PV
  m19:=PV
  c0:=PV
  c2:=PV
  c3:=PV
  c4:=PV
  c5:=PV
  c9:=PV
  c20:=PV
  c21:=PV
  c37:=PV
  c46:=PV
  c51:=PV
  c53:=PV
  c75:=PV
  c76:=PV
  c80:=PV
  c85:=PV
  c127:=PV
  c143:=PV
  c145:=PV
  c167:=PV
  c168:=PV
  c171:=PV
  c173:=PV
  c175:=PV
  c210:=PV
  c212:=PV
  c213:=PV
  c232:=PV
  c233:=by kernel_rfl}
theorem Tryz.strconv_Atoi_ok (s:VU) (atz:s.size<=9223372036854775806) (v:Int) (h:Lib.atoiAll s.data.toList= .ok v) (w:World):
    Rd 247 #[s] w λe ah=>e= .returned (.tuple #[v,.nilIface])/\(ah= w\/∃t,ah= Lib.bytesWorld w 5 t):=Any.strconv_Atoi_ok Tryz.agB s atz v h w
theorem Tryz.strconv_Atoi_syntax_var (s:VU) (atv:s.size<=281474976710656) (h:Lib.atoiAll s.data.toList= Lib.atoiAll []) (BC:TypeId) (p:Value) (w:World) (NJ:w.var? Tryz.prog "strconv.ErrSyntax" =some #[.iface BC p]):
    Rd 247 #[s] w λe ah=>∃N,e= .returned (.tuple #[(0:Int),.iface 299 (.pointer (some ⟨N,0,none⟩))])/\w.heap.size<=N/\ah.heap[N]? =some (.cells #[.string ⟨#[65,116,111,105]⟩,s,.iface BC p] 316 (0,0))/\Below w w ah:=Any.strconv_Atoi_syntax_var Tryz.agB s atv h BC p w NJ
def Tryz.awT:Go.Shelf.Ren:=⟨λ| 146=>66 | 221=>126 | 268=>206 | 138=>207 | 143=>167 | 195=>274 | 197=>275 | 218=>276 | 219=>246 | 260=>309 | 217=>292 | 225=>293 | 224=>294 | 267=>295 | 266=>317 | 314=>318 | n=>n,λ| 9=>9 | 31=>57 | 3=>3 | 4=>4 | 0=>0 | 105=>266 | 21=>21 | 5=>5 | 46=>191 | 119=>308 | 139=>311 | 138=>310 | 146=>294 | 51=>291 | n=>n,λ| 1=>1 | 3=>3 | 4=>4 | n=>n⟩
theorem Tryz.awS:Go.Proofs.Lays.n146 Tryz.prog Tryz.awT:={
  mixed:=PV
  f138:=Tryz.func207.trans (Xc some PV)
  f143:=Tryz.func167.trans (Xc some PV)
  f146:=Tryz.func66.trans (Xc some PV)
  f195:=Tryz.func274.trans (Xc some PV)
  f197:=Tryz.func275.trans (Xc some PV)
  f217:=Tryz.func292.trans (Xc some PV)
  f218:=Tryz.func276.trans (Xc some PV)
  f219:=Tryz.func246.trans (Xc some PV)
  f221:=Tryz.func126.trans (Xc some PV)
  f224:=Tryz.func294.trans (Xc some PV)
  f225:=Tryz.func293.trans (Xc some PV)
  f260:=Tryz.func309.trans (Xc some PV)
  f266:=Tryz.func317.trans (Xc some PV)
  f267:=Tryz.func295.trans (Xc some PV)
  f268:=Tryz.func206.trans (Xc some PV)
  f314:=Tryz.func318.trans (Xc some PV)
  t0:=Tryz.underlying0
  a0:=Tryz.isAgg0
  z0:=Tryz.sizeOf0
  v0:=Tryz.zeroValue0
  t3:=Tryz.underlying3
  a3:=Tryz.isAgg3
  z3:=Tryz.sizeOf3
  v3:=Tryz.zeroValue3
  t4:=Tryz.underlying4
  a4:=Tryz.isAgg4
  z4:=Tryz.sizeOf4
  v4:=Tryz.zeroValue4
  t5:=Tryz.underlying5
  a5:=Tryz.isAgg5
  z5:=Tryz.sizeOf5
  v5:=Tryz.zeroValue5
  t9:=Tryz.underlying9
  a9:=Tryz.isAgg9
  z9:=Tryz.sizeOf9
  v9:=Tryz.zeroValue9
  t21:=Tryz.underlying21
  a21:=Tryz.isAgg21
  z21:=Tryz.sizeOf21
  v21:=Tryz.zeroValue21
  t31:=Tryz.underlying57
  a31:=Tryz.isAgg57
  z31:=Tryz.sizeOf57
  v31:=Tryz.zeroValue57
  t46:=Tryz.underlying191
  a46:=Tryz.isAgg191
  z46:=Tryz.sizeOf191
  v46:=Tryz.zeroValue191
  t51:=Tryz.underlying291
  a51:=Tryz.isAgg291
  z51:=Tryz.sizeOf291
  v51:=Tryz.zeroValue291
  t105:=Tryz.underlying266
  a105:=Tryz.isAgg266
  z105:=Tryz.sizeOf266
  v105:=Tryz.zeroValue266
  t119:=Tryz.underlying308
  a119:=Tryz.isAgg308
  z119:=Tryz.sizeOf308
  t138:=Tryz.underlying310
  a138:=Tryz.isAgg310
  z138:=Tryz.sizeOf310
  v138:=Tryz.zeroValue310
  t139:=Tryz.underlying311
  a139:=Tryz.isAgg311
  z139:=Tryz.sizeOf311
  v139:=Tryz.zeroValue311
  t146:=Tryz.underlying294
  a146:=Tryz.isAgg294
  z146:=Tryz.sizeOf294
  v146:=Tryz.zeroValue294
  g1:=PV
  g3:=PV
  g4:=by kernel_rfl}
theorem Tryz.strings_Split (s sep:VU) (m:Int) (w:World) (aP:s.size < 4294967281) (hm:w.cell? ⟨1,0,none⟩ =some (.int .i64 m)) (h1:1<=sep.size):
    Rd 66 #[s,sep] w λe ah=>
      e= .returned (.slice w (Lib.countB s sep + 1) (Lib.countB s sep + 1))/\ah= w.alloc (.cells ((Lib.splitB sep 0 (Lib.countB s sep) s).map Value.string).toArray 9):=Any.strings_Split Tryz.awS PV s sep m w aP hm h1
def Tryz.awZ:Go.Shelf.Ren:=⟨λ| 10=>329 | 6=>340 | n=>n,λ| 22=>38 | 23=>3 | 25=>97 | 3=>3 | 4=>4 | 0=>0 | n=>n,λ| n=>n⟩
theorem Tryz.awY:Go.Proofs.SlLaysH.n10 Tryz.prog Tryz.awZ:={
  mixed:=PV
  f6:=⟨Tryz.f340.name,by decide,Tryz.func340.trans (Xc some PV)⟩
  f10:=⟨Tryz.f329.name,by decide,Tryz.func329.trans (Xc some PV)⟩
  t0:=Tryz.underlying0
  a0:=Tryz.isAgg0
  z0:=Tryz.sizeOf0
  v0:=Tryz.zeroValue0
  t3:=Tryz.underlying3
  a3:=Tryz.isAgg3
  z3:=Tryz.sizeOf3
  v3:=Tryz.zeroValue3
  t4:=Tryz.underlying4
  a4:=Tryz.isAgg4
  z4:=Tryz.sizeOf4
  v4:=Tryz.zeroValue4
  t22:=Tryz.underlying38
  a22:=Tryz.isAgg38
  z22:=Tryz.sizeOf38
  v22:=Tryz.zeroValue38
  a23:=Tryz.isAgg3
  z23:=Tryz.sizeOf3
  t25:=Tryz.underlying97
  a25:=Tryz.isAgg97
  z25:=Tryz.sizeOf97
  v25:=Tryz.zeroValue97}
theorem Tryz.slices_DeleteFunc {α:Type} [Inhabited α] (enc:α->Value) (aV:OneCell enc) (p:α->Bool) (g:Nat) (lx:Array Value) (Mv:∀args w,(callFunc g args).run Tryz.prog w= .ok (.enter g args) w) (Pk:α) (v23:∀w,(zeroValue 3).run Tryz.prog w= .ok (enc Pk) w) (IV off cap:Nat) (d:Array α) (w:World) (aS:PredAt Tryz.prog g lx enc p w) (aFR:PredOver Tryz.prog g lx enc p IV off d.size w) (arV:Holds enc w IV off d) (gd:d.size<=9223372036854775807) (sK:d.size<=cap):
    Rd 329 #[.slice (some ⟨IV,off,none⟩) d.size cap,.func (.func g) #[] lx] w λe ah=>e= .returned (.slice (some ⟨IV,off,none⟩) (d.toList.filter λx=>!p x).length cap)/\∃q,ah= putRow enc (Sort.ahead w q) IV off ((d.toList.filter λx=>!p x) ++ List.replicate (d.size - (d.toList.filter λx=>!p x).length) Pk).toArray:=AnyE.slices_DeleteFunc Tryz.awY enc aV p g lx Mv Pk v23 IV off cap d w aS aFR arV gd sK
end Go.Proofs
namespace Go.Proofs.YtlaaemmmbodaaaaGreatDoor
def pf (c:UInt8):Bool:=decide (48<=c.toNat) && decide (c.toNat<=57)
def mJ:List UInt8->Nat->Nat
 | [],a=>a
 | c ::l,a=>mJ l (10 * a + (c.toNat - 48))
theorem Vh:∀(l m:List UInt8) (a:Nat),mJ (l ++ m) a= mJ m (mJ l a)
 | [],_,_=>rfl
 | c ::l,m,a=>by simp only [YL,mJ];exact Vh l m _
theorem Qz:∀(l:List UInt8) (a:Nat),(∀c ∈ l,pf c= true)->mJ l a < (a + 1) * 10 ^ l.length
 | [],a,_=>by simp [mJ]
 | c ::l,a,h=>by
  have aN:=h c Wn
  simp only [pf,Xa,Xf] at aN
  have eR:=Qz l (10 * a + (c.toNat - 48)) (λx av=>h x Ye);have h2:(10 * a + (c.toNat - 48) + 1) * 10 ^ l.length<=((a + 1) * 10) * 10 ^ l.length:=ZA _ KK
  have h3:((a + 1) * 10) * 10 ^ l.length= (a + 1) * 10 ^ (l.length + 1):=by rw [Nat.pow_succ,Nat.mul_assoc,Nat.mul_comm 10]
  simp only [mJ,YK]
  omega
theorem Gn (u:Nat):mJ (Lib.decDigits u) 0= u/\(∀c ∈ Lib.decDigits u,pf c= true)/\Lib.decDigits u≠[]:=by
 rw [Lib.decDigits]
 have one:∀d,d < 10->(UInt8.ofNat (48 + d)).toNat= 48 + d:=λd cr=>by
  rw [UInt8.toNat_ofNat'];omega
 split
 .rename_i h
  refine⟨by simp only [mJ];rw [one u h];omega,λc aN=>?_,by simp⟩
  simp only [List.mem_singleton] at aN
  subst aN
  simp only [pf,one u h,Xa,Xf];omega
 .rename_i h
  obtain⟨h1,h2,h3⟩:=Gn (u / 10)
  have cr:u % 10 < 10:=Nat.mod_lt _ KK
  refine⟨by rw [Vh,h1];simp only [mJ];rw [one _ cr];omega,λc aN=>?_,by simp⟩
  simp only [YC,List.mem_singleton] at aN
  rcases aN with aN | aN
  .exact h2 c aN
  .subst aN
   simp only [pf,one _ cr,Xa,Xf];omega
termination_by u
decreasing_by omega
def By:List UInt8->Bool
 | c ::_ ::_=>c == 45
 | _=>false
def pC (l:List UInt8):List UInt8:=if By l then l.tail else l
def jh (l:List UInt8):Int:=if By l then -(mJ (pC l) 0:Int) else (mJ (pC l) 0:Int)
def gf (s:ByteArray):Bool:=decide (1<=(pC s.data.toList).length) && (decide ((pC s.data.toList).length<=6) && ((pC s.data.toList).all pf && decide (eW (jh s.data.toList)= s)))
def qZ (s:ByteArray):Value:=if gf s then .tuple #[.int .i64 (jh s.data.toList),.bool true] else .tuple #[.int .i64 0,.bool false]
theorem aGY (h6:(pC s.data.toList).length<=6) (cr:(pC s.data.toList).all pf= true):-999999<=jh s.data.toList/\jh s.data.toList<=999999:=by
 have h:=Qz (pC s.data.toList) 0 (λc aN=>YN.1 cr c aN);have h2:10 ^ (pC s.data.toList).length<=10 ^ 6:=Nat.pow_le_pow_right KK h6
 unfold jh;split <;> omega
theorem ayx (v:Int) (h0:-999999<=v) (h1:v<=999999):gf (eW v)= true/\jh (eW v).data.toList= v:=by
 have aT:(eW v).data.toList= Lib.itoa v:=rfl
 have key:pC (Lib.itoa v)= Lib.decDigits v.natAbs/\By (Lib.itoa v)= decide (v < 0):=by
  unfold Lib.itoa
  split
  .rename_i h
   obtain⟨_,_,h3⟩:=Gn v.natAbs
   obtain⟨c,l,lf⟩:=List.exists_cons_of_ne_nil h3
   rw [lf]
   exact⟨by simp [pC,By],by simp [By,h]⟩
  .rename_i h
   have az:v.toNat= v.natAbs:=KK
   rw [az]
   obtain⟨_,h2,h3⟩:=Gn v.natAbs
   obtain⟨c,l,lf⟩:=List.exists_cons_of_ne_nil h3
   have aN:=h2 c (by rw [lf];simp)
   simp only [pf,Xa,Xf] at aN
   have aP:By (c ::l)= false:=by
    cases l with
    | nil=>rfl
    | cons d l=>
     show (c == 45)= false
     rw [Xb]
     intro e;subst e;simp at aN
   rw [lf]
   exact⟨by simp [pC,aP],by rw [aP];exact (Xe h).symm⟩
 obtain⟨eU,cL⟩:=key
 obtain⟨d1,d2,d3⟩:=Gn v.natAbs
 have bq:jh (Lib.itoa v)= v:=by
  rw [jh,eU,cL,d1]
  by_cases h:v < 0
  .rw [Xh h];simp;omega
  .rw [Xe h];simp;omega
 refine⟨?_,by rw [aT];exact bq⟩
 have e6:=Dj 5 v.natAbs KK;have e1:1<=(Lib.decDigits v.natAbs).length:=List.length_pos_iff.2 d3
 rw [gf,aT,eU,bq,Xh e1,Xh e6,YN.2 d2]
 simp
theorem aGd (h:gf s= true):s= eW (jh s.data.toList)∧-999999<=jh s.data.toList/\jh s.data.toList<=999999:=by
 simp only [gf,Xa,Xf] at h
 exact⟨h.2.2.2.symm,aGY h.2.1 h.2.2.1⟩
theorem aIM {a b:VU} (h:a≠b):(a.toList == b.toList)= false:=Xb.2 aGV
theorem KC (t:VU) (ax:k < t.size):t.data.toList.take (k + 1)= t.data.toList.take k ++ [t[k]]:=by
 have h:k < t.data.toList.length:=by simpa using ax
 rw [Yu h]
 congr 1
theorem ada (t:VU) (ax:k < t.size):mJ (t.data.toList.take (k + 1)) 0= 10 * mJ (t.data.toList.take k) 0 + (t[k].toNat - 48):=by
 rw [KC t ax,Vh];rfl
theorem axd (s:VU):(s.extract 1 s.size).data.toList= s.data.toList.drop 1:=by
 rw [ByteArray.data_extract,Array.toList_extract]
 simp
 rw [YO Wn]
theorem ajm (s:VU) (h:1 < s.size):By s.data.toList= (s[0] == 45):=by
 obtain⟨⟨l⟩⟩:=s
 match l with
 | []=>simp [ByteArray.size] at h
 | [c]=>simp [ByteArray.size] at h
 | c ::d ::l=>rfl
theorem aAT (s:VU) (h:¬1 < s.size):By s.data.toList= false:=by
 obtain⟨⟨l⟩⟩:=s
 match l with
 | []=>rfl
 | [c]=>rfl
 | c ::d ::l=>simp [ByteArray.size] at h
theorem akp (h:l:=by
 have hlen:(pC s.data.toList).length= s.size:=by rw [bX.o];simp
 have FO:=I hlen;clear hlen
 by_cases bu:1<=s.size/\s.size<=6
 case neg=>
  have jl:fB (s.size:Int) 1 6= false:=by
   cases aN:fB (s.size:Int) 1 6 with
   | false=>rfl
   | true=>simp only [fB,Xa,Xf] at aN;omega
  have iu:=I jl;clear jl
  go_wp2_with fail
  refine (lO _ iu.o _).mono ?_
  rintro e w0 ⟨rfl,h0⟩
  rw [h0]
  clear h0 w0
  go_wp2
  go_ret2
  have ha:gf s= false:=by
   cases aN:gf s with
   | false=>rfl
   | true=>simp only [gf,FO.o,Xa,Xf] at aN;omega
  exact⟨by rw [qZ,ha];rfl,Wt _ _⟩
 obtain⟨gR,aFT⟩:=bu
 have jl:fB (s.size:Int) 1 6= true:=by simp only [fB,Xa,Xf];omega
 have iu:=I jl;clear jl
 go_wp2_with fail
 refine (lO _ iu.o _).mono ?_
 rintro e w0 ⟨rfl,h0⟩
 rw [h0]
 clear h0 w0
 go_wp2
 go_loop [5,6] (λn i=>∃k:Nat,k<=s.size/\i= .int .i64 k/\n= .int .i64 (mJ (s.data.toList.take k) 0:Nat)/\(∀c ∈ s.data.toList.take k,pf c= true)) (λ_ i=>s.size - (intOf i).toNat)
 case atStart=>exact⟨0,Xd _,rfl,rfl,by simp⟩
 case round=>
  obtain⟨k,ax,rfl,rfl,cr⟩:=hrel
  have aB:=Qz (s.data.toList.take k) 0 cr;have aQ:10 ^ (s.data.toList.take k).length<=10 ^ 6:=Nat.pow_le_pow_right KK ZH
  have bG:mJ (s.data.toList.take k) 0 < 1000000:=KK
  clear aB aQ;have lC:=I cr;clear cr
  by_cases bC:k < s.size
  .have nu:s[k].toNat < 256:=s[k].toNat_lt
   by_cases h1:s[k].toNat < 48
   case pos=>
    go_wp2
    go_ret2
    have ha:gf s= false:=by
     cases aN:gf s with
     | false=>rfl
     | true=>
      simp only [gf,bX.o,Xa,Xf,YN] at aN
      have av:=aN.2.2.1 s[k] (List.mem_of_mem_take (i:=k + 1) (by rw [KC s bC];simp))
      simp only [pf,Xa,Xf] at av;omega
    exact⟨by rw [qZ,ha];rfl,Wt _ _⟩
   by_cases h2:57 < s[k].toNat
   case pos=>
    go_wp2
    go_ret2
    have ha:gf s= false:=by
     cases aN:gf s with
     | false=>rfl
     | true=>
      simp only [gf,bX.o,Xa,Xf,YN] at aN
      have av:=aN.2.2.1 s[k] (List.mem_of_mem_take (i:=k + 1) (by rw [KC s bC];simp))
      simp only [pf,Xa,Xf] at av;omega
    exact⟨by rw [qZ,ha];rfl,Wt _ _⟩
   have sO:∀c ∈ s.data.toList.take (k + 1),pf c= true:=λc aN=>by
    rw [KC s bC] at aN
    simp only [YC,List.mem_singleton] at aN
    rcases aN with aN | aN
    .exact lC.o c aN
    .subst aN;simp only [pf,Xa,Xf];omega
   have px:=ada s bC;have gj:=I sO;have Um:=I px;clear sO px
   go_wp2
   go_round
   case rel=>exact⟨k + 1,by omega,by go_num,by rw [Um.o];(try rfl);congr 1;omega,gj.o⟩
   case measure=>simp [intOf];omega
  .obtain rfl:k= s.size:=KK
   have my:(pC s.data.toList).all pf= true:=by
    rw [bX.o,YN]
    have h:=lC.o
    rwa [YO Wn] at h
   have bq:jh s.data.toList= (mJ (s.data.toList.take s.size) 0:Nat):=by
    rw [jh,fL.o,bX.o,YO Wn];rfl
   have lY:=aGY (s:=s) (by rw [FO.o];exact aFT) my
   rw [bq] at lY
   have Tw:=I my;have FR:=I bq;clear my bq
   by_cases he:eW ((mJ (s.data.toList.take s.size) 0:Nat))= s
   .have Jt:((eW ((mJ (s.data.toList.take s.size) 0:Nat))).toList == s.toList)= true:=Xx.2 (by rw [he])
    have fl:=I he;clear he
    go_wp2_with fail
    refine (py _ KK KK _).mono ?_
    rintro e bm ⟨rfl,bD⟩
    go_wp2
    go_ret2
    have CX:gf s= true:=by simp only [gf,FO.o,Tw.o,FR.o,fl.o];simp;omega
    exact⟨by rw [qZ,CX,FR.o];rfl,bD⟩
   .have Jt:((eW ((mJ (s.data.toList.take s.size) 0:Nat))).toList == s.toList)= false:=aIM he
    have fl:=I he;clear he
    go_wp2_with fail
    refine (py _ KK KK _).mono ?_
    rintro e bm ⟨rfl,bD⟩
    go_wp2
    go_ret2
    have ha:gf s= false:=by
     cases aN:gf s with
     | false=>rfl
     | true=>
      simp only [gf,Xa,Xf,FR.o] at aN
      exact absurd aN.2.2.2 fl.o
    exact⟨by rw [qZ,ha];rfl,bD⟩):l:=h
theorem amX (h:l:=by
 go_wp2
 go_ret2
 have ha:gf s= false:=by
  cases aN:gf s with
  | false=>rfl
  | true=>
   simp only [gf,bX.o,Xa,Xf,YN] at aN
   have av:=aN.2.2.1 t[k] (List.mem_of_mem_take (i:=k + 1) (by rw [KC t bC];simp))
   simp only [pf,Xa,Xf] at av;omega
 exact⟨by rw [qZ,ha];rfl,Wt _ _⟩):l:=h
theorem awr (s:VU) (aP:s.size<=maxLen) (w:World):Rd 194 #[s] w λe ah=>e= .returned (qZ s)/\Below w w ah:=by
 unfold maxLen at aP
 by_cases h1:1 < s.size
 case neg=>
  have zE:=aAT s h1;have fL:=I zE;have bX:Hid (pC s.data.toList= s.data.toList):=I (by rw [pC,zE];rfl);clear zE
  go_in
  go_upto_region 4 with fail
  exact akp
 have tI:s[0].toNat < 256:=s[0].toNat_lt
 by_cases h2:s[0]= 45
 case neg=>
  have zE:By s.data.toList= false:=by rw [ajm s h1];exact Xb.2 h2
  have fL:=I zE;have bX:Hid (pC s.data.toList= s.data.toList):=I (by rw [pC,zE];rfl)
  have hB:((s[0].toNat:Int) == 45)= false:=by
   rw [Xb];intro e
   exact h2 (UInt8.toNat_inj.1 (by have:(45:UInt8).toNat= 45:=rfl;omega))
  clear zE
  go_in
  go_upto_region 4 with fail
  clear hB
  exact akp
 have zE:By s.data.toList= true:=by rw [ajm s h1];exact Xx.2 h2
 have fL:=I zE
 have hB:((s[0].toNat:Int) == 45)= true:=by rw [h2];rfl
 go_in
 go_upto_region 4 with fail
 clear hB
 obtain⟨t,cJ⟩ :∃t,t= s.extract 1 s.size:=⟨_,rfl⟩
 rw [<- cJ]
 have bX:Hid (pC s.data.toList= t.data.toList):=I (by rw [pC,zE,cJ,axd];simp)
 have Hh:t.size + 1= s.size:=by rw [cJ,ByteArray.size_extract];omega
 clear zE cJ
 have hlen:(pC s.data.toList).length= t.size:=by rw [bX.o];simp
 have FO:=I hlen;clear hlen
 by_cases bu:1<=t.size/\t.size<=6
 case neg=>
  have jl:fB (t.size:Int) 1 6= false:=by
   cases aN:fB (t.size:Int) 1 6 with
   | false=>rfl
   | true=>simp only [fB,Xa,Xf] at aN;omega
  have iu:=I jl;clear jl
  go_wp2_with fail
  refine (lO _ iu.o _).mono ?_
  rintro e w0 ⟨rfl,h0⟩
  rw [h0]
  clear h0 w0
  go_wp2
  go_ret2
  have ha:gf s= false:=by
   cases aN:gf s with
   | false=>rfl
   | true=>simp only [gf,FO.o,Xa,Xf] at aN;omega
  exact⟨by rw [qZ,ha];rfl,Wt _ _⟩
 obtain⟨gR,aFT⟩:=bu
 have jl:fB (t.size:Int) 1 6= true:=by simp only [fB,Xa,Xf];omega
 have iu:=I jl;clear jl
 go_wp2_with fail
 refine (lO _ iu.o _).mono ?_
 rintro e w0 ⟨rfl,h0⟩
 rw [h0]
 clear h0 w0
 go_wp2
 go_loop [5,6] (λn i=>∃k:Nat,k<=t.size/\i= .int .i64 k/\n= .int .i64 (mJ (t.data.toList.take k) 0:Nat)/\(∀c ∈ t.data.toList.take k,pf c= true)) (λ_ i=>t.size - (intOf i).toNat)
 case atStart=>exact⟨0,Xd _,rfl,rfl,by simp⟩
 case round=>
  obtain⟨k,ax,rfl,rfl,cr⟩:=hrel
  have aB:=Qz (t.data.toList.take k) 0 cr;have aQ:10 ^ (t.data.toList.take k).length<=10 ^ 6:=Nat.pow_le_pow_right KK ZH
  have bG:mJ (t.data.toList.take k) 0 < 1000000:=KK
  clear aB aQ;have lC:=I cr;clear cr
  by_cases bC:k < t.size
  .have nu:t[k].toNat < 256:=t[k].toNat_lt
   by_cases h1:t[k].toNat < 48
   case pos=>
    exact amX
   by_cases h2:57 < t[k].toNat
   case pos=>
    exact amX
   have sO:∀c ∈ t.data.toList.take (k + 1),pf c= true:=λc aN=>by
    rw [KC t bC] at aN
    simp only [YC,List.mem_singleton] at aN
    rcases aN with aN | aN
    .exact lC.o c aN
    .subst aN;simp only [pf,Xa,Xf];omega
   have px:=ada t bC;have gj:=I sO;have Um:=I px;clear sO px
   go_wp2
   go_round
   case rel=>exact⟨k + 1,by omega,by go_num,by rw [Um.o];(try rfl);congr 1;omega,gj.o⟩
   case measure=>simp [intOf];omega
  .obtain rfl:k= t.size:=KK
   have my:(pC s.data.toList).all pf= true:=by
    rw [bX.o,YN]
    have h:=lC.o
    rwa [YO Wn] at h
   have bq:jh s.data.toList= -(mJ (t.data.toList.take t.size) 0:Nat):=by
    rw [jh,fL.o,bX.o,YO Wn];rfl
   have lY:=aGY (s:=s) (by rw [FO.o];exact aFT) my
   rw [bq] at lY
   have Tw:=I my;have FR:=I bq;clear my bq
   by_cases he:eW (-(mJ (t.data.toList.take t.size) 0:Nat))= s
   .have Jt:((eW (-(mJ (t.data.toList.take t.size) 0:Nat))).toList == s.toList)= true:=Xx.2 (by rw [he])
    have fl:=I he;clear he
    go_wp2_with fail
    refine (py _ KK KK _).mono ?_
    rintro e bm ⟨rfl,bD⟩
    go_wp2
    go_ret2
    have CX:gf s= true:=by simp only [gf,FO.o,Tw.o,FR.o,fl.o];simp;omega
    exact⟨by rw [qZ,CX,FR.o];rfl,bD⟩
   .have Jt:((eW (-(mJ (t.data.toList.take t.size) 0:Nat))).toList == s.toList)= false:=aIM he
    have fl:=I he;clear he
    go_wp2_with fail
    refine (py _ KK KK _).mono ?_
    rintro e bm ⟨rfl,bD⟩
    go_wp2
    go_ret2
    have ha:gf s= false:=by
     cases aN:gf s with
     | false=>rfl
     | true=>
      simp only [gf,Xa,Xf,FR.o] at aN
      exact absurd aN.2.2.2 fl.o
    exact⟨by rw [qZ,ha];rfl,bD⟩
theorem VA:Tryz.prog.globalNamed "internal/strconv.uint64pow10" =some 2:=PV
def jV (w:World):Prop:=2 < w.heap.size/\Lib.TabIs Tryz.prog w "internal/strconv.uint64pow10" .u64 Lib.pow10Tab
theorem jV.ad {w:World} (h:jV w) (aB:Below w w ah):jV ah:=⟨YW h.1 aB.size,var?_below aB VA h.1 h.2⟩
theorem Bl (n:Int) (h0:-1000000000 < n) (h1:n < 1000000000) (w:World) (dN:jV w):Rd 70 #[n] w λe ah=>e= .returned (.string (eW n))/\Below w w ah:=by
 refine (Tryz.strconv_Itoa n KK KK w dN.2).mono ?_
 rintro e ah ⟨rfl,k,os,rfl⟩
 exact⟨rfl,rfl,rfl,rfl,by simp [Sort.grow],λi bo=>(show (w.heap ++ os)[i]? =w.heap[i]? from Array.getElem?_append_left bo)⟩
theorem ahC:∀(l:List UInt8) (a:Nat),(∀c ∈ l,pf c= true)->(a + 1) * 10 ^ l.length<=10000000->Lib.parseUint10 a l= .ok (mJ l a)
 | [],a,_,_=>rfl
 | c ::l,a,h,aB=>by
  have aN:=h c Wn
  simp only [pf,Xa,Xf] at aN
  have aS:1<=10 ^ l.length:=Nat.pow_pos KK
  have h3:(a + 1) * 10 ^ (l.length + 1)= (a + 1) * 10 * 10 ^ l.length:=by rw [Nat.pow_succ,Nat.mul_assoc,Nat.mul_comm 10]
  simp only [YK] at aB
  rw [h3] at aB
  have h4:(a * 10 + (c.toNat - 48) + 1) * 10 ^ l.length<=(a + 1) * 10 * 10 ^ l.length:=ZA _ KK;have h5:(a + 1) * 10 * 1<=(a + 1) * 10 * 10 ^ l.length:=Nat.mul_le_mul_left _ aS;have eR:=ahC l (a * 10 + (c.toNat - 48)) (λx av=>h x Ye) KK
  rw [Lib.parseUint10,XX aN,XU KK,XU KK,eR]
  simp only [mJ,Nat.mul_comm 10 a]
theorem apA (v:Int) (h0:-999999<=v) (h1:v<=999999):Lib.atoiAll (eW v).data.toList= .ok v:=by
 show Lib.atoiAll (Lib.itoa v)= .ok v
 have aT:∀u,u < 1000000->Lib.parseMag (Lib.decDigits u)= .ok u:=λu hu=>by
  obtain⟨d1,d2,d3⟩:=Gn u
  have e6:=Dj 5 u KK;have aS:10 ^ (Lib.decDigits u).length<=10 ^ 6:=Nat.pow_le_pow_right KK e6
  rw [Lib.parseMag,XU d3,ahC _ 0 d2 KK,d1]
 unfold Lib.itoa
 split
 .rename_i h
  rw [Lib.atoiAll_minus,aT _ KK]
  simp only [Lib.signed]
  rw [XU KK]
  congr 1;omega
 .rename_i h
  obtain⟨_,d2,d3⟩:=Gn v.toNat
  have gl:=aT v.toNat KK
  obtain⟨c,l,lf⟩:=List.exists_cons_of_ne_nil d3
  have aN:=d2 c (by rw [lf];simp)
  simp only [pf,Xa,Xf] at aN
  rw [lf] at gl ⊢
  rw [Lib.atoiAll_plain c l KK KK,gl]
  simp only [Lib.signless]
  rw [XU KK]
  congr 1;omega
theorem aGZ (h:gf s= true):Lib.atoiAll s.data.toList= .ok (jh s.data.toList):=by
 obtain⟨e,dc,dr⟩:=aGd h
 have h2:=apA (jh s.data.toList) dc dr
 rw [<- e] at h2;exact h2
theorem ayy (h:gf s= true):s.size<=7:=by
 simp only [gf,Xa,Xf] at h
 have h6:=h.2.1
 have:s.data.toList.length= s.size:=Wn
 unfold pC at h6
 split at h6
 .rw [List.length_tail] at h6;omega
 .omega
theorem VB:Tryz.prog.globalNamed "strconv.ErrSyntax" =some 5:=PV
def Ib (w:World):Prop:=5 < w.heap.size/\∃BC p,w.var? Tryz.prog "strconv.ErrSyntax" =some #[.iface BC p]
theorem Ib.ad {w:World} (h:Ib w) (aB:Below w w ah):Ib ah:=by
 obtain⟨h1,BC,p,h2⟩:=h
 exact⟨YW h1 aB.size,BC,p,var?_below aB VB h1 h2⟩
theorem aae (h:l:=by
 rcases qR with rfl | ⟨t,rfl⟩
 .exact Wt _ _
 .exact Lib.bytesWorld_below _ _ _):l:=h
theorem afQ (s:VU) (aP:s.size<=maxLen) (w:World) (bX:jV w) (fl:Ib w):Rd 168 #[s] w λe ah=>e= .returned (qZ s)/\Below w w ah:=by
 unfold maxLen at aP
 have no:∀{ah:World},gf s= false->Below w w ah->(Ending.returned (.tuple #[(0:Int),false])= Ending.returned (qZ s)/\Below w w ah):=λh aB=>⟨by rw [qZ,h];rfl,aB⟩
 by_cases h7:s.size<=7
 case neg=>
  have ha:gf s= false:=Ya.2 λh=>h7 (ayy h)
  go_in
  go_wp2
  go_ret2
  exact no ha (Wt _ _)
 cases de:Lib.atoiAll s.data.toList
 rotate_left
 .have ha:gf s= false:=Ya.2 λh=>by rw [aGZ h] at de;cases de
  obtain⟨_,BC,p,NJ⟩:=fl
  have nG:=I (λW (h:W.var? Tryz.prog "strconv.ErrSyntax" =some #[.iface BC p])=>Tryz.strconv_Atoi_syntax_var s KK de BC p W h);clear de
  go_in
  go_wp2_with fail
  refine (nG.o _ NJ).mono ?_
  rintro e bm ⟨N,rfl,_,_,bD⟩
  go_wp2
  go_ret2
  exact no ha bD
 .exfalso
  rw [Lib.atoiAll_short _ Xq] at de
  cases av:Lib.atoi s.data.toList <;> rw [av] at de <;> cases de
 .rename_i v
  obtain⟨dD,dc⟩:=Lib.atoiAll_bounds de
  have nG:=I (λW=>Tryz.strconv_Atoi_ok s KK v de W)
  cases jl:fB v (-999999) 999999
  .have ha:gf s= false:=Ya.2 λh=>by
    have e:=aGZ h
    rw [de] at e
    obtain⟨_,c0,aw⟩:=aGd h
    injection e with e
    rw [<- e] at c0 aw
    have:fB v (-999999) 999999= true:=by simp only [fB,Xa,Xf];omega
    rw [this] at jl;cases jl
   have iu:=I jl;clear jl de
   go_in
   go_wp2_with fail
   refine (nG.o _).mono ?_
   rintro e bm ⟨rfl,qR⟩
   have bD:Below w w bm:=by
    exact aae
   clear qR
   go_wp2_with fail
   refine (ku _ iu.o _).mono ?_
   rintro e w0 ⟨rfl,h0⟩
   rw [h0]
   clear h0 w0
   go_wp2
   go_ret2
   exact no ha bD
  have rC:-999999<=v/\v<=999999:=by simp only [fB,Xa,Xf] at jl;omega
  have iu:=I jl;clear jl
  by_cases he:eW v= s
  .have Jt:((eW v).toList == s.toList)= true:=Xx.2 (by rw [he])
   have CX:=ayx v rC.1 rC.2
   rw [he] at CX
   replace CX:=I CX;clear de he
   go_in
   go_wp2_with fail
   refine (nG.o _).mono ?_
   rintro e bm ⟨rfl,qR⟩
   have bD:Below w w bm:=by
    exact aae
   clear qR
   go_wp2_with fail
   refine (ku _ iu.o _).mono ?_
   rintro e w0 ⟨rfl,h0⟩
   rw [h0]
   clear h0 w0
   go_wp2_with fail
   refine (Bl v KK KK _ (bX.ad bD)).mono ?_
   rintro e aI ⟨rfl,aQ⟩
   go_wp2
   go_ret2
   exact⟨by rw [qZ,CX.o.1,CX.o.2];rfl,ai bD aQ⟩
  .have Jt:((eW v).toList == s.toList)= false:=aIM he
   have ha:gf s= false:=Ya.2 λh=>by
    have e:=aGZ h
    rw [de] at e
    injection e with e
    have:=(aGd h).1
    rw [<- e] at this
    exact he this.symm
   clear de he
   go_in
   go_wp2_with fail
   refine (nG.o _).mono ?_
   rintro e bm ⟨rfl,qR⟩
   have bD:Below w w bm:=by
    exact aae
   clear qR
   go_wp2_with fail
   refine (ku _ iu.o _).mono ?_
   rintro e w0 ⟨rfl,h0⟩
   rw [h0]
   clear h0 w0
   go_wp2_with fail
   refine (Bl v KK KK _ (bX.ad bD)).mono ?_
   rintro e aI ⟨rfl,aQ⟩
   go_wp2
   go_ret2
   exact no ha (ai bD aQ)
def la {T:Type} (p:T->Bool) (xs:List T) (i:Nat):Bool:=match xs[i]? with | some x=>p x | none=>false
def qS {T:Type} (p:T->Bool) (xs:List T):Int:=match xs.findIdx? p with | some i=>i | none=>-1
theorem XG {T:Type} {p:T->Bool} {xs:List T} (h:iv (λi=>!la p xs i) xs.length= true):qS p xs= -1:=by
 have:xs.findIdx? p= none:=by
  rw [List.findIdx?_eq_none_iff]
  intro x av
  obtain⟨i,bo⟩:=List.getElem?_of_mem av
  have:=oM.1 h i (Xg.1 bo).1
  simpa [la,bo] using this
 simp [qS,this]
theorem XF {T:Type} {p:T->Bool} {xs:List T} (ax:k < xs.length) (h:iv (λi=>!la p xs i) k= true) (aS:la p xs k= true):qS p xs= k:=by
 have:xs.findIdx? p= some k:=by
  rw [List.findIdx?_eq_some_iff_getElem]
  refine⟨ax,?_,λj cc=>?_⟩
  .simpa [la,Xj ax] using aS
  .have:=oM.1 h j cc
   simpa [la,Xj (show j < xs.length by omega)] using this
 simp [qS,this]
theorem RE {T:Type} (p:T->Bool) (xs:List T):(decide (0<=qS p xs))= xs.any p:=by
 unfold qS
 cases h:xs.findIdx? p with
 | none=>simp at h;simpa using λx av=>by simpa using h x av
 | some i=>
  rw [List.findIdx?_eq_some_iff_getElem] at h
  obtain⟨bo,aS,_⟩:=h
  have:xs.any p= true:=List.any_eq_true.2 ⟨_,ZK bo,aS⟩
  rw [this];simp
theorem avP {T:Type} (p:T->Bool) (xs:List T):-1<=qS p xs/\qS p xs < xs.length:=by
 unfold qS
 cases h:xs.findIdx? p with
 | none=>simp;omega
 | some i=>
  rw [List.findIdx?_eq_some_iff_getElem] at h
  obtain⟨bo,_⟩:=h
  simp;omega
theorem HS {f:FuncId} {fn:Func} (hf:P.funcs[f]? =some fn) (atD:(fn.name == "runtime.NumGoroutine")= false) (aB:fn.body.isNone= false) (args:Array Value) (W:World):
  (callFunc f args).run P W= .ok (.enter f args) W:=by
 have h1:fn.name≠ "runtime.NumGoroutine":=by simpa using atD
 have h2:fn.body≠none:=by intro h;rw [h] at aB;simp at aB
 simp [callFunc,hf,h1,h2]
def cE (x:Int):List Value:=[.int .i64 x]
structure ns where
 s:ByteArray
 ok:s.size<=maxLen
def ns.cells (x:ns):List Value:=[.string x.s]
theorem adx {T:Type} {f:T->List Value} (hf:∀y,(f y).length= sz):∀(xs:List T) (i:Nat) (x y:T) (j:Nat) (u:Value),xs[i]? =some x->f y= (f x).set j u->j < sz->(xs.flatMap f).set (i * sz + j) u= (xs.set i y).flatMap f
 | [],i,x,y,j,u,h,_,_=>by simp at h
 | a ::xs,0,x,y,j,u,h,hy,cc=>by
  simp at h;subst h
  simp only [Yd,List.set_cons_zero,Xy,YF,hy]
  rw [List.set_append_left _ _ (by rw [hf];exact cc)]
 | a ::xs,i + 1,x,y,j,u,h,hy,cc=>by
  have eR:=adx hf xs i x y j u ZQ hy cc
  simp only [Yd,List.set_cons_succ]
  rw [List.set_append_right _ _ (by rw [hf,Nat.succ_mul];omega),hf,show (i + 1) * sz + j - sz= i * sz + j by rw [Nat.succ_mul];omega,eR]
theorem bn.aAR {T:Type} {f:T->List Value} {w:World} {xs:List T} (aV:bn B e sz f w v xs) (cy:v.ownBlock= some g) (hf:∀y,(f y).length= sz) {x y:T} (av:xs[i]? =some x) (hy:f y= (f x).set j u) (cc:j < sz):
  bn B e sz f (w.setCell ⟨g,i * sz + j,none⟩ u) v (xs.set i y):=by
 have h:=ahA (j:=i * sz + j) (u:=u) aV cy
 rw [adx hf xs i x y j u av hy cc] at h
 unfold bn
 rw [List.length_set]
 exact h
def hasB (xs:List Int) (n:Int):Bool:=xs.any (λx=>x == n)
theorem asz {xs:List Int} (av:xs[k]? =some x) (h:x= n):hasB xs n= true:=by
 subst h;exact List.any_eq_true.2 ⟨x,YE av,by simp⟩
theorem asy {xs:List Int} (h:iv (λi=>!la (λx=>x == n) xs i) xs.length= true):hasB xs n= false:=by
 have:=RE (λx=>x == n) xs
 rw [XG h] at this
 exact this.symm
theorem alg (h:l:=by
 go_wp2
 go_roundw
 case rel=>exact⟨k + 1,by omega,by go_num,qg aT.o (by simp [la,av.o,he]),aB⟩
 case measure=>simp [intOf];omega):l:=h
theorem EW (A:QR) (c:Nat) (xs:List Int) (n:Int) (bq:xs) (v:Bool) (az:hasB xs n= v) (w:World) (bB:aX 1 cE w A xs):
 Rd 265 #[A xs c,n] w λe ah=>e= .returned v/\Below w w ah:=by
 subst az
 go_in
 go_wp2
 go_loopw [5] (λi wr=>∃k:Nat,k<=xs.length/\i= .int .i64 k/\iv (λi=>!la (λx=>x == n) xs i) k= true/\Below w w wr) (λi _=>xs.length - (intOf i).toNat)
 case atStart=>exact⟨0,Xd _,rfl,rfl,Wt _ _⟩
 case round=>
  obtain⟨k,ax,rfl,aT,aB⟩:=hrel
  replace aT:=I aT
  by_cases bC:k < xs.length
  .obtain⟨b,off,x,rfl,eN,av,bO⟩:=bB.at_ aB bC
   have f0:=bO 0 _ rfl
   simp only [Xw,XW] at f0
   have g0:=f0 (aD.self _)
   simp only [aD.self] at g0
   replace av:=I av;clear bO
   by_cases he:x= n
   .have zn:(x == n)= true:=Xx.2 he
    have fl:=I he;clear he
    go_wp2
    go_ret
    exact⟨fe (asz av.o fl.o).symm,aB⟩
   .have zn:(x == n)= false:=Xb.2 he
    exact alg
  .obtain rfl:k= xs.length:=KK
   go_wp2
   go_ret
   exact⟨fe (asy aT.o).symm,aB⟩
theorem Tm (h:l:=by
 obtain rfl:k= xs.length:=KK
 go_wp2
 go_ret
 exact⟨Km (XG aT.o).symm,aB⟩):l:=h
theorem avS (A:QR) (c:Nat) (xs:List Int) (n:Int) (bq:xs) (v:Int) (az:qS (λx=>x == n) xs= v) (w:World) (bB:aX 1 cE w A xs):
 Rd 270 #[A xs c,n] w λe ah=>e= .returned v/\Below w w ah:=by
 subst az
 go_in
 go_wp2
 go_loopw [8] (λi wr=>∃k:Nat,k<=xs.length/\i= .int .i64 k/\iv (λi=>!la (λx=>x == n) xs i) k= true/\Below w w wr) (λi _=>xs.length - (intOf i).toNat)
 case atStart=>exact⟨0,Xd _,rfl,rfl,Wt _ _⟩
 case round=>
  obtain⟨k,ax,rfl,aT,aB⟩:=hrel
  replace aT:=I aT
  by_cases bC:k < xs.length
  .obtain⟨b,off,x,rfl,eN,av,bO⟩:=bB.at_ aB bC
   have f0:=bO 0 _ rfl
   simp only [Xw,XW] at f0
   have g0:=f0 (aD.self _)
   simp only [aD.self] at g0
   replace av:=I av;clear bO
   by_cases he:x= n
   .have zn:(n == x)= true:=Xx.2 he.symm
    have fl:=I he;clear he
    go_wp2
    go_ret
    exact⟨Km (XF bC aT.o (by simp [la,av.o,fl.o])).symm,aB⟩
   .have zn:(n == x)= false:=Xb.2 (Ne.symm he)
    exact alg
  .exact Tm
theorem Gm (A:QR) (c:Nat) (xs:List Int) (n:Int) (bq:xs) (v:Bool) (az:hasB xs n= v) (w:World) (bB:aX 1 cE w A xs):
 Rd 199 #[A xs c,n] w λe ah=>e= .returned v/\Below w w ah:=by
 subst az
 have cy:=RE (λx=>x == n) xs;replace cy:=I cy
 go_in
 go_wp2_with fail
 refine (avS A c xs n bq _ rfl _ bB).mono ?_
 rintro e ah ⟨rfl,aB⟩
 go_wp2
 go_ret
 exact⟨fe cy.o,aB⟩
theorem vK:(Tryz.prog.info? 3).map (λi=>(i.zero,i.size,i.bytes))= some (some (.int .i64 0),1,8):=PV
theorem fR (y:Int):(cE y).length= 1:=rfl
theorem qU (y:Int) (u:Value) (h:u ∈ cE y):u.oneCell'= true:=by simp [cE] at h;subst h;rfl
theorem amP (h:l:=by
 go_in
 go_wp2_with ((at_builtin;refine Pe rfl _ _ 38 rfl w 3 i0 _ 1 8 Tryz.underlying38 bo dP dZ dV rfl WG cE fR qU _ ([]:List Int) rfl (bn.made w (XZ _) _) A c xs rfl (bB.alloc _) bl Zz Xq Wn ?_;intro mW bm aV cy))
 go_ret
 obtain⟨mg,dq,rfl,_,_⟩:=aV.form fR
 exact⟨mg,dq,rfl,aV,(bP _ _).trans (Cu cy Wn (λk ax=>Nat.le_of_eq (Wx ax)))⟩):l:=h
theorem XM (A:QR) (c:Nat) (xs:List Int) (bq:xs) (bl:A= none->xs= []/\c= 0) (w:World) (bB:aX 1 cE w A xs):
 Rd 242 #[A xs c] w λe ah=>∃mg dq,e= .returned (.slice mg xs dq)/\bn w 3 1 cE ah (.slice mg xs dq) xs/\Below w w ah:=by
 obtain⟨i0,bo,dP,dZ,dV⟩:=Xo vK
 exact amP
structure abK where
 id:Int
 ajK:ByteArray
 given:Int
 days:Int
 ok:ajK.size<=maxLen
def abK.cells (n:abK):List Value:=[.int .i64 n.id,.string n.ajK,.int .i64 n.given,.int .i64 n.days]
def JX (m s:Int) (n:Nat):List Int:=(List.range n).map λ(i:Nat)=>m + s * (i:Int)
section
variable {T uf:Type} {B:Nat} {e:TypeId} {sz:Nat} {f:T->List Value} {h:uf->List Value} {w ah:World} {v:Value} {xs:List T}
theorem bn.block (aV:bn B e sz f w v xs) (bq:0 < xs.length):∃g cap cur,v= .slice (some ⟨g,0,none⟩) xs.length cap/\B<=g/\ay w g e cur/\xs.length<=cap/\cap<=maxLen/\cur.size= cap * sz:=by
 rcases aV.2 with ⟨_,h0⟩ | ⟨g,cap,cur,az,bz,gl,vC,pV,cK,_⟩
 .omega
 .exact⟨g,cap,cur,az,bz,gl,vC,pV,cK⟩
theorem bn.empty {n c:Nat} {m s:Int} (aV:bn B e sz f w (A n c) ([]:List T)) {p:Int->List Value}:bn B e sz p w (A 0 c) (JX m s 0):=by
 obtain⟨aT,aV⟩:=aV
 refine⟨by simp [JX],?_⟩
 rcases aV with ⟨az,h0⟩ | ⟨g,cap,cur,az,bz,gl,vC,pV,cK,Bg⟩
 .injection az with h1 h2 h3
  subst h1 h2 h3
  exact .inl ⟨rfl,by simp [JX]⟩
 .injection az with h1 h2 h3
  subst h1 h3
  simp at h2
  exact .inr ⟨g,c,cur,by simp [JX],bz,gl,by simp [JX],pV,cK,by simp [JX]⟩
theorem bn.Ou (aB:ay w g e cs) (bz:B<=g) (aN:xs.length<=cap) (hm:cap<=maxLen) (gd:cs.size= cap * sz) (ag:∀i x,xs[i]? =some x->∀j u,(f x)[j]? =some u->cs[i * sz + j]? =some u)
  (hf:∀y,(f y).length= sz:=by intro y;rfl):bn B e sz f w (g xs cap) xs:=by
 refine⟨nQ hf xs,.inr ⟨g,cap,cs,rfl,bz,aB,aN,hm,gd,?_⟩⟩
 have hle:xs.length * sz<=cap * sz:=ZA sz aN
 apply List.ext_getElem?
 intro k
 rw [Yb]
 by_cases ax:k < (xs.flatMap f).length
 .obtain⟨i,j,x,av,cc,rfl⟩:=QE hf xs k _ (Xj ax)
  rw [nQ hf] at ax
  rw [XX ax,Xj (l:=xs.flatMap f) (by rw [nQ hf];exact ax),<- ag i x av j _ cc];simp
 .rw [nQ hf] at ax
  rw [XU ax,List.getElem?_eq_none (by rw [nQ hf];omega)]
end
def te (p:Int->Bool) (S:List Int):Nat->Nat
 | 0=>0
 | j + 1=>match S[j]? with | some z=>if p z then te p S j else j + 1 | none=>j + 1
def ES (p:Int->Bool) (S:List Int) (z:Int):List Int:=S.take (te p S S.length) ++ z ::S.drop (te p S S.length)
def ka (c:Int->Int->Int) (xs:List Int):Nat->List Int
 | 0=>[]
 | i + 1=>match xs[i]? with | some x=>ES (λz=>decide (c x z < 0)) (ka c xs i) x | none=>ka c xs i
theorem aID (p:Int->Bool) (S:List Int):∀j,te p S j<=j
 | 0=>XZ _
 | j + 1=>by
  have:=aID p S j
  unfold te
  split
  .split <;> omega
  .omega
theorem ajb {p:Int->Bool} (cF:S[j]? =some z) (aS:p z= true):te p S (j + 1)= te p S j:=by
 rw [te,cF];simp [aS]
theorem aiZ {p:Int->Bool} (cF:S[j]? =some z) (aS:p z= false):te p S (j + 1)= j + 1:=by
 rw [te,cF];simp [aS]
theorem avV (p:Int->Bool) (S:List Int) (z:Int):(ES p S z).length= S.length + 1:=by
 have:=aID p S S.length
 simp [ES];omega
section
variable {c:Int->Int->Int} {xs:List Int}
theorem SX (av:xs[k]? =some x):ka c xs (k + 1)= ES (λz=>decide (c x z < 0)) (ka c xs k) x:=by rw [ka,av]
theorem BB:∀k,k<=xs.length->(ka c xs k).length= k
 | 0,_=>rfl
 | k + 1,h=>by
  have eR:=BB k KK
  rw [SX (Xj (by omega:k < xs.length)),avV,eR]
theorem SY:∀k z,z ∈ ka c xs k->z ∈ xs
 | 0,z,cF=>by simp [ka] at cF
 | k + 1,z,cF=>by
  cases av:xs[k]? with
  | none=>rw [ka,av] at cF;exact SY k z cF
  | some x=>
   rw [SX av] at cF
   simp only [ES,YC,Xl] at cF
   rcases cF with cF | rfl | cF
   .exact SY k z (List.mem_of_mem_take cF)
   .exact YE av
   .exact SY k z (List.mem_of_mem_drop cF)
def td (c:Int->Int->Int) (xs:List Int) (k:Nat) (x:Int) (j:Nat):List Int:=(ka c xs k).take j ++ x ::((ka c xs k).drop j ++ xs.drop (k + 1))
def zX (c:Int->Int->Int) (xs:List Int) (k:Nat):List Int:=ka c xs k ++ xs.drop k
theorem aiv (av:xs[k]? =some x):zX c xs k= td c xs k x k:=by
 obtain⟨h,he⟩:=Xg.1 av
 have aT:=BB (c:=c) (xs:=xs) k KK
 unfold zX td
 rw [List.drop_eq_getElem_cons h,he,YO KK,List.drop_of_length_le (l:=ka c xs k) KK,List.nil_append]
theorem azq (h:k < xs.length) (cc:j<=k):(td c xs k x j)[j]? =some x:=by
 have aT:=BB (c:=c) (xs:=xs) k KK
 unfold td
 rw [wb Xq]
 simp [aT,Nat.min_eq_left cc]
theorem azr (h:k < xs.length) (cc:j < k) (cF:(ka c xs k)[j]? =some z):(td c xs k x (j + 1))[j]? =some z:=by
 have aT:=BB (c:=c) (xs:=xs) k KK
 unfold td
 rw [Yt Xq,Yb,XX KK]
 exact cF
theorem azs (h:k < xs.length) (cc:j < k) (cF:(ka c xs k)[j]? =some z):
  td c xs k x (j + 1)= (ka c xs k).take j ++ (z ::x ::((ka c xs k).drop (j + 1) ++ xs.drop (k + 1)))/\td c xs k x j= (ka c xs k).take j ++ (x ::z ::((ka c xs k).drop (j + 1) ++ xs.drop (k + 1))):=by
 have aT:=BB (c:=c) (xs:=xs) k KK
 have iy:j < (ka c xs k).length:=KK
 have afD:(ka c xs k)[j]= z:=by rw [Xj iy] at cF;exact Wx cF
 unfold td
 refine⟨?_,?_⟩
 .rw [Yu iy,afD];simp
 .rw [List.drop_eq_getElem_cons iy,afD];simp
theorem azt (h:k < xs.length) (cc:j < k) (cF:(ka c xs k)[j]? =some z):
  ((td c xs k x (j + 1)).set (j + 1) z).set j x= td c xs k x j:=by
 obtain⟨e1,e2⟩:=azs (x:=x) h cc cF
 have aT:=BB (c:=c) (xs:=xs) k KK
 have zH:((ka c xs k).take j).length= j:=by rw [YA];omega
 rw [e1,e2]
 rw [List.set_append_right _ _ KK,zH,show j + 1 - j= 1 by omega,List.set_cons_succ,List.set_cons_zero,List.set_append_right _ _ KK,zH,Nat.sub_self,List.set_cons_zero]
theorem aGq (av:xs[k]? =some x) (aP:te (λz=>decide (c x z < 0)) (ka c xs k) k= j):td c xs k x j= zX c xs (k + 1):=by
 have h:=(Xg.1 av).1;have aT:=BB (c:=c) (xs:=xs) k KK
 unfold td zX
 rw [SX av]
 simp only [ES,aT,aP]
 simp
theorem aiw (h:k < xs.length) (cc:j<=k):(td c xs k x j).length= xs.length:=by
 have aT:=BB (c:=c) (xs:=xs) k KK
 simp [td,aT];omega
theorem azp:zX c xs 0= xs:=by simp [zX,ka]
theorem azo:zX c xs 1= xs:=by
 cases xs with
 | nil=>rfl
 | cons x r=>
  have av:(x ::r)[0]? =some x:=rfl
  conv=>rhs;rw [<- azp (c:=c) (xs:=x ::r)]
  rw [aiv av,aGq (j:=0) av rfl]
theorem azn (h1:k<=xs.length\/k= 1) (h2:¬k < xs.length):zX c xs k= ka c xs xs.length:=by
 rcases h1 with h1 | h1
 .obtain rfl:k= xs.length:=KK
  rw [zX,List.drop_length,Yq]
 .subst h1
  by_cases h:xs.length= 1
  .rw [zX,<- h,List.drop_length,Yq]
  .have:xs= []:=YD.1 KK
   subst this;rfl
end
theorem Ox {n c:Nat} {w:World} (aV:bn B e 1 cE w (g n c) D) (cF:D[j]? =some z):w.cell? ⟨g,j,none⟩ =some (.int .i64 z)/\w.frozen? ⟨g,j,none⟩ =false:=by
 have cc:j < D.length:=(Xg.1 cF).1
 have aT:(D.flatMap cE).length= D.length:=by rw [nQ fR,Xw]
 obtain⟨h1,h2⟩:=ahz (j:=j) aV rfl (by rw [aT];exact cc)
 refine⟨h1.trans ?_,h2⟩
 have h3:=Ek fR D j z cF 0 (.int .i64 z) rfl
 rw [Xw,XW,Xj (by rw [aT];exact cc)] at h3
 exact h3
theorem ahy {n c:Nat} {w:World} (aV:bn B e 1 cE w (g n c) D) (cc:j < D.length) (y:Int):bn B e 1 cE (w.setCell ⟨g,j,none⟩ (.int .i64 y)) (g n c) (D.set j y):=by
 have h:=bn.aAR (u:= .int .i64 y) (i:=j) (j:=0) (x:=D[j]) (y:=y) aV rfl fR (Xj cc) (by simp [cE]) WG
 simpa using h
theorem avZ (c:Int->Int->Int) (xs:List Int) (bq:xs.length<=20) (B g cap:Nat) (dD:Nat) (w:World) (qG:B<=g) (qH:B<=w.heap.size)
 (aV:bn B 3 1 cE w (g xs cap) xs) (hf:∀x z,x ∈ xs->z ∈ xs->∀W,w.grownBy W (some g)->Rd 251 #[.int .i64 x,.int .i64 z,.pointer (some ⟨dD,0,none⟩)] W λe ah=>e= .returned (.int .i64 (c x z))/\Below W W ah):
 Rd 326 #[g xs cap,(0:Int),xs.length,.func (.func 251) #[] #[.pointer (some ⟨dD,0,none⟩)]] w λe ah=>
  e= .returned (.tuple #[])/\bn B 3 1 cE ah (g xs cap) (ka c xs xs.length)/\w.grownBy ah (some g):=by
 replace hf:=I hf
 go_in
 go_wp2
 go_loopw [8,9] (λi _ wr=>∃k:Nat,1<=k/\(k<=xs.length\/k= 1)/\i= .int .i64 k/\bn B 3 1 cE wr (g xs cap) (zX c xs k)/\w.grownBy wr (some g)) (λi _ _=>xs.length - (intOf i).toNat)
 case atStart=>exact⟨1,XZ _,.inr rfl,rfl,by rw [azo];exact aV,ht _ _⟩
 case round=>
  clear aV
  obtain⟨k,xQ,ax,rfl,iR,fI⟩:=hrel
  by_cases bC:k < xs.length
  .obtain⟨x,av⟩ :∃x,xs[k]? =some x:=⟨_,Xj bC⟩
   rw [aiv av] at iR
   replace av:=I av;have nI:=I iR;clear iR
   go_wp2
   go_loopw [9] (λj ws=>∃q:Nat,q<=k/\j= .int .i64 q/\te (λz=>decide (c x z < 0)) (ka c xs k) k= te (λz=>decide (c x z < 0)) (ka c xs k) q/\bn B 3 1 cE ws (g xs cap) (td c xs k x q)/\w.grownBy ws (some g)) (λj _=>(intOf j).toNat)
   case atStart=>exact⟨k,XZ _,rfl,rfl,nI.o,fI⟩
   case round=>
    clear nI
    obtain⟨q,bt,rfl,He,ng,eI⟩:=hrel
    replace ng:=I ng;replace He:=I He
    by_cases jW:q= 0
    .subst jW
     go_wp2
     refine eQ PV PV ?_
     repeat (go_big_quiet_step ((fail)))
     refine VF ?_
     intro K
     go_wp2
     go_roundw
     case rel=>exact⟨k + 1,by omega,.inl KK,by go_num,by rw [<- aGq av.o He.o];exact ng.o.aK K.ad,bx eI (bL K.ad _)⟩
     case measure=>simp [intOf];omega
    .obtain⟨fJ,rfl⟩ :∃fJ,q= fJ + 1:=⟨q - 1,by omega⟩
     have xU:=BB (c:=c) (xs:=xs) k KK
     obtain⟨z,cF⟩ :∃z,(ka c xs k)[fJ]? =some z:=⟨_,Xj KK⟩
     have CY:z ∈ xs:=SY k z (YE cF)
     obtain⟨v,az⟩ :∃v,c x z= v:=⟨_,rfl⟩
     have hK:Hid (∀W,Below wr wr W->Rd 251 #[.int .i64 x,.int .i64 z,.pointer (some ⟨dD,0,none⟩)] W λe ah=>e= .returned (.int .i64 v)/\Below W W ah):=I λW cv=>by
      rw [<- az]
      exact hf.o x z (YE av.o) CY W (bx eI (bL cv _))
     have hat:decide (c x z < 0)= decide (v < 0):=by rw [az]
     have aav:=I hat;have jN:=I cF;have xC:=I (azq (c:=c) (xs:=xs) (x:=x) bC bt);have aaE:=I (azr (x:=x) bC (show fJ < k by omega) cF);clear hat cF az CY xU
     have aw:=λK:aD wr wr=>(Ox (ng.o.aK K.ad) xC.o).1
     have c2:=λK:aD wr wr=>(Ox (ng.o.aK K.ad) aaE.o).1
     by_cases aFI:v < 0
     .go_wp2
      refine eQ PV PV ?_
      repeat (go_big_quiet_step ((go_at_call 251;exact aD.call _ Xm (hK.o _ (aD.ad _)))))
      refine VF ?_
      intro K
      have pT:=ng.o.aK K.ad;have hH:=bx eI (bL K.ad _);clear aw c2
      generalize K.world= Qe at *
      obtain⟨aw,f1⟩:=Ox pT xC.o
      obtain⟨c2,f2⟩:=Ox pT aaE.o
      have jD:=I pT;clear pT
      go_wp2
      go_region
      have fb:bn B 3 1 cE (World.drew (World.setCell (World.setCell Qe ⟨g,fJ + 1,none⟩ (.int .i64 z)) ⟨g,fJ,none⟩ (.int .i64 x))) (g xs cap) (td c xs k x fJ):=by
       have h:=ahy (ahy jD.o (j:=fJ + 1) (by rw [aiw bC bt];omega) z) (j:=fJ) (by rw [List.length_set,aiw bC bt];omega) x
       rw [azt bC KK jN.o] at h
       exact h.aK (Wt _ _).drew
      have ed:=bx (fZ (j:=fJ) (fZ (j:=fJ + 1) hH (.int .i64 z)) (.int .i64 x)) (bL (Wt _ (World.setCell (World.setCell Qe ⟨g,fJ + 1,none⟩ (.int .i64 z)) ⟨g,fJ,none⟩ (.int .i64 x))).drew (some g));clear aw c2 f1 f2 jD
      generalize (World.drew (World.setCell (World.setCell Qe ⟨g,fJ + 1,none⟩ (.int .i64 z)) ⟨g,fJ,none⟩ (.int .i64 x)))= pP at *
      go_wp2
      go_roundw
      case rel=>exact⟨fJ,by omega,by go_num,He.o.trans (ajb jN.o (by rw [aav.o];exact Xh aFI)),fb,ed⟩
      case measure=>simp [intOf]
     .go_wp2
      refine eQ PV PV ?_
      repeat (go_big_quiet_step ((go_at_call 251;exact aD.call _ Xm (hK.o _ (aD.ad _)))))
      refine VF ?_
      intro K
      have pT:=ng.o.aK K.ad;have hH:=bx eI (bL K.ad _);clear aw c2
      generalize K.world= Qe at *
      go_wp2
      go_roundw
      case rel=>exact⟨k + 1,by omega,.inl KK,by go_num,by rw [<- aGq av.o (He.o.trans (aiZ jN.o (by rw [aav.o];exact Xe KK)))];exact pT,hH⟩
      case measure=>simp [intOf];omega
  .go_wp2
   refine⟨rfl,Value.tuple #[],by simp [results,Tryz.results326,go_sem],rfl,?_,fI⟩
   rw [<- azn ax bC];exact iR
theorem aBn (c:Int->Int->Int) (xs:List Int) (bq:xs.length<=20) (afh:xs.length < 20) (B g cap:Nat) (dD:Nat) (w:World) (qG:B<=g) (qH:B<=w.heap.size)
 (aV:bn B 3 1 cE w (g xs cap) xs) (hf:∀x z,x ∈ xs->z ∈ xs->∀W,w.grownBy W (some g)->Rd 251 #[.int .i64 x,.int .i64 z,.pointer (some ⟨dD,0,none⟩)] W λe ah=>e= .returned (.int .i64 (c x z))/\Below W W ah):
 Rd 301 #[g xs cap,xs.length,.func (.func 251) #[] #[.pointer (some ⟨dD,0,none⟩)]] w λe ah=>
  e= .returned (.tuple #[])/\bn B 3 1 cE ah (g xs cap) (ka c xs xs.length)/\w.grownBy ah (some g):=by
 have kA:=I (avZ c xs bq B g cap dD w qG qH aV hf);clear aV hf
 go_in
 go_wp2
 go_loopw [7,8] (λa b wr=>a= .int .i64 0/\b= .int .i64 20/\wr= w) (λ_ _ _=>0)
 case atStart=>exact⟨rfl,rfl,rfl⟩
 case round=>
  obtain⟨rfl,rfl,rfl⟩:=hrel
  go_wp2_with fail
  refine kA.o.mono ?_
  rintro e bm ⟨rfl,iR,fI⟩
  go_wp2
  go_loopw [6,7,8] (λa _ _ wr=>a= .int .i64 20/\wr= bm) (λ_ _ _ _=>0)
  case atStart=>exact⟨rfl,rfl⟩
  case round=>
   obtain⟨rfl,rfl⟩:=hrel
   go_wp2
   exact⟨rfl,Value.tuple #[],by simp [results,Tryz.results301,go_sem],rfl,iR,fI⟩
theorem aAX (c:Int->Int->Int) (xs:List Int) (afh:xs.length < 20) (B g cap:Nat) (dD:Nat) (w:World) (qG:B<=g) (qH:B<=w.heap.size)
 (aV:bn B 3 1 cE w (g xs cap) xs) (hf:∀x z,x ∈ xs->z ∈ xs->∀W,w.grownBy W (some g)->Rd 251 #[.int .i64 x,.int .i64 z,.pointer (some ⟨dD,0,none⟩)] W λe ah=>e= .returned (.int .i64 (c x z))/\Below W W ah):
 Rd 250 #[g xs cap,.func (.func 251) #[] #[.pointer (some ⟨dD,0,none⟩)]] w λe ah=>
  e= .returned (.tuple #[])/\bn B 3 1 cE ah (g xs cap) (ka c xs xs.length)/\w.grownBy ah (some g):=by
 have kA:=I (aBn c xs KK afh B g cap dD w qG qH aV hf);clear aV hf
 go_in
 go_wp2_with fail
 refine kA.o.mono ?_
 rintro e bm ⟨rfl,iR,fI⟩
 go_wp2
 exact⟨rfl,Value.tuple #[],by simp [results,Tryz.results250,go_sem],rfl,iR,fI⟩
def aoY (vs:List Value) (a b:Nat):Prop:=∀v ∈ vs,∀k,v.ownBlock= some k->a<=k/\k < b
structure Ic (w ah:World) (vs:List Value):Prop where
 os:ah.os= w.os
 tape:ah.tape= w.tape
 output:ah.output= w.output
 size:w.heap.size<=ah.heap.size
 block:∀i,i < w.heap.size->(∀v ∈ vs,v.ownBlock≠some i)->ah.heap[i]? =w.heap[i]?
theorem Ic.trans {w bm aI:World} (h:Ic w bm vs) (k:Ic bm aI us):Ic w aI (vs ++ us):=
 ⟨k.os.trans h.os,k.tape.trans h.tape,k.output.trans h.output,Xr h.size k.size,λi bo az=>(k.block i (YW bo h.size) (λv hm=>az v (ZI _ hm))).trans (h.block i bo (λv hm=>az v (Yj _ hm)))⟩
theorem Ic.ad {w:World} {c d:Nat} (h:Ic w ah us) (hu:aoY us c d) (aN:B<=c) (bz:B<=w.heap.size):Below B w ah:=
 ⟨h.os,h.tape,h.output,h.size,λi bo=>h.block i (YW bo bz) (λv az e=>by have:=(hu v az i e).1;omega)⟩
def DF (vs:List Value):Prop:=vs.Pairwise λu v=>∀k,u.ownBlock= some k->some k≠v.ownBlock
theorem DF.at (h:DF vs) (EF:i < j) (hu:vs[i]? =some u) (az:vs[j]? =some v):∀k,u.ownBlock= some k->some k≠v.ownBlock:=by
 obtain⟨bo,rfl⟩:=Xg.1 hu
 obtain⟨cc,rfl⟩:=Xg.1 az
 exact (List.pairwise_iff_getElem.1 h) i j bo cc EF
theorem ke {w:World}   {o:Oper}   (qm:o.guard= none) (s x:Operand) (t:TypeId)
  (dn:o.op= .call {callee:= .builtin .append,args:=#[s,x],argTypes:=#[t,t]})
  (B:Nat) (e:TypeId) (i:TypeInfo) (z:Value) (sz bytes:Nat) (cJ:P.underlying t= some (.slice e)) (bo:P.info? e= some i) (cF:i.zero= some z)
  (zF:i.size= sz) (sJ:i.bytes= bytes) (zM:z.cells.size= sz) (gd:0 < sz) {T:Type} (f:T->List Value) (hf:∀y,(f y).length= sz) (lL:∀y u,u ∈ f y->u.oneCell'= true)
  (v:Value) (xs:List T) (aP:a.eval s= v) (NA:bn B e sz f w v xs) (eH:Addr) (c2:Nat) (y:T) (av:a.eval x= .slice (some eH) 1 c2) (bB:aX sz f w (some eH) [y])
  (h63:xs.length + 1<=maxLen) (zm:(xs.length + 1) * bytes<=140737488355328) (Nh:B<=w.heap.size)
  (h:∀mW ah,bn B e sz f ah mW (xs ++ [y])->w.grownBy ah v.ownBlock->(mW.ownBlock= v.ownBlock\/mW.ownBlock= some w)->wpList P ops Q rest (a.put o.dst mW) ah):wpList P ops Q (o ::rest) a w:=by
 refine wpList_append_own_at w qm s x t dn B e i z sz bytes cJ bo cF zF sJ zM gd v xs.length (xs.flatMap f) aP NA eH 1 c2 ([y].flatMap f) av (by rw [nQ hf];simp) (λj u hu=>aX.flat bB hf j u hu)
  (λu hu=>by obtain⟨kO,_,hy⟩:=List.mem_flatMap.1 hu;exact lL kO u hy) h63 zm Nh (λmW ah h1 h2 _ h4=>h mW ah ?_ h2 h4)
 unfold bn;rw [Xu,List.flatMap_append];exact h1
theorem bn.built {T:Type} {f:T->List Value} (w:World) (xs:List T) (e:TypeId) (bz:B<=w.heap.size) (hm:xs.length<=maxLen) (hf:∀y,(f y).length= sz):
  bn B e sz f (w.alloc (.cells (xs.flatMap f).toArray e)) (.slice w xs xs) xs:=
 bn.Ou (ay.new w e _) bz (XZ _) hm (by simp [nQ hf]) (λi x av j u hu=>by simpa using Ek hf xs i x av j u hu) hf
def qA (u v:Value):Prop:=∀k,u.ownBlock= some k->v.ownBlock≠some k
theorem qA.symm (h:qA u v):qA v u:=λk h1 h2=>h k h2 h1
theorem qA.step {pF:Value} {H:Nat} (h:qA u v) (az:∀k,v.ownBlock= some k->k < H) (de:pF.ownBlock= u.ownBlock\/pF.ownBlock= some H):qA pF v:=λk h1 h2=>by
 rcases de with de | de
 .exact h k (de ▸ h1) h2
 .rw [de] at h1;have:=az k h2;injection h1 with h1;omega
theorem bn.ne {T:Type} {f:T->List Value} {w:World} {xs:List T} (h:bn B e sz f w v xs) (cy:w.grownBy ah u.ownBlock) (bq:qA u v):bn B e sz f ah v xs:=
 h.kept cy (λk h1 h2=>bq k h2.symm h1)
theorem ay.setRow {w:World} (h:ay w g t cs):ay (w.setRow g yP) g t yP:=setRow_heap w g cs yP t (0,0) h
theorem ME {w:World}:w.grownBy (w.setRow g yP) (some g):=
 ⟨rfl,rfl,rfl,by simp,λi _ ew=>by
  unfold World.setRow
  simp only [Array.getElem?_modify]
  rw [XU (λe=>ew (by rw [e]))]⟩
theorem aCb {w:World}   {o:Oper}   (qm:o.guard= none) (s x:Operand) (t:TypeId)
  (dn:o.op= .call {callee:= .builtin .append,args:=#[s,x],argTypes:=#[t,t]})
  (e:TypeId) (i:TypeInfo) (cJ:P.underlying t= some (.slice e)) (bo:P.info? e= some i) (g n cap:Nat) (cur:Array Value) (aP:a.eval s= .slice g n cap) (cy:ay w g e cur)
  (eH:Addr) (m c:Nat) (news:List Value) (av:a.eval x= .slice (some eH) m c) (aT:news.length= m * i.size) (atF:∀j u,news[j]? =some u->w.cell? (eH.add j)= some u) (h1:∀u ∈ news,u.oneCell'= true)
  (aFW:n + m<=cap) (CJ:n * i.size + news.length<=cur.size)
  (h:∀(fz:World) (yP:List Value),yP= cur.toList.take (n * i.size) ++ news ++ cur.toList.drop (n * i.size + news.length)->ay fz g e yP.toArray->w.grownBy fz (some g)->wpList P ops Q rest (a.put o.dst (g (n + m) cap)) fz):wpList P ops Q (o ::rest) a w:=by
 refine wpList_plain qm λ_ fj=>?_
 have bu:=run_append_room (P:=P) w t o.type e i cJ bo g n cap cur cy eH m c news aT atF h1 aFW CJ
 unfold Oper.wp execOp
 simp only [dn,resolve,invoke,builtin,Sem.run_bind,Sem.run_pure,Result.andThen_ok,List.map_toArray,List.map_cons,List.map_nil,aP,av,bu]
 exact fj _ _ (h _ _ rfl cy.setRow ME)
theorem bn.whole {T:Type} {f:T->List Value} {w:World} {xs:List T} (aV:bn B e sz f w v xs) (hf:∀y,(f y).length= sz) (bq:0 < xs.length):
  ∃g cap cs,v= .slice (some ⟨g,0,none⟩) xs.length cap/\B<=g/\ay w g e cs/\xs.length<=cap/\cap<=maxLen/\cs.size= cap * sz/\∀i x,xs[i]? =some x->∀j u,(f x)[j]? =some u->cs[i * sz + j]? =some u:=by
 rcases aV.2 with ⟨_,h0⟩ | ⟨g,cap,cur,az,bz,gl,vC,pV,cK,Bg⟩
 .omega
 .refine⟨g,cap,cur,az,bz,gl,vC,pV,cK,λi x av j u hu=>?_⟩
  have h1:=Ek hf xs i x av j u hu
  rw [<- Bg,Yb] at h1
  split at h1
  .simpa using h1
  .cases h1
theorem adw {T:Type} {f:T->List Value} (hf:∀y,(f y).length= sz) (xs:List T) (k j:Nat) (u:Value) (h:((xs.drop k).flatMap f)[j]? =some u):(xs.flatMap f)[k * sz + j]? =some u:=by
 obtain⟨i,j',x,av,cc,rfl⟩:=QE hf _ _ _ h
 rw [List.getElem?_drop] at av
 have:=Ek hf xs (k + i) x av j' u cc
 rwa [Nat.add_mul,Nat.add_assoc] at this
theorem aki {w:World}   {o:Oper}   (qm:o.guard= none) (s x:Operand) (t:TypeId)
  (dn:o.op= .call {callee:= .builtin .append,args:=#[s,x],argTypes:=#[t,t]})
  (B:Nat) (e:TypeId) (i:TypeInfo) (z:Value) (sz bytes:Nat) (cJ:P.underlying t= some (.slice e)) (bo:P.info? e= some i) (cF:i.zero= some z)
  (zF:i.size= sz) (sJ:i.bytes= bytes) (zM:z.cells.size= sz) (gd:0 < sz) {T:Type} (f:T->List Value) (hf:∀y,(f y).length= sz) (aCA:∀y u,u ∈ f y->u.oneCell'= true)
  (g:Nat) (aP:a.eval s= .slice g 0 0) (cy:ay w g e #[]) (qG:B<=g) (eH:Addr) (c2:Nat) (ys:List T) (av:a.eval x= .slice (some eH) ys c2) (bB:aX sz f w (some eH) ys)
  (h63:ys.length<=maxLen) (zm:ys.length * bytes<=140737488355328)
  (h:∀bS dq ah,bn B e sz f ah (.slice (some ⟨bS,0,none⟩) ys dq) ys->Below w w ah->(bS= g\/w.heap.size<=bS)->wpList P ops Q rest (a.put o.dst (.slice (some ⟨bS,0,none⟩) ys dq)) ah):wpList P ops Q (o ::rest) a w:=by
 rcases Nat.eq_zero_or_pos ys.length with h0 | h0
 .have hy:ys= []:=YD.1 h0
  subst hy
  refine aCb qm s x t dn e i cJ bo g 0 0 #[] aP cy eH 0 c2 [] av Wn (λj u hu=>by simp at hu) (λu hu=>by simp at hu) KK Wn λfz yP cK aB EE=>?_
  have asQ:yP= []:=by rw [cK];simp
  subst asQ
  have fM:ay fz g e #[]:=aB
  refine h g 0 fz ?_ ⟨EE.os,EE.tape,EE.output,EE.size,λk ax=>?_⟩ (.inl rfl)
  .exact bn.filled (xs:=[]) fM qG Wn (by unfold maxLen;simp) Wn hf
  .by_cases aeU:k= g
   .subst aeU;exact Eq.trans fM (Eq.symm cy)
   .exact EE.block k ax (λe=>aeU (Wx e))
 .subst zF;subst sJ
  have AZ:=grownCap_ge w (0 + ys.length) 0 e;have pV:=grownCap_le_maxLen w (0 + ys.length) 0 e KK;have jm:=h63
  unfold maxLen at jm
  have bu:=run_append_grow (P:=P) w t o.type e i z cJ bo cF ⟨g,0,none⟩ 0 0 [] Wn (by intro j v cc;simp at cc) eH ys.length c2 (ys.flatMap f) (nQ hf ys) (λj u hu=>aX.flat bB hf j u hu)
   KK KK (by rw [YF,nextslicecap_zero h0];omega)
  refine wpList_plain qm λ_ fj=>?_
  unfold Oper.wp execOp
  simp only [dn,resolve,invoke,builtin,Sem.run_bind,Sem.run_pure,Result.andThen_ok,List.map_toArray,List.map_cons,List.map_nil,aP,av,bu]
  refine fj _ _ ?_
  rw [YF]
  rw [YF] at AZ pV
  refine h w _ _ ?_ ⟨rfl,rfl,rfl,by simp,λk ax=>(bP w.drew _).block k ax⟩ (.inr (XZ _))
  refine⟨nQ hf ys,.inr ⟨w,_,_,rfl,Xr qG (Nat.le_of_lt (Array.getElem?_eq_some_iff.1 cy).1),(ay.new w.drew _ _),AZ,pV,?_,?_⟩⟩
  .simp only [Array.size_append,List.size_toArray,size_zeroCells,zM,nQ hf,ZS,YF,<- Nat.add_mul]
   congr 1
   omega
  .simp [nQ hf]
structure abS where
 ahc:ByteArray
 need:Int
 yes:Int
 no:Int
 bR:Int
 ok:ahc.size<=maxLen
def abS.cells (r:abS):List Value:=[.string r.ahc,.int .i64 r.need,.int .i64 r.yes,.int .i64 r.no,.int .i64 r.bR]
def ym (y n a:Int):Bool:=fB y 0 1000 && (fB n 0 1000 && fB a 0 1000)
theorem alq (h:l:=by
 subst az
 go_in
 go_wp2_with (go_at_call 79;refine (ku _ rfl _).mono ?_;rintro e ah ⟨rfl,rfl⟩)
 go_ret
 exact⟨rfl,rfl⟩):l:=h
theorem apr (n:Int) (v:Bool) (az:fB n 0 1000= v) (w:World):Rd 328 #[n] w λe ah=>e= .returned v/\ah= w:=by
 exact alq
theorem awq (n:Int) (v:Bool) (az:fB n 0 1000= v) (w:World):Rd 315 #[n] w λe ah=>e= .returned v/\ah= w:=by
 subst az
 go_in
 go_wp2_with (go_at_call 186;refine (lO _ rfl _).mono ?_;rintro e ah ⟨rfl,rfl⟩)
 go_ret
 exact⟨rfl,rfl⟩
theorem awf (n:Int) (v:Bool) (az:fB n 1 3= v) (w:World):Rd 282 #[n] w λe ah=>e= .returned v/\ah= w:=by
 exact alq
theorem XH (y n a:Int) (v:Bool) (az:ym y n a= v) (w:World):Rd 304 #[.agg #[y,n,a]] w λe ah=>e= .returned v/\Below w w ah:=by
 subst az
 go_in
 go_wp2_with (go_at_call 328;refine (apr _ _ rfl _).mono ?_;rintro e ah ⟨rfl,rfl⟩)
 all_goals go_ret
 all_goals exact⟨by simp [ym, *],bP _ _⟩
theorem XK (y n a:Int) (v:Bool) (az:ym y n a= v) (w:World):Rd 287 #[.agg #[y,n,a]] w λe ah=>e= .returned v/\Below w w ah:=by
 subst az
 go_in
 go_wp2_with (go_at_call 315;refine (awq _ _ rfl _).mono ?_;rintro e ah ⟨rfl,rfl⟩)
 all_goals go_ret
 all_goals exact⟨by simp [ym, *],bP _ _⟩
structure aao where
 id:Int
 day:Int
 need:Int
 yes:List Int
 no:List Int
 done:Bool
theorem ay.Vl {w:World} (h:ay w g t cs) {p:Addr} (aS:g≠p.block) (u:Value):ay (w.setCell p u) g t cs:=(Below.heap_setCell w p u g aS).trans h
def sA (need y n:Int):Bool:=if need= 1 then decide (n < y) else if need= 2 then decide (0 < y + n) && decide (2 * n<=y) else decide (0 < y) && decide (n= 0)
theorem amx (h:l:=by
 subst az
 by_cases aw:need= 1
 .subst aw
  go_in
  go_wp2
  go_ret
  exact⟨fe (by simp [sA]),rfl⟩
 by_cases c2:need= 2
 .subst c2
  by_cases c3:0 < y + n
  .go_in
   go_wp2
   go_ret
   exact⟨fe (by rw [Bool.eq_iff_iff];simp [sA] <;> omega),rfl⟩
  .go_in
   go_wp2
   go_ret
   exact⟨fe (by rw [Bool.eq_iff_iff];simp [sA] <;> omega),rfl⟩
 .have d1:(need == 1)= false:=Xb.2 aw
  have d2:(need == 2)= false:=Xb.2 c2
  by_cases c3:0 < y
  .go_in
   go_wp2
   go_ret
   exact⟨fe (by rw [Bool.eq_iff_iff];simp [sA,aw,c2] <;> omega),rfl⟩
  .go_in
   go_wp2
   go_ret
   exact⟨fe (by rw [Bool.eq_iff_iff];simp [sA,aw,c2] <;> omega),rfl⟩):l:=h
theorem awe (need y n:Int) (h0:-10000<=y) (h1:y<=10000) (h2:-10000<=n) (h3:n<=10000) (v:Bool) (az:sA need y n= v) (w:World):Rd 305 #[need,y,n] w λe ah=>e= .returned v/\ah= w:=by
 exact amx
theorem awp (need y n:Int) (h0:-10000<=y) (h1:y<=10000) (h2:-10000<=n) (h3:n<=10000) (v:Bool) (az:sA need y n= v) (w:World):Rd 316 #[need,y,n] w λe ah=>e= .returned v/\ah= w:=by
 exact amx
def aao.jv (d:aao):Bool:=sA d.need d.yes.length d.no.length
theorem Vt {T:Type} (enc:T->Value) (xs:List T):xs.flatMap (λx=>[enc x])= xs.map enc:=by induction xs <;> simp_all
theorem axQ {T:Type} [Inhabited T] {enc:T->Value} {w:World} {q:Nat} {eZ ys:List T} {os:Array Obj} (h:bn B e 1 (λx=>[enc x]) w (g eZ cap) eZ) (hy:ys.length= eZ.length) (ax:k<=eZ.length):
  bn B e 1 (λx=>[enc x]) (grow (putRow enc (Sort.ahead w q) g 0 ys.toArray) os) (g k cap) (ys.take k)/\w.grownBy (grow (putRow enc (Sort.ahead w q) g 0 ys.toArray) os) (some g):=by
 have cy:w.grownBy (grow (putRow enc (Sort.ahead w q) g 0 ys.toArray) os) (some g):=by
  refine⟨rfl,rfl,rfl,by simp,λk ax ew=>?_⟩
  rw [heap_grow_old _ _ (by simpa using ax)]
  have:g≠k:=λe=>ew (by rw [e])
  simp [putRow,mapBlock,Sort.ahead,Array.getElem?_modify,this]
 have h1:w.ownsRow B e 1 (g eZ cap) eZ.length (eZ.map enc):=by rw [<- Vt];exact h
 have h2:=Lib.ownsRow_putRow (q:=q) h1 hy ax
 refine⟨?_,cy⟩
 unfold bn
 rw [Vt,YA,Nat.min_eq_left KK]
 obtain⟨aT,aN⟩:=h2
 refine⟨aT,?_⟩
 rcases aN with ⟨e0,_⟩ | ⟨bS,UU,cur,e0,bz,gl,r⟩
 .cases e0
 .refine .inr ⟨bS,UU,cur,e0,bz,?_,r⟩
  rw [heap_grow_old _ _ (Array.getElem?_eq_some_iff.1 gl).1];exact gl
theorem axP {T:Type} [Inhabited T] {enc:T->Value} {w:World} {eZ:List T} (h:bn B e 1 (λx=>[enc x]) w (g eZ cap) eZ):
  Holds enc w g 0 eZ.toArray/\g < w.heap.size/\eZ.length<=cap/\cap<=maxLen:=by
 have h1:w.ownsRow B e 1 (g eZ cap) eZ.length (eZ.map enc):=by rw [<- Vt];exact h
 obtain⟨bS,UU,e1,h2,h3,h4,h5,h6,h7⟩:=Lib.holds_of_ownsRow h1 (by intro e;cases e)
 injection e1 with e2 _ e4
 injection e2 with e2
 injection e2 with e2
 subst e2;subst e4
 exact⟨h7,h3,h4,h5⟩
structure aM where
 id:Int
 name:ByteArray
 hS:Int
 second:Bool
 nc:Bool
 nM:Bool
 need:Int
 ok:name.size<=maxLen
def aM.cells (r:aM):List Value:=[.int .i64 r.id,.string r.name,.int .i64 r.hS,.bool r.second,.bool r.nc,.bool r.nM,.int .i64 r.need]
structure aZ where
 rule:Int
 mover:Int
 sec:Bool
def aZ.cells (q:aZ):List Value:=[.int .i64 q.rule,.int .i64 q.mover,.bool q.sec]
structure aW where
 mem:Int
 dw:Int
 dp:Int
def aW.cells (s:aW):List Value:=[.int .i64 s.mem,.int .i64 s.dw,.int .i64 s.dp]
structure Out where
 rule:Int
 mover:Int
 jv:Bool
def Out.cells (o:Out):List Value:=[.int .i64 o.rule,.int .i64 o.mover,.bool o.jv]
def tc (r:aM):Bool:=fB r.id 1 20 && (vZ r.name && (fB r.hS 0 9 && fB r.need 1 3))
def vS (xs:List aM):Nat->Bool
 | 0=>match xs[0]? with | some x=>tc x | none=>true
 | j + 1=>match xs[j]?,xs[j+1]? with | some y,some x=>tc x && (decide (y.id < x.id) && !(xs.take (j + 1)).any (λz=>z.name.toList == x.name.toList)) | _,_=>true
def jR (xs:List aM):Bool:=iv (vS xs) xs.length && decide (xs.length<=8)
theorem RH (r:aM) (v:Bool) (az:tc r= v) (w:World):Rd 212 #[.agg #[r.id,r.name,r.hS,r.second,r.nc,r.nM,r.need]] w λe ah=>e= .returned v/\Below w w ah:=by
 subst az
 obtain⟨id,nm,rk,s,d,a,dz,aP⟩:=r
 go_in
 go_wp2_with (first | (go_at_call 79;refine (ku _ rfl _).mono ?_;rintro e ah ⟨rfl,rfl⟩) | (go_at_call 281;refine (awg _ aP _ rfl _).mono ?_;rintro e ah ⟨rfl,rfl⟩) | (go_at_call 282;refine (awf _ _ rfl _).mono ?_;rintro e ah ⟨rfl,rfl⟩))
 all_goals go_ret
 all_goals exact⟨by simp [tc, *],bP _ _⟩
theorem RJ (r:aM) (v:Bool) (az:tc r= v) (w:World):Rd 215 #[.agg #[r.id,r.name,r.hS,r.second,r.nc,r.nM,r.need]] w λe ah=>e= .returned v/\Below w w ah:=by
 subst az
 obtain⟨id,nm,rk,s,d,a,dz,aP⟩:=r
 go_in
 go_wp2_with (first | (go_at_call 186;refine (lO _ rfl _).mono ?_;rintro e ah ⟨rfl,rfl⟩) | (go_at_call 283;refine (awG _ aP _ rfl _).mono ?_;rintro e ah ⟨rfl,rfl⟩))
 all_goals go_ret
 all_goals exact⟨by simp [tc, *],bP _ _⟩
theorem aHu (h:l:=by
 go_wp2
 go_roundw
 case rel=>exact⟨k + 1,by omega,by go_num,qg aT.o (by simp [la,av.o,aS]),ai aB fM⟩
 case measure=>simp [intOf];omega):l:=h
theorem aad (h:l:=by
 go_wp2
 go_ret
 exact⟨Km (XF bC aT.o (by simp [la,av.o,aS])).symm,ai aB fM⟩):l:=h
theorem RG (A:QR) (c:Nat) (xs:List aM) (bq:xs) (f:FuncId) (tw:Array Value) (Js:∀args W,(callFunc f args).run Tryz.prog W= .ok (.enter f args) W) (p:aM->Bool) (v:Int) (az:qS p xs= v) (w:World) (bB:aX 7 aM.cells w A xs)
 (hf:∀x,x ∈ xs->∀W,Below w w W->Calls Tryz.prog f (#[.agg #[.int .i64 x.id,.string x.name,.int .i64 x.hS,.bool x.second,.bool x.nc,.bool x.nM,.int .i64 x.need]] ++ tw) W λe ah=>e= .returned (.bool (p x))/\Below W W ah):
 Rd 203 #[A xs c,.func (.func f) #[] tw] w λe ah=>e= .returned v/\Below w w ah:=by
 subst az
 replace hf:=I hf
 go_in
 go_wp2
 go_loopw [8] (λi wr=>∃k:Nat,k<=xs.length/\i= .int .i64 k/\iv (λi=>!la p xs i) k= true/\Below w w wr) (λi _=>xs.length - (intOf i).toNat)
 case atStart=>exact⟨0,Xd _,rfl,rfl,Wt _ _⟩
 case round=>
  obtain⟨k,ax,rfl,aT,aB⟩:=hrel
  replace aT:=I aT
  by_cases bC:k < xs.length
  .obtain⟨b,off,x,rfl,eN,av,bO⟩:=bB.at_ aB bC
   have Lg:=I (hf.o x (YE av))
   obtain⟨ayX,aza,aze,azf,ayA,ayk,ayZ,rhs⟩:=x
   have f0:=bO 0 _ rfl;have f1:=bO 1 _ rfl;have f2:=bO 2 _ rfl;have f3:=bO 3 _ rfl;have f4:=bO 4 _ rfl;have f5:=bO 5 _ rfl;have f6:=bO 6 _ rfl
   simp only [XW] at f0
   have g0:=f0 (aD.self _);have g1:=f1 (aD.self _);have g2:=f2 (aD.self _);have g3:=f3 (aD.self _);have g4:=f4 (aD.self _);have g5:=f5 (aD.self _);have g6:=f6 (aD.self _)
   simp only [aD.self] at g0
   simp only [aD.self] at g1
   simp only [aD.self] at g2
   simp only [aD.self] at g3
   simp only [aD.self] at g4
   simp only [aD.self] at g5
   simp only [aD.self] at g6
   replace av:=I av;clear bO
   go_wp2_with fail
   refine (Lg.o _ aB).mono ?_
   rintro e ah ⟨rfl,fM⟩
   cases aS:p ⟨ayX,aza,aze,azf,ayA,ayk,ayZ,rhs⟩
   .exact aHu
   .exact aad
  .exact Tm
theorem apZ (A:QR) (c:Nat) (xs:List aM) (bq:xs) (f:FuncId) (tw:Array Value) (Js:∀args W,(callFunc f args).run Tryz.prog W= .ok (.enter f args) W) (p:aM->Bool) (v:Bool) (az:xs.any p= v) (w:World) (bB:aX 7 aM.cells w A xs)
 (hf:∀x,x ∈ xs->∀W,Below w w W->Calls Tryz.prog f (#[.agg #[.int .i64 x.id,.string x.name,.int .i64 x.hS,.bool x.second,.bool x.nc,.bool x.nM,.int .i64 x.need]] ++ tw) W λe ah=>e= .returned (.bool (p x))/\Below W W ah):
 Rd 213 #[A xs c,.func (.func f) #[] tw] w λe ah=>e= .returned v/\Below w w ah:=by
 subst az
 replace hf:=I hf;have cy:=RE p xs;replace cy:=I cy
 go_in
 go_wp2_with fail
 refine (RG A c xs bq f tw Js p _ rfl _ bB hf.o).mono ?_
 rintro e ah ⟨rfl,aB⟩
 go_wp2
 go_ret
 exact⟨fe cy.o,aB⟩
theorem azh (id:Int) (g:Nat) (x:aM) (W:World) (cy:W.cell? ⟨g,0,none⟩ =some (.int .i64 id)) (aT:g < W.heap.size):
 Rd 204 (#[.agg #[x.id,x.name,x.hS,x.second,x.nc,x.nM,x.need]] ++ #[.pointer (some ⟨g,0,none⟩)]) W λe ah=>e= .returned (.bool (x.id == id))/\Below W W ah:=by
 cases aB:x.id == id
 all_goals
  go_in
  go_wp2
  go_ret
  exact⟨rfl,bP _ _⟩
theorem Kq {c:Nat} {xs:List aM} (bq:xs) (v:Int) (az:qS (λr=>r.id == id) xs= v) {w:World} (bB:aX 7 aM.cells w A xs):
 Rd 122 #[A xs c,id] w λe ah=>e= .returned v/\Below w w ah:=by
 have hf:∀x,x ∈ xs->∀W,Below (w.alloc (.cells #[id] 3)).heap.size (w.alloc (.cells #[id] 3)) W->Rd 204 (#[.agg #[.int .i64 x.id,.string x.name,.int .i64 x.hS,.bool x.second,.bool x.nc,.bool x.nM,.int .i64 x.need]] ++ #[.pointer (some ⟨w,0,none⟩)]) W λe ah=>e= .returned (.bool (x.id == id))/\Below W W ah:=λx _ W cv=>by
  have bz:=ay.ad (ay.new w 3 #[id]) cv Wn
  exact azh id w x W (bz.cell 0) bz.lt
 have GM:=RG A c xs bq 204 #[.pointer (some ⟨w,0,none⟩)] (HS Tryz.func204 PV PV) (λr=>r.id == id) v az (w.alloc (.cells #[id] 3)) (bB.ad (bP _ _)) hf;replace GM:=I GM;clear hf az
 go_in
 go_wp2_with fail
 refine GM.o.mono ?_
 rintro e bm ⟨rfl,aB⟩
 go_wp2
 go_ret
 exact⟨rfl,ai (bP _ _) aB⟩
theorem xW {c:Nat} {xs:List aM} (bq:xs) (v:Int) (az:qS (λr=>r.id == id) xs= v) {w:World} (bB:aX 7 aM.cells w A xs):
 Rd 72 #[A xs c,id] w λe ah=>e= .returned v/\ah= w:=by
 subst az
 go_in
 go_wp2
 go_loop [5] (λi=>∃k:Nat,k<=xs.length/\i= .int .i64 k/\iv (λi=>!la (λr:aM=>r.id == id) xs i) k= true) (λi=>xs.length - (intOf i).toNat)
 case atStart=>exact⟨0,Xd _,rfl,rfl⟩
 case round=>
  obtain⟨k,ax,rfl,aT⟩:=hrel
  replace aT:=I aT
  by_cases bC:k < xs.length
  .obtain⟨b,off,x,rfl,eN,av,bO⟩:=bB.at_ (Wt _ _) bC
   obtain⟨Ph,nm,rk,s,d,a,dz,aP⟩:=x
   have g0:=bO 0 _ rfl (aD.self _)
   simp only [XW,aD.self] at g0
   replace av:=I av;clear bO
   by_cases he:Ph= id
   .have zn:(Ph == id)= true:=Xx.2 he
    have fl:=I zn
    go_wp2
    go_ret
    exact⟨Km (XF bC aT.o (by simp [la,av.o,fl.o])).symm,rfl⟩
   .have zn:(Ph == id)= false:=Xb.2 he
    go_wp2
    go_round
    case rel=>exact⟨k + 1,by omega,by go_num,qg aT.o (by simp [la,av.o,zn])⟩
    case measure=>simp [intOf];omega
  .obtain rfl:k= xs.length:=KK
   go_wp2
   go_ret
   exact⟨Km (XG aT.o).symm,rfl⟩
theorem JK:(Tryz.prog.info? 89).map (λi=>(i.zero,i.size,i.bytes))= some (some (.agg #[(0:Int),.string ⟨#[]⟩,(0:Int),false,false,false,(0:Int)]),7,48):=PV
theorem xd:(Tryz.prog.info? 115).map (λi=>(i.zero,i.size,i.bytes))= some (some (.agg #[(0:Int),(0:Int),false]),3,24):=PV
theorem Hl:(Tryz.prog.info? 214).map (λi=>(i.zero,i.size,i.bytes))= some (some (.agg #[(0:Int),(0:Int),(0:Int)]),3,24):=PV
theorem NS:(Tryz.prog.info? 163).map (λi=>(i.zero,i.size,i.bytes))= some (some (.agg #[(0:Int),(0:Int),false]),3,24):=PV
theorem apl {T:Type} {p:T->Bool} {xs:List T} (h:iv (λi=>!la p xs i) k= true):(xs.take k).any p= false:=by
 cases aN:(xs.take k).any p with
 | false=>rfl
 | true=>
  obtain⟨x,av,aS⟩:=List.any_eq_true.1 aN
  obtain⟨m,hm⟩:=YY.1 av
  rw [Yb] at hm
  split at hm
  .rename_i bC
   have:=oM.1 h m bC
   simp [la,hm,aS] at this
  .cases hm
theorem apm {T:Type} {p:T->Bool} {xs:List T} {m:Nat} {x:T} (hm:m < k) (av:xs[m]? =some x) (aS:p x= true):(xs.take k).any p= true:=
 List.any_eq_true.2 ⟨x,YY.2 ⟨m,by rw [Yb,XX hm];exact av⟩,aS⟩
theorem aGe {T:Type} {f:T->List Value} {w:World} {xs:List T} (h:aX sz f w A xs) (k:Nat):aX sz f w A (xs.take k):=by
 intro bq
 have sN:0 < xs.length:=by simp at bq;omega
 obtain⟨b,off,h1,h2,h3⟩:=h sN
 exact⟨b,off,h1,h2,λi x av j u hu=>h3 i x (by rw [Yb] at av;split at av;exact av;cases av) j u hu⟩
theorem HR {xs:List aM} {x y:aM} (av:xs[j + 1]? =some x) (hy:xs[j]? =some y):vS xs (j + 1)= (tc x && (decide (y.id < x.id) && !(xs.take (j + 1)).any (λz=>z.name.toList == x.name.toList))):=by
 simp only [vS,av,hy]
theorem azj (nm:VU) (g:Nat) (x:aM) (W:World) (cy:W.cell? ⟨g,1,none⟩ =some (.string nm)) (aT:g < W.heap.size):
 Rd 214 (#[.agg #[x.id,x.name,x.hS,x.second,x.nc,x.nM,x.need]] ++ #[.pointer (some ⟨g,0,none⟩)]) W λe ah=>e= .returned (.bool (x.name.toList == nm.toList))/\Below W W ah:=by
 cases aB:x.name.toList == nm.toList
 all_goals
  go_in
  go_wp2
  go_ret
  exact⟨rfl,bP _ _⟩
theorem alI (h:l:=by
 obtain rfl:k= xs.length:=KK
 go_wp2
 go_ret
 exact⟨fe (by rw [jR,aT.o];simp;omega),aB⟩):l:=h
theorem Hn {c:Nat} {xs:List aM} (bq:xs) (aN:xs.length<=c) (v:Bool) (az:jR xs= v) {w:World} (bB:aX 7 aM.cells w A xs):
 Rd 133 #[A xs c] w λe ah=>e= .returned v/\Below w w ah:=by
 subst az
 go_in
 go_wp2
 go_loopw [7] (λi wr=>∃k:Nat,k<=xs.length/\i= .int .i64 k/\iv (vS xs) k= true/\Below w w wr) (λi _=>xs.length - (intOf i).toNat)
 case atStart=>exact⟨0,Xd _,rfl,rfl,Wt _ _⟩
 case round=>
  obtain⟨k,ax,rfl,aT,aB⟩:=hrel
  replace aT:=I aT
  by_cases bC:k < xs.length
  .have EG:(k:Int)<=(c:Int):=KK
   have We:=bB.ad aB
   obtain⟨b,off,x,rfl,eN,av,bO⟩:=bB.at_ aB bC
   obtain⟨id,nm,rk,se,gQ,am,dz,aP⟩:=x
   have ql:=λj=>boxed wr #[id,nm,rk,se,gQ,am,dz] 89 j
   have n0:=ql 0 _ rfl;have n1:=ql 1 _ rfl;have n2:=ql 2 _ rfl;have n3:=ql 3 _ rfl;have n4:=ql 4 _ rfl;have n5:=ql 5 _ rfl;have n6:=ql 6 _ rfl;clear ql
   obtain⟨d,cr⟩ :∃d,(xs.take k).any (λz=>z.name.toList == nm.toList)= d:=⟨_,rfl⟩
   have FH:Hid (∀W UW,Below (wr.alloc (.cells #[id,nm,rk,se,gQ,am,dz] 89)).heap.size (wr.alloc (.cells #[id,nm,rk,se,gQ,am,dz] 89)) W->
     Rd 213 #[.slice (some ⟨b,off,none⟩) k UW,.func (.func 214) #[] #[.pointer (some ⟨wr,0,none⟩)]] W λe ah=>e= .returned (.bool d)/\Below W W ah):=I λW UW cv=>by
    have qL:(xs.take k).length= k:=by rw [YA];omega
    have bz:=ay.ad (ay.new wr 89 #[id,nm,rk,se,gQ,am,dz]) cv Wn;have h:=apZ (some ⟨b,off,none⟩) UW (xs.take k) KK 214 #[.pointer (some ⟨wr,0,none⟩)] (HS Tryz.func214 PV PV) (λz=>z.name.toList == nm.toList) d cr W ((aGe We k).ad (ai (bP _ _) cv)) (λx _ V iq=>azj nm wr x V ((bz.to iq).cell 1) (bz.to iq).lt)
    rw [qL] at h;exact h
   replace cr:=I cr;clear We
   cases k with
   | zero=>
    have asR:d= false:=by rw [<- cr.o];rfl
    subst asR
    have f0:=bO 0 _ rfl;have f1:=bO 1 _ rfl;have f2:=bO 2 _ rfl;have f3:=bO 3 _ rfl;have f4:=bO 4 _ rfl;have f5:=bO 5 _ rfl;have f6:=bO 6 _ rfl
    simp only [Xy,XW] at f0
    simp only [Xy] at f1
    simp only [Xy] at f2
    simp only [Xy] at f3
    simp only [Xy] at f4
    simp only [Xy] at f5
    simp only [Xy] at f6
    have g0:=f0 (aD.self _);have g1:=f1 (aD.self _);have g2:=f2 (aD.self _);have g3:=f3 (aD.self _);have g4:=f4 (aD.self _);have g5:=f5 (aD.self _);have g6:=f6 (aD.self _)
    simp only [aD.self] at g0
    simp only [aD.self] at g1
    simp only [aD.self] at g2
    simp only [aD.self] at g3
    simp only [aD.self] at g4
    simp only [aD.self] at g5
    simp only [aD.self] at g6
    replace av:=I av;clear bO
    cases az:tc ⟨id,nm,rk,se,gQ,am,dz,aP⟩
    all_goals
     have cI:=I az
     go_wp2
     refine eQ PV PV ?_
     repeat (go_big_quiet_step ((first | (go_at_call 212;exact aD.call _ (XZ _) (RH ⟨id,nm,rk,se,gQ,am,dz,aP⟩ _ cI.o _)) | (go_at_call 213;exact aD.call _ (XZ _) (FH.o _ _ (aD.ad _))))))
     refine VF ?_
     intro K
     go_wp2
    .go_ret
     exact⟨fe (by rw [jR,yM bC wa];rfl),ai aB (ai (bP _ _) K.ad)⟩
    .go_roundw
     case rel=>exact⟨1,by omega,by go_num,qg aT.o wa,ai aB (ai (bP _ _) K.ad)⟩
     case measure=>simp [intOf];omega
   | succ j=>
    obtain⟨df,vN,y,gx,_,hy,dC⟩:=bB.at_ aB (k:=j) KK
    simp only [Yg,Addr.mk.injEq,and_true] at gx
    obtain⟨rfl,rfl⟩:=gx
    obtain⟨yv,KM,vc,ys,Ft,rh,KN,KO⟩:=y
    have f0:=bO 0 _ rfl;have f1:=bO 1 _ rfl;have f2:=bO 2 _ rfl;have f3:=bO 3 _ rfl;have f4:=bO 4 _ rfl;have f5:=bO 5 _ rfl;have f6:=bO 6 _ rfl
    simp only [XW] at f0
    have g0:=f0 (aD.self _);have g1:=f1 (aD.self _);have g2:=f2 (aD.self _);have g3:=f3 (aD.self _);have g4:=f4 (aD.self _);have g5:=f5 (aD.self _);have g6:=f6 (aD.self _)
    simp only [aD.self] at g0
    simp only [aD.self] at g1
    simp only [aD.self] at g2
    simp only [aD.self] at g3
    simp only [aD.self] at g4
    simp only [aD.self] at g5
    simp only [aD.self] at g6
    have kz:=dC 0 _ rfl
    simp only [XW] at kz
    have aCh:=λK:aD (wr.alloc _).heap.size (wr.alloc (.cells #[id,nm,rk,se,gQ,am,dz] 89))=>kz (K.drop (bP _ _))
    simp only [aD.drop] at aCh
    replace av:=I av;clear bO;replace hy:=I hy;clear dC kz
    cases az:tc ⟨id,nm,rk,se,gQ,am,dz,aP⟩
    .have cI:=I az
     go_wp2
     refine eQ PV PV ?_
     repeat (go_big_quiet_step ((first | (go_at_call 212;exact aD.call _ (XZ _) (RH ⟨id,nm,rk,se,gQ,am,dz,aP⟩ _ cI.o _)) | (go_at_call 213;exact aD.call _ (XZ _) (FH.o _ _ (aD.ad _))))))
     refine VF ?_
     intro K
     go_wp2
     go_ret
     exact⟨fe (by rw [jR,yM bC (by simp [vS,av.o,hy.o,az])];rfl),ai aB (ai (bP _ _) K.ad)⟩
    .have cI:=I az
     by_cases hid:yv < id
     .have hle:decide (id<=yv)= false:=Xe KK
      cases d
      all_goals
       go_wp2
       refine eQ PV PV ?_
       repeat (go_big_quiet_step ((first | (go_at_call 212;exact aD.call _ (XZ _) (RH ⟨id,nm,rk,se,gQ,am,dz,aP⟩ _ cI.o _)) | (go_at_call 213;exact aD.call _ (XZ _) (FH.o _ _ (aD.ad _))))))
       refine VF ?_
       intro K
       go_wp2
      .go_roundw
       case rel=>exact⟨j + 1 + 1,by omega,by go_num,qg aT.o aGR,ai aB (ai (bP _ _) K.ad)⟩
       case measure=>simp [intOf];omega
      .go_ret
       exact⟨fe (by rw [jR,yM bC aGR];rfl),ai aB (ai (bP _ _) K.ad)⟩
     .go_wp2
      refine eQ PV PV ?_
      repeat (go_big_quiet_step ((first | (go_at_call 212;exact aD.call _ (XZ _) (RH ⟨id,nm,rk,se,gQ,am,dz,aP⟩ _ cI.o _)) | (go_at_call 213;exact aD.call _ (XZ _) (FH.o _ _ (aD.ad _))))))
      refine VF ?_
      intro K
      go_wp2
      go_ret
      exact⟨fe aGP,ai aB (ai (bP _ _) K.ad)⟩
  .exact alI
theorem RF {T:Type} (p:T->Bool):∀xs:List T,(xs.findIdx? p= none/\xs.find? p= none)\/∃(k:Nat) (x:T),xs.findIdx? p= some k/\xs[k]? =some x/\xs.find? p= some x
 | []=> .inl ⟨rfl,rfl⟩
 | y ::ys=>by
  cases aS:p y
  .rcases RF p ys with ⟨h1,h2⟩ | ⟨k,x,h1,h2,h3⟩
   .left;simp [List.findIdx?_cons,aS,h1,h2]
   .right;exact⟨k + 1,x,by simp [List.findIdx?_cons,aS,h1],by simpa using h2,by simp [aS,h3]⟩
  .right;exact⟨0,y,by simp [List.findIdx?_cons,aS],rfl,by simp [aS]⟩
theorem uM {T:Type} {p:T->Bool} {xs:List T} {x:T} (h:xs.find? p= some x):∃k:Nat,qS p xs= k/\xs[k]? =some x:=by
 rcases RF p xs with ⟨h1,h2⟩ | ⟨k,y,h1,h2,h3⟩
 .rw [h2] at h;cases h
 .rw [h3] at h;cases h;exact⟨k,by simp [qS,h1],h2⟩
theorem JJ {T:Type} {p:T->Bool} {xs:List T} (h:xs.find? p= none):qS p xs= -1:=by
 rcases RF p xs with ⟨h1,h2⟩ | ⟨k,y,h1,h2,h3⟩
 .simp [qS,h1]
 .rw [h3] at h;cases h
def jb (rs:List aM) (id:Int):Option aM:=rs.find? (λr=>r.id == id)
def fy (n:Int):Bool:=fB n 1 99
def mC (r:aM) (q:aZ):Bool:=r.second && !q.sec
theorem kx (v:Bool) (az:fy n= v) (w:World):Rd 123 #[n] w λe ah=>e= .returned v/\ah= w:=by
 go_in
 go_wp2_with (go_at_call 79;refine (ku _ az _).mono ?_;rintro e ah ⟨rfl,rfl⟩)
 go_ret
 exact⟨rfl,rfl⟩
theorem km (v:Bool) (az:fy n= v) (w:World):Rd 162 #[n] w λe ah=>e= .returned v/\ah= w:=by
 go_in
 go_wp2_with (go_at_call 186;refine (lO _ az _).mono ?_;rintro e ah ⟨rfl,rfl⟩)
 go_ret
 exact⟨rfl,rfl⟩
theorem tQ {c:Nat} {rs:List aM} (bq:rs) (q:aZ) (r:aM) (bu:jb rs q.rule= some r) {w:World} (bB:aX 7 aM.cells w A rs):
 Rd 69 #[A rs c,.agg #[q.rule,q.mover,q.sec]] w λe ah=>e= .returned (.agg #[r.id,r.name,r.hS,r.second,r.nc,r.nM,r.need])/\Below w w ah:=by
 obtain⟨k,bo,ax⟩:=uM bu
 have bC:k < rs.length:=(Xg.1 ax).1;replace bo:=I bo;clear bu
 go_in
 go_upto_region 1 with fail
 refine fU λajV ar eA J=>?_
 replace bB:=bB.ad ar;have U:=ar;have fJ:=eA.cb;obtain⟨z0,bF,z2,z3,z4,z5,ek⟩:=J.ij
 go_wp2_with fail
 refine (Kq bq _ bo.o (bB.ad ao)).mono ?_
 rintro e aI ⟨rfl,aQ⟩
 have aj:=be ajV aQ;replace U:=ai U aj;replace bB:=bB.ad aj;clear fJ;replace J:=J.to aj;clear z0 bF z2 z3 z4 z5 ek;obtain⟨z0,bF,z2,z3,z4,z5,ek⟩:=J.ij
 obtain⟨b,off,hr,rfl,eN,av,bO⟩:=bB.at_ (Wt _ _) bC
 obtain rfl:r= hr:=Wx (ax.symm.trans av)
 have f0:=bO 0 _ rfl;have f1:=bO 1 _ rfl;have f2:=bO 2 _ rfl;have f3:=bO 3 _ rfl;have f4:=bO 4 _ rfl;have f5:=bO 5 _ rfl;have f6:=bO 6 _ rfl
 simp only [XW] at f0
 have g0:=f0 (aD.self _);have g1:=f1 (aD.self _);have g2:=f2 (aD.self _);have g3:=f3 (aD.self _);have g4:=f4 (aD.self _);have g5:=f5 (aD.self _);have g6:=f6 (aD.self _)
 simp only [aD.self] at g0
 simp only [aD.self] at g1
 simp only [aD.self] at g2
 simp only [aD.self] at g3
 simp only [aD.self] at g4
 simp only [aD.self] at g5
 simp only [aD.self] at g6
 clear av bO ax;have eg:=J.Jh
 go_wp2
 clear z0 bF z2 z3 z4 z5 ek
 refine OU 0 λcP aE=>?_
 replace U:=aE.aN U;replace J:=aE.Mf J
 have z0:=J.ij
 exact hV ⟨rfl,U⟩ (by simp [results,Tryz.results69,go_sem,z0])
theorem zQ {c:Nat} {rs:List aM} (bq:rs) (q:aZ) (r:aM) (bu:jb rs q.rule= some r) (v:Bool) (az:mC r q= v) {w:World} (bB:aX 7 aM.cells w A rs):
 Rd 198 #[A rs c,.agg #[q.rule,q.mover,q.sec]] w λe ah=>e= .returned v/\Below w w ah:=by
 subst az
 obtain⟨qr,cQ,qs⟩:=q
 obtain⟨id,nm,rk,se,gQ,am,dz,aP⟩:=r
 go_in
 go_wp2_with fail
 refine (tQ bq ⟨qr,cQ,qs⟩ ⟨id,nm,rk,se,gQ,am,dz,aP⟩ bu (bB.ad (bP _ _))).mono ?_
 rintro e bm ⟨rfl,bD⟩
 have eA:=(ay.new w 115 #[qr,cQ,qs]).ad bD Wn;have gM:=(eA.cell 2).trans (show _= some (.bool qs) from rfl);clear bu
 have wT:∀W:World,(Instr.field 89 (.agg #[id,nm,rk,se,gQ,am,dz]) 3).run Tryz.prog W= .ok (.bool se) W:=λ_=>by kernel_rfl
 cases se <;> cases qs
 all_goals
  go_wp2
  go_ret
  exact⟨by simp [mC],ai (bP _ _) bD⟩
theorem sT {c:Nat} {rs:List aM} (bq:rs) (q:aZ) (r:aM) (bu:jb rs q.rule= some r) (v:Bool) (az:mC r q= v) {w:World} (bB:aX 7 aM.cells w A rs):
 Rd 163 #[A rs c,.agg #[q.rule,q.mover,q.sec]] w λe ah=>e= .returned v/\Below w w ah:=by
 subst az
 obtain⟨k,bo,ax⟩:=uM bu
 have bC:k < rs.length:=(Xg.1 ax).1;replace bo:=I bo;clear bu
 obtain⟨b,off,hr,rfl,eN,av,bO⟩:=bB.at_ (bP w (.cells #[q.rule,q.mover,q.sec] 115)) bC
 obtain rfl:r= hr:=Wx (ax.symm.trans av)
 obtain⟨qr,cQ,qs⟩:=q
 obtain⟨id,nm,rk,se,gQ,am,dz,aP⟩:=r
 have g3:=bO 3 _ rfl (aD.self _)
 simp only [aD.self] at g3
 clear bO av
 cases se <;> cases qs
 all_goals
  go_in
  go_wp2_with fail
  refine (xW bq _ bo.o (bB.ad (bP _ _))).mono ?_
  rintro e bm ⟨rfl,rfl⟩
  go_wp2
  go_ret
  exact⟨by simp [mC],bP _ _⟩
theorem JS {c:Nat} {rs:List aM} (bq:rs) (q:aZ) (r:aM) (bu:jb rs q.rule= some r) {w:World} (bB:aX 7 aM.cells w A rs):
 Rd 164 #[A rs c,.agg #[q.rule,q.mover,q.sec]] w λe ah=>e= .returned r.hS/\Below w w ah:=by
 obtain⟨k,bo,ax⟩:=uM bu
 have bC:k < rs.length:=(Xg.1 ax).1;replace bo:=I bo;clear bu
 obtain⟨b,off,hr,rfl,eN,av,bO⟩:=bB.at_ (bP w (.cells #[q.rule,q.mover,q.sec] 115)) bC
 obtain rfl:r= hr:=Wx (ax.symm.trans av)
 obtain⟨qr,cQ,qs⟩:=q
 obtain⟨id,nm,rk,se,gQ,am,dz,aP⟩:=r
 have g2:=bO 2 _ rfl (aD.self _)
 simp only [aD.self] at g2
 clear bO av
 go_in
 go_wp2_with fail
 refine (xW bq _ bo.o (bB.ad (bP _ _))).mono ?_
 rintro e bm ⟨rfl,rfl⟩
 go_wp2
 go_ret
 exact⟨rfl,bP _ _⟩
theorem zO {c:Nat} {xs:List aM} (bq:xs) (v:Bool) (az:jR xs= v) {w:World} (bB:aX 7 aM.cells w A xs):
 Rd 135 #[A xs c] w λe ah=>e= .returned v/\Below w w ah:=by
 subst az
 go_in
 go_wp2
 go_loopw [3,4] (λi _ wr=>∃k:Nat,k<=xs.length/\k<=9/\i= .int .i64 k/\iv (vS xs) k= true/\Below w w wr) (λi _ _=>xs.length - (intOf i).toNat)
 case atStart=>exact⟨0,Xd _,by omega,rfl,rfl,Wt _ _⟩
 case round=>
  obtain⟨k,ax,aeT,rfl,aT,aB⟩:=hrel
  replace aT:=I aT
  by_cases bC:k < xs.length
  .by_cases h9:k<=8
   .obtain⟨b,off,x,yV,eN,av,bO⟩:=bB.at_ aB bC
    have We:=bB.ad aB
    subst yV
    obtain⟨id,nm,rk,se,gQ,am,dz,aP⟩:=x
    cases k with
    | zero=>
     have f0:=bO 0 _ rfl;have f1:=bO 1 _ rfl;have f2:=bO 2 _ rfl;have f3:=bO 3 _ rfl;have f4:=bO 4 _ rfl;have f5:=bO 5 _ rfl;have f6:=bO 6 _ rfl
     simp only [Xy,XW] at f0
     simp only [Xy] at f1
     simp only [Xy] at f2
     simp only [Xy] at f3
     simp only [Xy] at f4
     simp only [Xy] at f5
     simp only [Xy] at f6
     have g0:=f0 (aD.self _);have g1:=f1 (aD.self _);have g2:=f2 (aD.self _);have g3:=f3 (aD.self _);have g4:=f4 (aD.self _);have g5:=f5 (aD.self _);have g6:=f6 (aD.self _)
     simp only [aD.self] at g0
     simp only [aD.self] at g1
     simp only [aD.self] at g2
     simp only [aD.self] at g3
     simp only [aD.self] at g4
     simp only [aD.self] at g5
     simp only [aD.self] at g6
     replace av:=I av;clear bO
     cases az:tc ⟨id,nm,rk,se,gQ,am,dz,aP⟩
     all_goals
      have cI:=I az
      go_wp2
      refine eQ PV PV ?_
      repeat (go_big_quiet_step ((go_at_call 215;exact aD.call _ (XZ _) (RJ ⟨id,nm,rk,se,gQ,am,dz,aP⟩ _ cI.o _))))
      refine VF ?_
      intro K
      go_wp2
     .go_ret
      exact⟨fe (by rw [jR,yM bC wa];rfl),ai aB K.ad⟩
     .go_loopw [4] (λj Pg=>j= .int .i64 0/\Below w w Pg) (λ_ _=>0)
      case atStart=>exact⟨rfl,ai aB K.ad⟩
      case round=>
       obtain⟨rfl,aQ⟩:=hrel
       go_wp2
       go_roundw
       case rel=>exact⟨1,by omega,by omega,by go_num,qg aT.o wa,aQ⟩
       case measure=>simp [intOf];omega
    | succ j=>
     obtain⟨df,vN,y,gx,_,hy,dC⟩:=bB.at_ aB (k:=j) KK
     simp only [Yg,Addr.mk.injEq,and_true] at gx
     obtain⟨rfl,rfl⟩:=gx
     obtain⟨yv,KM,vc,ys,Ft,rh,KN,KO⟩:=y
     have f0:=bO 0 _ rfl;have f1:=bO 1 _ rfl;have f2:=bO 2 _ rfl;have f3:=bO 3 _ rfl;have f4:=bO 4 _ rfl;have f5:=bO 5 _ rfl;have f6:=bO 6 _ rfl
     simp only [XW] at f0
     have g0:=f0 (aD.self _);have g1:=f1 (aD.self _);have g2:=f2 (aD.self _);have g3:=f3 (aD.self _);have g4:=f4 (aD.self _);have g5:=f5 (aD.self _);have g6:=f6 (aD.self _)
     simp only [aD.self] at g0
     simp only [aD.self] at g1
     simp only [aD.self] at g2
     simp only [aD.self] at g3
     simp only [aD.self] at g4
     simp only [aD.self] at g5
     simp only [aD.self] at g6
     have kz:=dC 0 _ rfl
     simp only [XW] at kz
     replace av:=I av;clear bO;replace hy:=I hy;clear dC
     cases az:tc ⟨id,nm,rk,se,gQ,am,dz,aP⟩
     .have cI:=I az
      go_wp2
      refine eQ PV PV ?_
      repeat (go_big_quiet_step ((go_at_call 215;exact aD.call _ (XZ _) (RJ ⟨id,nm,rk,se,gQ,am,dz,aP⟩ _ cI.o _))))
      refine VF ?_
      intro K
      go_wp2
      go_ret
      exact⟨fe (by rw [jR,yM bC (by rw [HR av.o hy.o,az];rfl)];rfl),ai aB K.ad⟩
     .have cI:=I az
      by_cases hid:yv < id
      .have hle:decide (id<=yv)= false:=Xe KK
       go_wp2
       refine eQ PV PV ?_
       repeat (go_big_quiet_step ((go_at_call 215;exact aD.call _ (XZ _) (RJ ⟨id,nm,rk,se,gQ,am,dz,aP⟩ _ cI.o _))))
       refine VF ?_
       intro K
       go_wp2
       go_loopw [4] (λi Pg=>∃m:Nat,m<=j + 1/\i= .int .i64 m/\iv (λi=>!la (λz:aM=>z.name.toList == nm.toList) xs i) m= true/\Below w w Pg) (λi _=>j + 1 - (intOf i).toNat)
       case atStart=>exact⟨0,by omega,rfl,rfl,ai aB K.ad⟩
       case round=>
        clear f0 f1 f2 f3 f4 f5 f6 g0 g1 g2 g3 g4 g5 g6 kz
        obtain⟨m,hm,rfl,jm,aQ⟩:=hrel
        replace jm:=I jm
        by_cases rB:m < j + 1
        .obtain⟨eb,aEL,z,e3,_,cF,tD⟩:=bB.at_ aQ (k:=m) KK
         simp only [Yg,Addr.mk.injEq,and_true] at e3
         obtain⟨rfl,rfl⟩:=e3
         obtain⟨eL,aEM,cZ,e4,_,JH,aeH⟩:=bB.at_ aQ (k:=j + 1) KK
         simp only [Yg,Addr.mk.injEq,and_true] at e4
         obtain⟨rfl,rfl⟩:=e4
         obtain rfl:_= cZ:=Wx (av.o.symm.trans JH)
         have dJ:=tD 1 _ rfl;have q1:=aeH 1 _ rfl;replace cF:=I cF;clear tD aeH JH
         cases cr:(z.name.toList == nm.toList)
         all_goals
          have lC:=I cr
          go_wp2
          refine eQ PV PV ?_
          repeat go_big_quiet_step (fail)
          refine VF ?_
          intro ff
          go_wp2
         .go_roundw
          case rel=>exact⟨m + 1,by omega,by go_num,qg jm.o (by simp [la,cF.o,lC.o]),ai aQ ff.ad⟩
          case measure=>simp [intOf];omega
         .go_ret
          exact⟨fe (by rw [jR,yM bC (by rw [HR av.o hy.o,apm rB cF.o lC.o,az];simp)];rfl),ai aQ ff.ad⟩
        .obtain rfl:m= j + 1:=KK
         go_wp2
         go_roundw
         case rel=>exact⟨j + 1 + 1,by omega,by omega,by go_num,qg aT.o (by rw [HR av.o hy.o,az,apl jm.o,Xh (show (aM.id ⟨yv,KM,vc,ys,Ft,rh,KN,KO⟩) < (aM.id ⟨id,nm,rk,se,gQ,am,dz,aP⟩) from hid)];rfl),aQ⟩
         case measure=>simp [intOf];omega
      .go_wp2
       refine eQ PV PV ?_
       repeat (go_big_quiet_step ((go_at_call 215;exact aD.call _ (XZ _) (RJ ⟨id,nm,rk,se,gQ,am,dz,aP⟩ _ cI.o _))))
       refine VF ?_
       intro K
       go_wp2
       go_ret
       exact⟨fe aGP,ai aB K.ad⟩
   .have h8:decide (xs.length<=8)= false:=Xe KK
    go_wp2
    go_ret
    exact⟨fe (by rw [jR,h8,Bool.and_false];exact Xe KK),aB⟩
  .exact alI
def sZ (rs:List aM) (q:aZ):Bool:=match jb rs q.rule with | some r=>fy q.mover && !(q.sec && !r.second) | none=>false
def Ke (rs:List aM) (p q:aZ):Bool:=match jb rs p.rule,jb rs q.rule with | some t,some r=>!mC t p && decide (t.hS < r.hS) | _,_=>false
def ta (rs:List aM) (qs:List aZ):Nat->Bool
 | 0=>match qs[0]? with | some q=>sZ rs q | none=>true
 | j + 1=>match qs[j]?,qs[j + 1]? with | some p,some q=>sZ rs q && Ke rs p q | _,_=>true
def ee (rs:List aM) (qs:List aZ):Bool:=jR rs && (decide (qs.length<=6) && iv (ta rs qs) qs.length)
theorem Dq {rs:List aM} {qs:List aZ} {p q:aZ} (aS:qs[j]? =some p) (bt:qs[j + 1]? =some q):ta rs qs (j + 1)= (sZ rs q && Ke rs p q):=by simp only [ta,aS,bt]
theorem Sz {rs:List aM} {qs:List aZ} {q:aZ} (bt:qs[0]? =some q):ta rs qs 0= sZ rs q:=by simp only [ta,bt]
theorem OC {rs:List aM} {q:aZ} (h:sZ rs q= true):∃r,jb rs q.rule= some r:=by
 unfold sZ at h
 split at h
 .rename_i r bu;exact⟨r,bu⟩
 .cases h
theorem Fa {rs:List aM} {qs:List aZ} {q:aZ} (h:ta rs qs k= true) (bt:qs[k]? =some q):sZ rs q= true:=by
 cases k with
 | zero=>rw [Sz bt] at h;exact h
 | succ j=>
  have bC:=(Xg.1 bt).1;have aS:qs[j]? =some qs[j]:=Xj KK
  rw [Dq aS bt,Xa] at h;exact h.1
theorem aHU {rs:List aM} {qs:List aZ} {q:aZ} (bt:qs[k]? =some q) (h:sZ rs q= false):ta rs qs k= false:=by
 cases aN:ta rs qs k with
 | false=>rfl
 | true=>rw [Fa aN bt] at h;cases h
theorem ayi {rs:List aM} {q:aZ} (h:jb rs q.rule= none):sZ rs q= false:=by simp [sZ,h]
theorem Bs {rs:List aM} {q:aZ} {r:aM} (h:jb rs q.rule= some r):sZ rs q= (fy q.mover && !(q.sec && !r.second)):=by simp [sZ,h]
theorem zS {rs:List aM} {p q:aZ} {t r:aM} (h:jb rs p.rule= some t) (h2:jb rs q.rule= some r):Ke rs p q= (!mC t p && decide (t.hS < r.hS)):=by simp [Ke,h,h2]
theorem pB {rs:List aM} {qs:List aZ} (h:ee rs qs= true) {q:aZ} (bt:qs[k]? =some q):∃r,jb rs q.rule= some r:=by
 simp only [ee,Xa] at h
 exact OC (Fa (oM.1 h.2.2 k (Xg.1 bt).1) bt)
theorem HG {rs:List aM} {qs:List aZ} (ax:k < qs.length) (h:ta rs qs k= false):ee rs qs= false:=by rw [ee,yM ax h];simp
theorem ald (h:l:=by
 rintro e bm ⟨rfl,bD⟩
 have ar:=be w bD;have U:Below w w bm:=ar
 go_wp2
 go_ret
 exact⟨fe (by simp [ee,bu]),(ai U ao)⟩):l:=h
theorem akO (h:l:=by
 rintro e bm ⟨rfl,bD⟩
 have ar:=be w bD;have U:Below w w bm:=ar
 go_wp2
 go_ret
 exact⟨fe (by rw [ee,Xe WT];simp),(ai U ao)⟩):l:=h
theorem alw (h:l:=by
 go_wp2
 go_ret
 exact⟨fe (HG bC (aHU av.o (ayi (q:=⟨qr,cQ,sY⟩) hf.o))).symm,(ai U ao)⟩):l:=h
theorem akW (h:l:=by
 go_wp2
 go_ret
 exact⟨fe (HG bC (aHU av.o (by rw [Bs (q:=⟨qr,cQ,sY⟩) hf.o];simp only [jH.o];rfl))).symm,(ai U ao)⟩):l:=h
theorem akR (h:l:=by
 go_wp2
 go_roundw
 case rel=>exact⟨1,by omega,by go_num,qg aT.o (by rw [Sz av.o];exact yF.o),(ai U ao)⟩
 case measure=>simp [intOf];omega):l:=h
theorem amT (h:l:=by
 repeat go_big_quiet_step (fail)
 refine VF ?_
 intro K
 go_wp2
 go_roundw
 case rel=>exact⟨j + 1 + 1,by omega,by go_num,qg aT.o (by rw [Dq Cb.o av.o,yF.o,zS bX.o hf.o,gF.o,Xh (show (aM.hS ⟨tid,kd,gh,hT,kc,kb,mq,tok⟩) < (aM.hS ⟨id,nm,rk,se,gQ,am,dz,aP⟩) from ND)];rfl),ai U K.ad⟩
 case measure=>simp [intOf];omega):l:=h
theorem ani (h:l:=by
 repeat go_big_quiet_step (fail)
 refine VF ?_
 intro K
 go_wp2
 go_ret
 exact⟨fe (HG bC (by rw [Dq Cb.o av.o,yF.o,zS bX.o hf.o,gF.o,Xe (show¬(aM.hS ⟨tid,kd,gh,hT,kc,kb,mq,tok⟩) < (aM.hS ⟨id,nm,rk,se,gQ,am,dz,aP⟩) from by show¬gh < rk;omega)];rfl)).symm,ai U K.ad⟩):l:=h
theorem amB (h:l:=by
 have gF:=I rA;clear rA;clear bE
 refine eQ PV PV ?_
 repeat go_big_quiet_step (fail)
 go_big_quiet_step ((go_at_call 198;exact aD.call _ Xm (zQ bq ⟨oD,pm,jn⟩ ⟨tid,kd,gh,hT,kc,kb,mq,tok⟩ bX.o _ gF.o (lH.o.ad (aD.ad _)))))
 repeat go_big_quiet_step (fail)
 refine VF ?_
 intro K
 go_wp2
 go_ret
 exact⟨fe (HG bC (by rw [Dq Cb.o av.o,yF.o,zS bX.o hf.o,gF.o];rfl)).symm,ai U K.ad⟩):l:=h
theorem akT (h:l:=by
 go_wp2
 go_ret
 exact⟨fe (HG bC (aHU av.o aGw)).symm,(ai U ao)⟩):l:=h
theorem amS (h:l:=by
 repeat go_big_quiet_step (fail)
 refine VF ?_
 intro K
 go_wp2
 go_roundw
 case rel=>exact⟨j + 1 + 1,by omega,by go_num,qg aT.o (by rw [Dq Cb.o av.o,yF.o,zS bX.o hf.o,gF.o,Xh (show (aM.hS ⟨tid,kd,gh,hT,kc,kb,mq,tok⟩) < (aM.hS ⟨id,nm,rk,true,gQ,am,dz,aP⟩) from ND)];rfl),ai U K.ad⟩
 case measure=>simp [intOf];omega):l:=h
theorem anh (h:l:=by
 repeat go_big_quiet_step (fail)
 refine VF ?_
 intro K
 go_wp2
 go_ret
 exact⟨fe (HG bC (by rw [Dq Cb.o av.o,yF.o,zS bX.o hf.o,gF.o,Xe (show¬(aM.hS ⟨tid,kd,gh,hT,kc,kb,mq,tok⟩) < (aM.hS ⟨id,nm,rk,true,gQ,am,dz,aP⟩) from by show¬gh < rk;omega)];rfl)).symm,ai U K.ad⟩):l:=h
theorem aln (h:l:=by
 obtain rfl:k= qs.length:=KK
 go_wp2
 go_ret
 exact⟨fe (by rw [ee,ju.o,Xh WT,aT.o];rfl),(ai U ao)⟩):l:=h
theorem qh (A:QR) (c:Nat) (rs:List aM) (bq:rs) (aN:rs.length<=c) (B:QR) (d:Nat) (qs:List aZ) (bt:qs) (v:Bool) (az:ee rs qs= v) (w:World) (bB:aX 7 aM.cells w A rs) (eA:aX 3 aZ.cells w B qs):
 Rd 118 #[A rs c,B qs d] w λe ah=>e= .returned v/\Below w w ah:=by
 subst az
 cases bu:jR rs
 .have ju:=I bu
  go_in
  go_wp2_with fail
  refine (Hn bq aN _ ju.o (bB.ad ao)).mono ?_
  exact ald
 by_cases WT:qs.length<=6
 case neg=>
  have ju:=I bu
  go_in
  go_wp2_with fail
  refine (Hn bq aN _ ju.o (bB.ad ao)).mono ?_
  exact akO
 have ju:=I bu
 go_in
 have pj:=I bB;have Wb:=I eA
 go_wp2_with fail
 refine (Hn bq aN _ ju.o (bB.ad ao)).mono ?_
 rintro e bm ⟨rfl,bD⟩
 have ar:=be w bD;have U:Below w w bm:=ar;replace bB:=bB.ad ar;replace eA:=eA.ad ar
 go_wp2
 go_loopw [17] (λi wr=>∃k:Nat,k<=qs.length/\i= .int .i64 k/\iv (ta rs qs) k= true/\Below w w wr) (λi _=>qs.length - (intOf i).toNat)
 case atStart=>exact⟨0,Xd _,rfl,rfl,U⟩
 case round=>
  obtain⟨k,ax,rfl,aT,aB⟩:=hrel
  replace aT:=I aT;clear U;replace bB:=pj.o;replace eA:=Wb.o;have ar:=be w aB;have U:Below w w wr:=ar;replace bB:=bB.ad ar;replace eA:=eA.ad ar
  by_cases bC:k < qs.length
  .obtain⟨b,off,q,rfl,eN,av,bO⟩:=eA.at_ (Wt _ _) bC
   obtain⟨qr,cQ,sY⟩:=q
   have f0:=bO 0 _ rfl;have f1:=bO 1 _ rfl;have f2:=bO 2 _ rfl
   simp only [XW] at f0
   have g0:=f0 (aD.self _);have g1:=f1 (aD.self _);have g2:=f2 (aD.self _)
   simp only [aD.self] at g0
   simp only [aD.self] at g1
   simp only [aD.self] at g2
   replace av:=I av;clear bO
   go_upto_region 6 with fail
   refine dh λaO aj aR=>?_
   replace bB:=bB.ad aj;replace eA:=eA.ad aj;replace U:=ai U aj;have bE:=aR.cb;clear f0 f1 f2 g0 g1 g2
   cases hf:jb rs qr with
   | none=>
    replace hf:=I hf
    go_wp2_with fail
    refine (Kq bq _ (JJ hf.o) (bB.ad ao)).mono ?_
    rintro e bw ⟨rfl,bG⟩
    have aY:=be aO bG;replace U:=ai U aY;clear bE
    exact alw
   | some r=>
    replace hf:=I hf
    obtain⟨m,hm,wY⟩:=uM hf.o
    replace hm:=I hm;clear wY
    obtain⟨id,nm,rk,se,gQ,am,dz,aP⟩:=r
    go_wp2_with fail
    refine (Kq bq _ hm.o (bB.ad ao)).mono ?_
    rintro e bw ⟨rfl,bG⟩
    have aY:=be aO bG;replace U:=ai U aY;replace bB:=bB.ad aY;replace eA:=eA.ad aY;replace aR:=aR.to aY;replace bE:=aR.cb
    cases jH:fy cQ
    .replace jH:=I jH
     go_wp2_with fail
     refine (kx _ jH.o _).mono ?_
     rintro e w0 ⟨rfl,h0⟩
     rw [h0]
     clear h0 w0
     exact akW
    .replace jH:=I jH
     cases sY
     .skip
      replace bE:=aR.cb
      go_wp2_with fail
      refine (kx _ jH.o _).mono ?_
      rintro e w0 ⟨rfl,h0⟩
      rw [h0]
      clear h0 w0
      go_upto_region 8 with fail
      have yF:Hid (sZ rs ⟨qr,cQ,false⟩ =true):=I aGX
      cases k with
      | zero=>
       clear bE
       refine eQ PV PV ?_
       repeat (go_big_quiet_step ((fail)))
       refine VF ?_
       intro K
       have cj:Below bw bw K.world:=ai ao K.ad;replace U:=ai U cj
       exact akR
      | succ j=>
       obtain⟨df,vN,p,gx,_,hy,dC⟩:=eA.at_ (Wt _ _) (k:=j) KK
       simp only [Yg,Addr.mk.injEq,and_true] at gx
       obtain⟨rfl,rfl⟩:=gx
       obtain⟨t,zG⟩:=OC (Fa (oM.1 aT.o j KK) hy)
       obtain⟨oD,pm,jn⟩:=p
       obtain⟨tid,kd,gh,hT,kc,kb,mq,tok⟩:=t
       have kz:=dC 0 _ rfl;have sl:=dC 1 _ rfl;have hU:=dC 2 _ rfl
       simp only [XW] at kz
       have Cb:=I hy;clear hy dC;have bX:=I zG;clear zG;have lH:=I bB
       have CI:∀W:World,(Instr.field 89 (.agg #[tid,kd,gh,hT,kc,kb,mq]) 2).run Tryz.prog W= .ok (.int .i64 gh) W:=λ_=>by kernel_rfl
       have ED:∀W:World,(Instr.field 89 (.agg #[id,nm,rk,se,gQ,am,dz]) 2).run Tryz.prog W= .ok (.int .i64 rk) W:=λ_=>by kernel_rfl
       cases rA:mC ⟨tid,kd,gh,hT,kc,kb,mq,tok⟩ ⟨oD,pm,jn⟩
       .have gF:=I rA;clear rA
        by_cases ND:gh < rk
        .have hle:decide (rk<=gh)= false:=Xe KK
         replace bE:=ay.kF (λK:aD bw bw=>(aR.ad K.ad aR.lt))
         refine eQ PV PV ?_
         repeat go_big_quiet_step (fail)
         go_big_quiet_step ((go_at_call 198;exact aD.call _ Xm (zQ bq ⟨oD,pm,jn⟩ ⟨tid,kd,gh,hT,kc,kb,mq,tok⟩ bX.o _ gF.o (lH.o.ad (aD.ad _)))))
         repeat go_big_quiet_step (fail)
         go_big_quiet_step ((go_at_call 69;exact aD.call _ Xm (tQ bq ⟨oD,pm,jn⟩ ⟨tid,kd,gh,hT,kc,kb,mq,tok⟩ bX.o (lH.o.ad (aD.ad _)))))
         repeat go_big_quiet_step (fail)
         go_big_quiet_step ((go_at_call 69;exact aD.call _ Xm (tQ bq ⟨qr,cQ,false⟩ ⟨id,nm,rk,se,gQ,am,dz,aP⟩ hf.o (lH.o.ad (aD.ad _)))))
         exact amT
        .have hle:decide (rk<=gh)= true:=Xh KK
         replace bE:=ay.kF (λK:aD bw bw=>(aR.ad K.ad aR.lt))
         refine eQ PV PV ?_
         repeat go_big_quiet_step (fail)
         go_big_quiet_step ((go_at_call 198;exact aD.call _ Xm (zQ bq ⟨oD,pm,jn⟩ ⟨tid,kd,gh,hT,kc,kb,mq,tok⟩ bX.o _ gF.o (lH.o.ad (aD.ad _)))))
         repeat go_big_quiet_step (fail)
         go_big_quiet_step ((go_at_call 69;exact aD.call _ Xm (tQ bq ⟨oD,pm,jn⟩ ⟨tid,kd,gh,hT,kc,kb,mq,tok⟩ bX.o (lH.o.ad (aD.ad _)))))
         repeat go_big_quiet_step (fail)
         go_big_quiet_step ((go_at_call 69;exact aD.call _ Xm (tQ bq ⟨qr,cQ,false⟩ ⟨id,nm,rk,se,gQ,am,dz,aP⟩ hf.o (lH.o.ad (aD.ad _)))))
         exact ani
       .exact amB
     .have ate:∀W:World,(Instr.field 89 (.agg #[id,nm,rk,se,gQ,am,dz]) 3).run Tryz.prog W= .ok (.bool se) W:=λ_=>by kernel_rfl
      cases se
      .skip
       replace bE:=aR.cb
       go_wp2_with fail
       refine (kx _ jH.o _).mono ?_
       rintro e w0 ⟨rfl,h0⟩
       rw [h0]
       clear h0 w0
       go_wp2_with fail
       refine (tQ bq ⟨qr,cQ,true⟩ ⟨id,nm,rk,false,gQ,am,dz,aP⟩ hf.o (bB.ad ao)).mono ?_
       rintro e bH ⟨rfl,db⟩
       have cj:=be bw db;replace U:=ai U cj;clear bE
       exact akT
      .skip
       replace bE:=aR.cb
       go_wp2_with fail
       refine (kx _ jH.o _).mono ?_
       rintro e w0 ⟨rfl,h0⟩
       rw [h0]
       clear h0 w0
       go_wp2_with fail
       refine (tQ bq ⟨qr,cQ,true⟩ ⟨id,nm,rk,true,gQ,am,dz,aP⟩ hf.o (bB.ad ao)).mono ?_
       rintro e bH ⟨rfl,db⟩
       have cj:=be bw db;replace U:=ai U cj;replace bB:=bB.ad cj;replace eA:=eA.ad cj;replace aR:=aR.to cj;replace bE:=aR.cb
       go_upto_region 8 with fail
       clear ate;have yF:Hid (sZ rs ⟨qr,cQ,true⟩ =true):=I aGw
       cases k with
       | zero=>
        clear bE
        refine eQ PV PV ?_
        repeat (go_big_quiet_step ((fail)))
        refine VF ?_
        intro K
        have dK:Below bH bH K.world:=ai ao K.ad;replace U:=ai U dK
        exact akR
       | succ j=>
        obtain⟨df,vN,p,gx,_,hy,dC⟩:=eA.at_ (Wt _ _) (k:=j) KK
        simp only [Yg,Addr.mk.injEq,and_true] at gx
        obtain⟨rfl,rfl⟩:=gx
        obtain⟨t,zG⟩:=OC (Fa (oM.1 aT.o j KK) hy)
        obtain⟨oD,pm,jn⟩:=p
        obtain⟨tid,kd,gh,hT,kc,kb,mq,tok⟩:=t
        have kz:=dC 0 _ rfl;have sl:=dC 1 _ rfl;have hU:=dC 2 _ rfl
        simp only [XW] at kz
        have Cb:=I hy;clear hy dC;have bX:=I zG;clear zG;have lH:=I bB
        have CI:∀W:World,(Instr.field 89 (.agg #[tid,kd,gh,hT,kc,kb,mq]) 2).run Tryz.prog W= .ok (.int .i64 gh) W:=λ_=>by kernel_rfl
        have ED:∀W:World,(Instr.field 89 (.agg #[id,nm,rk,true,gQ,am,dz]) 2).run Tryz.prog W= .ok (.int .i64 rk) W:=λ_=>by kernel_rfl
        cases rA:mC ⟨tid,kd,gh,hT,kc,kb,mq,tok⟩ ⟨oD,pm,jn⟩
        .have gF:=I rA;clear rA
         by_cases ND:gh < rk
         .have hle:decide (rk<=gh)= false:=Xe KK
          replace bE:=ay.kF (λK:aD bH bH=>(aR.ad K.ad aR.lt))
          refine eQ PV PV ?_
          repeat go_big_quiet_step (fail)
          go_big_quiet_step ((go_at_call 198;exact aD.call _ Xm (zQ bq ⟨oD,pm,jn⟩ ⟨tid,kd,gh,hT,kc,kb,mq,tok⟩ bX.o _ gF.o (lH.o.ad (aD.ad _)))))
          repeat go_big_quiet_step (fail)
          go_big_quiet_step ((go_at_call 69;exact aD.call _ Xm (tQ bq ⟨oD,pm,jn⟩ ⟨tid,kd,gh,hT,kc,kb,mq,tok⟩ bX.o (lH.o.ad (aD.ad _)))))
          repeat go_big_quiet_step (fail)
          go_big_quiet_step ((go_at_call 69;exact aD.call _ Xm (tQ bq ⟨qr,cQ,true⟩ ⟨id,nm,rk,true,gQ,am,dz,aP⟩ hf.o (lH.o.ad (aD.ad _)))))
          exact amS
         .have hle:decide (rk<=gh)= true:=Xh KK
          replace bE:=ay.kF (λK:aD bH bH=>(aR.ad K.ad aR.lt))
          refine eQ PV PV ?_
          repeat go_big_quiet_step (fail)
          go_big_quiet_step ((go_at_call 198;exact aD.call _ Xm (zQ bq ⟨oD,pm,jn⟩ ⟨tid,kd,gh,hT,kc,kb,mq,tok⟩ bX.o _ gF.o (lH.o.ad (aD.ad _)))))
          repeat go_big_quiet_step (fail)
          go_big_quiet_step ((go_at_call 69;exact aD.call _ Xm (tQ bq ⟨oD,pm,jn⟩ ⟨tid,kd,gh,hT,kc,kb,mq,tok⟩ bX.o (lH.o.ad (aD.ad _)))))
          repeat go_big_quiet_step (fail)
          go_big_quiet_step ((go_at_call 69;exact aD.call _ Xm (tQ bq ⟨qr,cQ,true⟩ ⟨id,nm,rk,true,gQ,am,dz,aP⟩ hf.o (lH.o.ad (aD.ad _)))))
          exact anh
        .exact amB
  .exact aln
theorem anf (h:l:=by
 refine eQ PV PV ?_
 repeat (go_big_quiet_step ((fail)))
 refine VF ?_
 intro K
 have aj:Below wr wr K.world:=ai ao K.ad;replace U:=ai U aj
 go_wp2
 go_roundw
 case rel=>exact⟨1,by omega,by go_num,qg aT.o (by rw [Sz av.o];exact yF.o),(ai U ao)⟩
 case measure=>simp [intOf];omega):l:=h
theorem amG (h:l:=by
 have gF:=I rA;clear rA
 refine eQ PV PV ?_
 repeat go_big_quiet_step (fail)
 go_big_quiet_step ((go_at_call 163;exact aD.call _ Xm (sT bq ⟨oD,pm,jn⟩ ⟨tid,kd,gh,hT,kc,kb,mq,tok⟩ bX.o _ gF.o (lH.o.ad (aD.ad _)))))
 repeat go_big_quiet_step (fail)
 refine VF ?_
 intro K
 go_wp2
 go_ret
 exact⟨fe (HG bC (by rw [Dq Cb.o av.o,yF.o,zS bX.o hf.o,gF.o];rfl)).symm,ai U K.ad⟩):l:=h
theorem nz (A:QR) (c:Nat) (rs:List aM) (bq:rs) (B:QR) (d:Nat) (qs:List aZ) (bt:qs) (v:Bool) (az:ee rs qs= v) (w:World) (bB:aX 7 aM.cells w A rs) (eA:aX 3 aZ.cells w B qs):
 Rd 93 #[A rs c,B qs d] w λe ah=>e= .returned v/\Below w w ah:=by
 subst az
 cases bu:jR rs
 .have ju:=I bu
  go_in
  go_wp2_with fail
  refine (zO bq _ ju.o (bB.ad ao)).mono ?_
  exact ald
 by_cases WT:qs.length<=6
 case neg=>
  have ju:=I bu
  go_in
  go_wp2_with fail
  refine (zO bq _ ju.o (bB.ad ao)).mono ?_
  exact akO
 have ju:=I bu
 go_in
 have pj:=I bB;have Wb:=I eA
 go_wp2_with fail
 refine (zO bq _ ju.o (bB.ad ao)).mono ?_
 rintro e bm ⟨rfl,bD⟩
 have ar:=be w bD;have U:Below w w bm:=ar;replace bB:=bB.ad ar;replace eA:=eA.ad ar
 go_wp2
 go_loopw [5] (λi wr=>∃k:Nat,k<=qs.length/\i= .int .i64 k/\iv (ta rs qs) k= true/\Below w w wr) (λi _=>qs.length - (intOf i).toNat)
 case atStart=>exact⟨0,Xd _,rfl,rfl,U⟩
 case round=>
  obtain⟨k,ax,rfl,aT,aB⟩:=hrel
  replace aT:=I aT;clear U;replace bB:=pj.o;replace eA:=Wb.o;have ar:=be w aB;have U:Below w w wr:=ar;replace bB:=bB.ad ar;replace eA:=eA.ad ar
  by_cases bC:k < qs.length
  .obtain⟨b,off,q,rfl,eN,av,bO⟩:=eA.at_ (Wt _ _) bC
   obtain⟨qr,cQ,sY⟩:=q
   have f0:=bO 0 _ rfl;have f1:=bO 1 _ rfl;have f2:=bO 2 _ rfl
   simp only [XW] at f0
   have g0:=f0 (aD.self _);have g1:=f1 (aD.self _);have g2:=f2 (aD.self _)
   simp only [aD.self] at g0
   simp only [aD.self] at g1
   simp only [aD.self] at g2
   replace av:=I av;clear bO
   cases hf:jb rs qr with
   | none=>
    replace hf:=I hf
    go_wp2_with fail
    refine (xW bq _ (JJ hf.o) (bB.ad ao)).mono ?_
    rintro e w0 ⟨rfl,h0⟩
    rw [h0]
    clear h0 w0
    exact alw
   | some r=>
    replace hf:=I hf
    obtain⟨m,hm,wY⟩:=uM hf.o
    have jm:m < rs.length:=(Xg.1 wY).1
    obtain⟨dr,Sm,hr,rfl,zl,gR,nv⟩:=bB.at_ (Wt _ _) jm
    obtain rfl:r= hr:=Wx (wY.symm.trans gR)
    obtain⟨id,nm,rk,se,gQ,am,dz,aP⟩:=r
    have e2:=nv 2 _ rfl;have e3:=nv 3 _ rfl;have Vi:=e3 (aD.self _)
    simp only [aD.self] at Vi
    replace hm:=I hm;clear wY gR nv
    go_wp2_with fail
    refine (xW bq _ hm.o (bB.ad ao)).mono ?_
    rintro e w0 ⟨rfl,h0⟩
    rw [h0]
    clear h0 w0
    cases jH:fy cQ
    .replace jH:=I jH
     go_wp2_with fail
     refine (km _ jH.o _).mono ?_
     rintro e w0 ⟨rfl,h0⟩
     rw [h0]
     exact akW
    .replace jH:=I jH
     cases sY
     .go_wp2_with fail
      refine (km _ jH.o _).mono ?_
      rintro e w0 ⟨rfl,h0⟩
      rw [h0]
      go_upto_region 9 with fail
      clear g0 g1 g2 e3 Vi f0 f1 f2;have yF:Hid (sZ rs ⟨qr,cQ,false⟩ =true):=I aGX
      cases k with
      | zero=>
       exact anf
      | succ j=>
       obtain⟨df,vN,p,gx,_,hy,dC⟩:=eA.at_ (Wt _ _) (k:=j) KK
       simp only [Yg,Addr.mk.injEq,and_true] at gx
       obtain⟨rfl,rfl⟩:=gx
       obtain⟨t,zG⟩:=OC (Fa (oM.1 aT.o j KK) hy)
       obtain⟨oD,pm,jn⟩:=p
       obtain⟨tid,kd,gh,hT,kc,kb,mq,tok⟩:=t
       have kz:=dC 0 _ rfl;have sl:=dC 1 _ rfl;have hU:=dC 2 _ rfl
       simp only [XW] at kz
       have Cb:=I hy;clear hy dC;have bX:=I zG;clear zG;have lH:=I bB
       cases rA:mC ⟨tid,kd,gh,hT,kc,kb,mq,tok⟩ ⟨oD,pm,jn⟩
       .have gF:=I rA;clear rA
        by_cases ND:gh < rk
        .have hle:decide (rk<=gh)= false:=Xe KK
         refine eQ PV PV ?_
         repeat go_big_quiet_step (fail)
         go_big_quiet_step ((go_at_call 163;exact aD.call _ Xm (sT bq ⟨oD,pm,jn⟩ ⟨tid,kd,gh,hT,kc,kb,mq,tok⟩ bX.o _ gF.o (lH.o.ad (aD.ad _)))))
         repeat go_big_quiet_step (fail)
         go_big_quiet_step ((go_at_call 164;exact aD.call _ Xm (JS bq ⟨oD,pm,jn⟩ ⟨tid,kd,gh,hT,kc,kb,mq,tok⟩ bX.o (lH.o.ad (aD.ad _)))))
         exact amT
        .have hle:decide (rk<=gh)= true:=Xh KK
         refine eQ PV PV ?_
         repeat go_big_quiet_step (fail)
         go_big_quiet_step ((go_at_call 163;exact aD.call _ Xm (sT bq ⟨oD,pm,jn⟩ ⟨tid,kd,gh,hT,kc,kb,mq,tok⟩ bX.o _ gF.o (lH.o.ad (aD.ad _)))))
         repeat go_big_quiet_step (fail)
         go_big_quiet_step ((go_at_call 164;exact aD.call _ Xm (JS bq ⟨oD,pm,jn⟩ ⟨tid,kd,gh,hT,kc,kb,mq,tok⟩ bX.o (lH.o.ad (aD.ad _)))))
         exact ani
       .exact amG
     .cases se
      .go_wp2_with fail
       refine (km _ jH.o _).mono ?_
       rintro e w0 ⟨rfl,h0⟩
       rw [h0]
       exact akT
      .go_wp2_with fail
       refine (km _ jH.o _).mono ?_
       rintro e w0 ⟨rfl,h0⟩
       rw [h0]
       go_upto_region 9 with fail
       clear g0 g1 g2 e3 Vi f0 f1 f2;have yF:Hid (sZ rs ⟨qr,cQ,true⟩ =true):=I aGw
       cases k with
       | zero=>
        exact anf
       | succ j=>
        obtain⟨df,vN,p,gx,_,hy,dC⟩:=eA.at_ (Wt _ _) (k:=j) KK
        simp only [Yg,Addr.mk.injEq,and_true] at gx
        obtain⟨rfl,rfl⟩:=gx
        obtain⟨t,zG⟩:=OC (Fa (oM.1 aT.o j KK) hy)
        obtain⟨oD,pm,jn⟩:=p
        obtain⟨tid,kd,gh,hT,kc,kb,mq,tok⟩:=t
        have kz:=dC 0 _ rfl;have sl:=dC 1 _ rfl;have hU:=dC 2 _ rfl
        simp only [XW] at kz
        have Cb:=I hy;clear hy dC;have bX:=I zG;clear zG;have lH:=I bB
        cases rA:mC ⟨tid,kd,gh,hT,kc,kb,mq,tok⟩ ⟨oD,pm,jn⟩
        .have gF:=I rA;clear rA
         by_cases ND:gh < rk
         .have hle:decide (rk<=gh)= false:=Xe KK
          refine eQ PV PV ?_
          repeat go_big_quiet_step (fail)
          go_big_quiet_step ((go_at_call 163;exact aD.call _ Xm (sT bq ⟨oD,pm,jn⟩ ⟨tid,kd,gh,hT,kc,kb,mq,tok⟩ bX.o _ gF.o (lH.o.ad (aD.ad _)))))
          repeat go_big_quiet_step (fail)
          go_big_quiet_step ((go_at_call 164;exact aD.call _ Xm (JS bq ⟨oD,pm,jn⟩ ⟨tid,kd,gh,hT,kc,kb,mq,tok⟩ bX.o (lH.o.ad (aD.ad _)))))
          exact amS
         .have hle:decide (rk<=gh)= true:=Xh KK
          refine eQ PV PV ?_
          repeat go_big_quiet_step (fail)
          go_big_quiet_step ((go_at_call 163;exact aD.call _ Xm (sT bq ⟨oD,pm,jn⟩ ⟨tid,kd,gh,hT,kc,kb,mq,tok⟩ bX.o _ gF.o (lH.o.ad (aD.ad _)))))
          repeat go_big_quiet_step (fail)
          go_big_quiet_step ((go_at_call 164;exact aD.call _ Xm (JS bq ⟨oD,pm,jn⟩ ⟨tid,kd,gh,hT,kc,kb,mq,tok⟩ bX.o (lH.o.ad (aD.ad _)))))
          exact anh
        .exact amG
  .exact aln
end Go.Proofs.YtlaaemmmbodaaaaGreatDoor
