/- Parts. -/
import Derived.Lib.ItoaNum
import Derived.Test.YtlaaemmmbodaaaaGreatDoorRs0
import Derived.Ground.Names2Prog
import Derived.Ground.SlgfProg
import Derived.Shelf.LaysC
import Derived.Shelf.LaysM
import Derived.Shelf.Slices.SearchI
import Derived.Shelf.Slices.Turned
import Derived.Shelf.SlicesE.DeleteFunc
import Derived.Shelf.SlicesE.IndexFunc
import Derived.Shelf.Small.Wraps
import Derived.Shelf.Strconv.Atoi
import Derived.Shelf.Strconv.AtoiAll
import Derived.Shelf.Strconv.AtoiErrFast
import Derived.Shelf.Strconv.AtoiFail
import Derived.Shelf.Strconv.AtoiInnerAll
import Derived.Shelf.Strconv.AtoiLong
import Derived.Shelf.Strconv.Clone
import Derived.Shelf.Strconv.ErrVarAll
import Derived.Shelf.Strconv.Itoa0
import Derived.Shelf.Strconv.Itoa1
import Derived.Shelf.Strconv.Itoa2
import Derived.Shelf.Strconv.Itoa3
import Derived.Shelf.Strconv.Lower
import Derived.Shelf.Strconv.ParseInt10
import Derived.Shelf.Strconv.ParseIntEmpty
import Derived.Shelf.Strconv.ParseUint10
import Derived.Shelf.Strconv.ParseUint10Any
import Derived.Shelf.Strconv.ParseUint10Empty
import Derived.Shelf.Strconv.ParseUint10b16
import Derived.Shelf.Strconv.ParseUint10b32
import Derived.Shelf.Strconv.ParseUint10b64
import Derived.Shelf.Strconv.ParseUint10b8
import Derived.Shelf.Strconv.ParseUintEmpty
import Derived.Shelf.Strconv.RangeError
import Derived.Shelf.Strconv.SyntaxError
import Derived.Shelf.Strconv.ToError
import Derived.Shelf.Strconv.ToErrorRange
import Derived.Shelf.Strings.Builder1
import Derived.Shelf.Strings.Builder2
import Derived.Shelf.Strings.Count
import Derived.Shelf.Strings.Cut
import Derived.Shelf.Strings.Explode
import Derived.Shelf.Strings.OnBuilder
import Derived.Shelf.Strings.RuneCount
import Derived.Shelf.Strings.Search1
import Derived.Shelf.Strings.Search2
import Derived.Shelf.Strings.Search3
import Derived.Shelf.Strings.Shaped
import Derived.Shelf.Strings.Split
import Derived.Shelf.Strings.SplitShaped
import Derived.Shelf.Unicode.Decode
import Derived.Shelf.Unicode.DecodeAny
import Derived.Shelf.Unicode.DecodeSlow
import Derived.Shelf.Utf8.RuneCount
import Derived.Deep.Cut
import Derived.WalkSmall
import Derived.Lib.AtoiAllCases
import Derived.Lib.AtoiTie
import Derived.Lib.SlBytesRow
import Derived.BigRegion
import Derived.ChangeAlike
import Derived.Deep.RegionWith
import Derived.RegionTactic
import Derived.Maps.AppendAt
import Derived.Laws.CopyRow
import Derived.Lib.OwnBridge
import Derived.Lib.SlicesCompact
set_option maxHeartbeats 16000000
set_option maxRecDepth 100000
set_option linter.unnecessarySimpa false
set_option linter.unusedSimpArgs false
set_option linter.unusedVariables false
namespace Go.G9
open Go.RowKit
def eT (n:Int):ByteArray:=⟨(Lib.itoa n).toArray⟩
theorem yG {a b:ByteArray} (h:a.data.toList= b.data.toList):a= b:=by
 obtain⟨⟨a⟩⟩:=a;obtain⟨⟨b⟩⟩:=b;simp at h;rw [h]
theorem xT:∀(k u:Nat),u < 10 ^ (k + 1)→(Lib.decDigits u).length≤k + 1
 | 0,u,h=>by rw [Lib.decDigits_one (by simpa using h)];simp
 | k + 1,u,h=>by
  rw [Lib.decDigits]
  split
  ·simp
  ·rw [List.length_append]
   have:=xT k (u / 10) (by rw [Nat.pow_succ] at h;omega)
   simp;omega
theorem xY (n:Int) (h:-1000000000 < n∧n < 1000000000):(eT n).size≤10:=by
 show (Lib.itoa n).toArray.size≤10
 rw [List.size_toArray]
 unfold Lib.itoa
 split
 ·have:=xT 8 n.natAbs (by omega)
  simp;omega
 ·have:=xT 8 n.toNat (by omega)
  omega
end Go.G9
namespace Go.Proofs.YtlaaemmmbodaaaaGreatDoor
open Go.RowKit Go.G9
theorem Xk (n:Nat) (h:n≤1000000000) (w:World):Calls Tryz.prog 73 #[n] w fun e ah=>e= .returned (.string ⟨(Lib.decDigits n).toArray⟩)∧Below w w ah:=by
 induction n using Nat.strongRecOn generalizing w with
 | _ n eP=>
  have afo:=J eP;clear eP
  by_cases bd:n < 10
  ·go_in
   go_wp2
   go_ret
   refine⟨?_,Below.refl _ _⟩
   show Ending.returned (Value.string _)= _
   rw [Lib.decDigits_one bd]
   have aG:∀k:Fin 10,(⟨#[48,49,50,51,52,53,54,55,56,57]⟩ :ByteArray).extract k (k + 1)=⟨#[UInt8.ofNat (48 + k)]⟩:=by decide +kernel
   have ax:=aG ⟨n,bd⟩
   simp only at ax
   rw [ax]
  ·have bf:∀W:World,Calls Tryz.prog 73 #[.int .i64 ((n:Int) / 10)] W fun e ah=>e= .returned (.string ⟨(Lib.decDigits (n / 10)).toArray⟩)∧Below W W ah:=by
    intro W
    have h:=afo.out (n / 10) (by omega) (by omega) W
    rw [show ((n / 10:Nat):Int)= (n:Int) / 10 from by omega] at h
    exact h
   have dc:=J bf;clear bf
   have Ov:(0:Int)≤(n:Int) % 10:=by omega
   have As:(n:Int) % 10 + 1≤10:=by omega
   have atU:(n:Int) % 10≤10:=by omega
   have eW:(⟨#[48,49,50,51,52,53,54,55,56,57]⟩ :ByteArray).size= 10:=rfl
   have xA:(⟨(Lib.decDigits (n / 10)).toArray⟩ :ByteArray).size≤10:=by
    have:=xT 8 (n / 10) (by omega)
    show (Lib.decDigits (n / 10)).toArray.size≤10
    simp;omega
   have CN:((⟨#[48,49,50,51,52,53,54,55,56,57]⟩ :ByteArray).extract (n % 10) (n % 10 + 1)).size≤10:=by
    rw [ByteArray.size_extract];omega
   go_in
   go_wp2
   refine eC (by kernel_rfl) (by kernel_rfl) ?_
   repeat (go_big_quiet_step (((go_at_call 73;exact aB.call _ (by first | exact Nat.le_refl _ | omega) (dc.out _)))))
   refine wpQuiet_nil ?_
   intro K
   go_wp2
   go_ret
   refine⟨?_,K.U⟩
   show Ending.returned (Value.string _)= _
   have aG:∀k:Fin 10,(⟨#[48,49,50,51,52,53,54,55,56,57]⟩ :ByteArray).extract k (k + 1)=⟨#[UInt8.ofNat (48 + k)]⟩:=by decide +kernel
   have ax:=aG ⟨n % 10,Nat.mod_lt _ (by omega)⟩
   simp only at ax
   rw [ax]
   refine congrArg Ending.returned (congrArg Value.string (yG ?_))
   conv=>rhs;rw [Lib.decDigits,dif_neg bd]
   simp
theorem qT (n:Int) (h0:-1000000000 < n) (h1:n < 1000000000) (w:World):Calls Tryz.prog 73 #[n] w fun e ah=>e= .returned (.string (eT n))∧Below w w ah:=by
 by_cases bd:0≤n
 ·have h:=Xk n.toNat (by omega) w
  rw [Int.toNat_of_nonneg bd] at h
  unfold eT Lib.itoa
  rw [if_neg (by omega)]
  exact h
 ·have zb:n < 0:=by omega
  clear bd
  have bf:∀W:World,Calls Tryz.prog 73 #[.int .i64 (-n)] W fun e ah=>e= .returned (.string ⟨(Lib.decDigits n.natAbs).toArray⟩)∧Below W W ah:=by
   intro W
   have h:=Xk n.natAbs (by omega) W
   rw [show ((n.natAbs:Nat):Int)= -n from by omega] at h
   exact h
  have dc:=J bf;clear bf
  have xA:(Lib.decDigits n.natAbs).length≤10:=by have:=xT 8 n.natAbs (by omega);omega
  go_in
  go_wp2_with fail
  refine (dc.out _).mono ?_
  rintro e bg ⟨rfl,bE⟩
  go_wp2
  go_ret
  refine⟨?_,bE⟩
  show Ending.returned (Value.string _)= _
  refine congrArg Ending.returned (congrArg Value.string (yG ?_))
  unfold eT Lib.itoa
  rw [if_pos (by omega)]
  simp
end Go.Proofs.YtlaaemmmbodaaaaGreatDoor
namespace Go.Proofs
open Go.Shelf
def Tryz.Xy:Go.Shelf.Ren:=⟨fun | 156=>249 | 165=>298 | 166=>299 | 169=>300 | 240=>324 | 241=>325 | 276=>337 | 277=>338 | n=>n,fun | 31=>57 | 9=>9 | 3=>3 | 4=>4 | 0=>0 | 20=>20 | 72=>285 | 76=>258 | 70=>283 | 37=>35 | 75=>257 | 127=>302 | 164=>318 | 5=>5 | 80=>135 | n=>n,fun | n=>n⟩
theorem Tryz.amB:Go.Proofs.Lays.n156 Tryz.prog Tryz.Xy:={
  mixed:=by kernel_rfl
  f156:=Tryz.func249.trans (congrArg some (by kernel_rfl))
  f165:=Tryz.func298.trans (congrArg some (by kernel_rfl))
  f166:=Tryz.func299.trans (congrArg some (by kernel_rfl))
  f169:=Tryz.func300.trans (congrArg some (by kernel_rfl))
  f240:=Tryz.func324.trans (congrArg some (by kernel_rfl))
  f241:=Tryz.func325.trans (congrArg some (by kernel_rfl))
  f276:=Tryz.func337.trans (congrArg some (by kernel_rfl))
  f277:=Tryz.func338.trans (congrArg some (by kernel_rfl))
  t0:=Tryz.underlying0
  a0:=Tryz.isAgg0
  z0:=Tryz.sizeOf0
  v0:=Tryz.zeroValue0
  t3:=Tryz.underlying3
  a3:=Tryz.isAgg3
  z3:=Tryz.sizeOf3
  v3:=Tryz.zeroValue3
  t4:=Tryz.underlying4
  a4:=Tryz.isAgg4
  z4:=Tryz.sizeOf4
  v4:=Tryz.zeroValue4
  t9:=Tryz.underlying9
  a9:=Tryz.isAgg9
  z9:=Tryz.sizeOf9
  v9:=Tryz.zeroValue9
  t20:=Tryz.underlying20
  a20:=Tryz.isAgg20
  z20:=Tryz.sizeOf20
  v20:=Tryz.zeroValue20
  t31:=Tryz.underlying57
  a31:=Tryz.isAgg57
  z31:=Tryz.sizeOf57
  v31:=Tryz.zeroValue57
  t37:=Tryz.underlying35
  a37:=Tryz.isAgg35
  z37:=Tryz.sizeOf35
  v37:=Tryz.zeroValue35
  t70:=Tryz.underlying283
  a70:=Tryz.isAgg283
  z70:=Tryz.sizeOf283
  v70:=Tryz.zeroValue283
  t72:=Tryz.underlying285
  a72:=Tryz.isAgg285
  z72:=Tryz.sizeOf285
  v72:=Tryz.zeroValue285
  t75:=Tryz.underlying257
  a75:=Tryz.isAgg257
  z75:=Tryz.sizeOf257
  v75:=Tryz.zeroValue257
  t76:=Tryz.underlying258
  a76:=Tryz.isAgg258
  z76:=Tryz.sizeOf258
  v76:=Tryz.zeroValue258
  t127:=Tryz.underlying302
  a127:=Tryz.isAgg302
  z127:=Tryz.sizeOf302
  v127:=Tryz.zeroValue302
  t164:=Tryz.underlying318
  a164:=Tryz.isAgg318
  z164:=Tryz.sizeOf318
  v164:=Tryz.zeroValue318}
open Go.RowKit in
def Tryz.amE:Go.Shelf.Ren:=⟨fun | 171=>70 | 243=>128 | 246=>208 | 283=>277 | 284=>278 | 285=>279 | 286=>280 | 129=>311 | 317=>310 | 318=>312 | 319=>313 | 320=>314 | 337=>332 | 338=>333 | n=>n,fun | 3=>3 | 9=>9 | 2=>2 | 4=>4 | 171=>269 | 0=>0 | 53=>93 | 37=>35 | 5=>5 | 173=>272 | 212=>290 | 51=>291 | 20=>20 | 213=>292 | 46=>191 | 232=>323 | 233=>324 | n=>n,fun | 17=>2 | 18=>7 | 19=>8 | n=>n⟩
theorem Tryz.amD:Go.Proofs.LaysM.n171 Tryz.prog Tryz.amE:={
  mixed:=by kernel_rfl
  f129:=Tryz.func311.trans (congrArg some (by kernel_rfl))
  f171:=Tryz.func70.trans (congrArg some (by kernel_rfl))
  f243:=Tryz.func128.trans (congrArg some (by kernel_rfl))
  f246:=Tryz.func208.trans (congrArg some (by kernel_rfl))
  f283:=Tryz.func277.trans (congrArg some (by kernel_rfl))
  f284:=Tryz.func278.trans (congrArg some (by kernel_rfl))
  f285:=Tryz.func279.trans (congrArg some (by kernel_rfl))
  f286:=Tryz.func280.trans (congrArg some (by kernel_rfl))
  f317:=Tryz.func310.trans (congrArg some (by kernel_rfl))
  f318:=Tryz.func312.trans (congrArg some (by kernel_rfl))
  f319:=Tryz.func313.trans (congrArg some (by kernel_rfl))
  f320:=Tryz.func314.trans (congrArg some (by kernel_rfl))
  f337:=Tryz.func332.trans (congrArg some (by kernel_rfl))
  f338:=Tryz.func333.trans (congrArg some (by kernel_rfl))
  t0:=Tryz.underlying0
  a0:=Tryz.isAgg0
  z0:=Tryz.sizeOf0
  v0:=Tryz.zeroValue0
  t2:=Tryz.underlying2
  a2:=Tryz.isAgg2
  z2:=Tryz.sizeOf2
  v2:=Tryz.zeroValue2
  t3:=Tryz.underlying3
  a3:=Tryz.isAgg3
  z3:=Tryz.sizeOf3
  v3:=Tryz.zeroValue3
  t4:=Tryz.underlying4
  a4:=Tryz.isAgg4
  z4:=Tryz.sizeOf4
  v4:=Tryz.zeroValue4
  t5:=Tryz.underlying5
  a5:=Tryz.isAgg5
  z5:=Tryz.sizeOf5
  v5:=Tryz.zeroValue5
  t9:=Tryz.underlying9
  a9:=Tryz.isAgg9
  z9:=Tryz.sizeOf9
  v9:=Tryz.zeroValue9
  t20:=Tryz.underlying20
  a20:=Tryz.isAgg20
  z20:=Tryz.sizeOf20
  v20:=Tryz.zeroValue20
  t37:=Tryz.underlying35
  a37:=Tryz.isAgg35
  z37:=Tryz.sizeOf35
  v37:=Tryz.zeroValue35
  t46:=Tryz.underlying191
  a46:=Tryz.isAgg191
  z46:=Tryz.sizeOf191
  v46:=Tryz.zeroValue191
  t51:=Tryz.underlying291
  a51:=Tryz.isAgg291
  z51:=Tryz.sizeOf291
  v51:=Tryz.zeroValue291
  t53:=Tryz.underlying93
  a53:=Tryz.isAgg93
  z53:=Tryz.sizeOf93
  v53:=Tryz.zeroValue93
  t171:=Tryz.underlying269
  a171:=Tryz.isAgg269
  z171:=Tryz.sizeOf269
  v171:=Tryz.zeroValue269
  t173:=Tryz.underlying272
  a173:=Tryz.isAgg272
  z173:=Tryz.sizeOf272
  v173:=Tryz.zeroValue272
  t212:=Tryz.underlying290
  a212:=Tryz.isAgg290
  z212:=Tryz.sizeOf290
  v212:=Tryz.zeroValue290
  t213:=Tryz.underlying292
  a213:=Tryz.isAgg292
  z213:=Tryz.sizeOf292
  t232:=Tryz.underlying323
  a232:=Tryz.isAgg323
  z232:=Tryz.sizeOf323
  v232:=Tryz.zeroValue323
  t233:=Tryz.underlying324
  a233:=Tryz.isAgg324
  z233:=Tryz.sizeOf324
  v233:=Tryz.zeroValue324
  g17:=by kernel_rfl
  g18:=by kernel_rfl
  g19:=by kernel_rfl
  i0:=by kernel_rfl
  i2:=by kernel_rfl
  i3:=by kernel_rfl
  i4:=by kernel_rfl
  i5:=by kernel_rfl
  i9:=by kernel_rfl
  i20:=by kernel_rfl
  i37:=by kernel_rfl
  i46:=by kernel_rfl
  i51:=by kernel_rfl
  i53:=by kernel_rfl
  i171:=by kernel_rfl
  i173:=by kernel_rfl
  i212:=by kernel_rfl
  i232:=by kernel_rfl
  i233:=by kernel_rfl
  m17:=by kernel_rfl
  m18:=by kernel_rfl
  m19:=by kernel_rfl}
open Go.RowKit Go.Sort Go.Lib in
theorem Tryz.strconv_Itoa (n:Int) (h0:-9223372036854775808≤n) (h1:n≤9223372036854775807) (w:World) (ajS:Lib.TabIs Tryz.prog w "internal/strconv.uint64pow10" .u64 Lib.pow10Tab):
    Calls Tryz.prog 70 #[n] w fun e ah=>e= .returned (.string ⟨(Lib.itoa n).toArray⟩)∧∃k os,ah= grow (w.drewN k) os:=Any.strconv_Itoa Tryz.amD n h0 h1 w ajS
open Go.RowKit Go.Sort Go.Lib in
def Tryz.amC:Go.Shelf.Ren:=⟨fun | 172=>247 | 244=>296 | 245=>297 | 247=>319 | 279=>320 | 280=>321 | 281=>322 | 282=>323 | 287=>334 | 316=>335 | 171=>70 | 205=>336 | 321=>343 | 322=>344 | 243=>128 | 246=>208 | 283=>277 | 284=>278 | 285=>279 | 286=>280 | 129=>311 | 317=>310 | 318=>312 | 319=>313 | 320=>314 | 337=>332 | 338=>333 | n=>n,fun | 9=>9 | 3=>3 | 75=>257 | 76=>258 | 4=>4 | 5=>5 | 167=>296 | 37=>35 | 0=>0 | 85=>297 | 2=>2 | 168=>299 | 53=>93 | 175=>313 | 46=>191 | 210=>316 | 127=>302 | 145=>328 | 143=>326 | 21=>21 | 171=>269 | 173=>272 | 212=>290 | 51=>291 | 20=>20 | 213=>292 | 232=>323 | 233=>324 | 80=>135 | n=>n,fun | 15=>5 | 16=>6 | 17=>2 | 18=>7 | 19=>8 | n=>n⟩
theorem Tryz.Xz:Go.Proofs.LaysC.n172 Tryz.prog Tryz.amC:={
  mixed:=by kernel_rfl
  f129:=Tryz.func311.trans (congrArg some (by kernel_rfl))
  f171:=Tryz.func70.trans (congrArg some (by kernel_rfl))
  f172:=Tryz.func247.trans (congrArg some (by kernel_rfl))
  f205:=Tryz.func336.trans (congrArg some (by kernel_rfl))
  f243:=Tryz.func128.trans (congrArg some (by kernel_rfl))
  f244:=Tryz.func296.trans (congrArg some (by kernel_rfl))
  f245:=Tryz.func297.trans (congrArg some (by kernel_rfl))
  f246:=Tryz.func208.trans (congrArg some (by kernel_rfl))
  f247:=Tryz.func319.trans (congrArg some (by kernel_rfl))
  f279:=Tryz.func320.trans (congrArg some (by kernel_rfl))
  f280:=Tryz.func321.trans (congrArg some (by kernel_rfl))
  f281:=Tryz.func322.trans (congrArg some (by kernel_rfl))
  f282:=Tryz.func323.trans (congrArg some (by kernel_rfl))
  f283:=Tryz.func277.trans (congrArg some (by kernel_rfl))
  f284:=Tryz.func278.trans (congrArg some (by kernel_rfl))
  f285:=Tryz.func279.trans (congrArg some (by kernel_rfl))
  f286:=Tryz.func280.trans (congrArg some (by kernel_rfl))
  f287:=Tryz.func334.trans (congrArg some (by kernel_rfl))
  f316:=Tryz.func335.trans (congrArg some (by kernel_rfl))
  f317:=Tryz.func310.trans (congrArg some (by kernel_rfl))
  f318:=Tryz.func312.trans (congrArg some (by kernel_rfl))
  f319:=Tryz.func313.trans (congrArg some (by kernel_rfl))
  f320:=Tryz.func314.trans (congrArg some (by kernel_rfl))
  f321:=Tryz.func343.trans (congrArg some (by kernel_rfl))
  f322:=Tryz.func344.trans (congrArg some (by kernel_rfl))
  f337:=Tryz.func332.trans (congrArg some (by kernel_rfl))
  f338:=Tryz.func333.trans (congrArg some (by kernel_rfl))
  t0:=Tryz.underlying0
  a0:=Tryz.isAgg0
  z0:=Tryz.sizeOf0
  v0:=Tryz.zeroValue0
  t2:=Tryz.underlying2
  a2:=Tryz.isAgg2
  z2:=Tryz.sizeOf2
  v2:=Tryz.zeroValue2
  t3:=Tryz.underlying3
  a3:=Tryz.isAgg3
  z3:=Tryz.sizeOf3
  v3:=Tryz.zeroValue3
  t4:=Tryz.underlying4
  a4:=Tryz.isAgg4
  z4:=Tryz.sizeOf4
  v4:=Tryz.zeroValue4
  t5:=Tryz.underlying5
  a5:=Tryz.isAgg5
  z5:=Tryz.sizeOf5
  v5:=Tryz.zeroValue5
  t9:=Tryz.underlying9
  a9:=Tryz.isAgg9
  z9:=Tryz.sizeOf9
  v9:=Tryz.zeroValue9
  t20:=Tryz.underlying20
  a20:=Tryz.isAgg20
  z20:=Tryz.sizeOf20
  v20:=Tryz.zeroValue20
  t21:=Tryz.underlying21
  a21:=Tryz.isAgg21
  z21:=Tryz.sizeOf21
  v21:=Tryz.zeroValue21
  t37:=Tryz.underlying35
  a37:=Tryz.isAgg35
  z37:=Tryz.sizeOf35
  v37:=Tryz.zeroValue35
  t46:=Tryz.underlying191
  a46:=Tryz.isAgg191
  z46:=Tryz.sizeOf191
  v46:=Tryz.zeroValue191
  t51:=Tryz.underlying291
  a51:=Tryz.isAgg291
  z51:=Tryz.sizeOf291
  v51:=Tryz.zeroValue291
  t53:=Tryz.underlying93
  a53:=Tryz.isAgg93
  z53:=Tryz.sizeOf93
  v53:=Tryz.zeroValue93
  t75:=Tryz.underlying257
  a75:=Tryz.isAgg257
  z75:=Tryz.sizeOf257
  v75:=Tryz.zeroValue257
  t76:=Tryz.underlying258
  a76:=Tryz.isAgg258
  z76:=Tryz.sizeOf258
  v76:=Tryz.zeroValue258
  t85:=Tryz.underlying297
  a85:=Tryz.isAgg297
  z85:=Tryz.sizeOf297
  v85:=Tryz.zeroValue297
  t127:=Tryz.underlying302
  a127:=Tryz.isAgg302
  z127:=Tryz.sizeOf302
  v127:=Tryz.zeroValue302
  t143:=Tryz.underlying326
  a143:=Tryz.isAgg326
  z143:=Tryz.sizeOf326
  v143:=Tryz.zeroValue326
  t145:=Tryz.underlying328
  a145:=Tryz.isAgg328
  z145:=Tryz.sizeOf328
  v145:=Tryz.zeroValue328
  t167:=Tryz.underlying296
  a167:=Tryz.isAgg296
  z167:=Tryz.sizeOf296
  v167:=Tryz.zeroValue296
  t168:=Tryz.underlying299
  a168:=Tryz.isAgg299
  z168:=Tryz.sizeOf299
  v168:=Tryz.zeroValue299
  t171:=Tryz.underlying269
  a171:=Tryz.isAgg269
  z171:=Tryz.sizeOf269
  v171:=Tryz.zeroValue269
  t173:=Tryz.underlying272
  a173:=Tryz.isAgg272
  z173:=Tryz.sizeOf272
  v173:=Tryz.zeroValue272
  t175:=Tryz.underlying313
  a175:=Tryz.isAgg313
  z175:=Tryz.sizeOf313
  v175:=Tryz.zeroValue313
  t210:=Tryz.underlying316
  a210:=Tryz.isAgg316
  z210:=Tryz.sizeOf316
  v210:=Tryz.zeroValue316
  t212:=Tryz.underlying290
  a212:=Tryz.isAgg290
  z212:=Tryz.sizeOf290
  v212:=Tryz.zeroValue290
  t213:=Tryz.underlying292
  a213:=Tryz.isAgg292
  z213:=Tryz.sizeOf292
  t232:=Tryz.underlying323
  a232:=Tryz.isAgg323
  z232:=Tryz.sizeOf323
  v232:=Tryz.zeroValue323
  t233:=Tryz.underlying324
  a233:=Tryz.isAgg324
  z233:=Tryz.sizeOf324
  v233:=Tryz.zeroValue324
  g15:=by kernel_rfl
  g16:=by kernel_rfl
  g17:=by kernel_rfl
  g18:=by kernel_rfl
  g19:=by kernel_rfl
  t80:=Tryz.underlying135
  a80:=Tryz.isAgg135
  z80:=Tryz.sizeOf135
  v80:=Tryz.zeroValue135
  i0:=by kernel_rfl
  i2:=by kernel_rfl
  i3:=by kernel_rfl
  i4:=by kernel_rfl
  i5:=by kernel_rfl
  i9:=by kernel_rfl
  i20:=by kernel_rfl
  i21:=by kernel_rfl
  i37:=by kernel_rfl
  i46:=by kernel_rfl
  i51:=by kernel_rfl
  i53:=by kernel_rfl
  i75:=by kernel_rfl
  i76:=by kernel_rfl
  i80:=by kernel_rfl
  i85:=by kernel_rfl
  i127:=by kernel_rfl
  i143:=by kernel_rfl
  i145:=by kernel_rfl
  i167:=by kernel_rfl
  i168:=by kernel_rfl
  i171:=by kernel_rfl
  i173:=by kernel_rfl
  i175:=by kernel_rfl
  i210:=by kernel_rfl
  i212:=by kernel_rfl
  i232:=by kernel_rfl
  i233:=by kernel_rfl
  m15:=by kernel_rfl
  m16:=by kernel_rfl
  m17:=by kernel_rfl
  m18:=by kernel_rfl
  m19:=by kernel_rfl
  c0:=by kernel_rfl
  c2:=by kernel_rfl
  c3:=by kernel_rfl
  c4:=by kernel_rfl
  c5:=by kernel_rfl
  c9:=by kernel_rfl
  c20:=by kernel_rfl
  c21:=by kernel_rfl
  c37:=by kernel_rfl
  c46:=by kernel_rfl
  c51:=by kernel_rfl
  c53:=by kernel_rfl
  c75:=by kernel_rfl
  c76:=by kernel_rfl
  c80:=by kernel_rfl
  c85:=by kernel_rfl
  c127:=by kernel_rfl
  c143:=by kernel_rfl
  c145:=by kernel_rfl
  c167:=by kernel_rfl
  c168:=by kernel_rfl
  c171:=by kernel_rfl
  c173:=by kernel_rfl
  c175:=by kernel_rfl
  c210:=by kernel_rfl
  c212:=by kernel_rfl
  c213:=by kernel_rfl
  c232:=by kernel_rfl
  c233:=by kernel_rfl}
open Go.RowKit in
theorem Tryz.strconv_Atoi_ok (s:ByteArray) (ajr:s.size≤9223372036854775806) (v:Int) (h:Lib.atoiAll s.data.toList= .ok v) (w:World):
    Calls Tryz.prog 247 #[s] w fun e ah=>e= .returned (.tuple #[v,.nilIface])∧(ah= w∨∃t,ah= Lib.bytesWorld w 5 t):=Any.strconv_Atoi_ok Tryz.Xz s ajr v h w
open Go.RowKit in
theorem Tryz.strconv_Atoi_syntax_var (s:ByteArray) (ajq:s.size≤281474976710656) (h:Lib.atoiAll s.data.toList= Lib.atoiAll []) (wH:TypeId) (p:Value) (w:World) (Pd:w.var? Tryz.prog "strconv.ErrSyntax" =some #[.iface wH p]):
    Calls Tryz.prog 247 #[s] w fun e ah=>∃N,e= .returned (.tuple #[(0:Int),.iface 299 (.pointer (some ⟨N,0,none⟩))])∧w.heap.size≤N∧ah.heap[N]? =some (.cells #[.string ⟨#[65,116,111,105]⟩,s,.iface wH p] 316 (0,0))∧Below w w ah:=Any.strconv_Atoi_syntax_var Tryz.Xz s ajq h wH p w Pd
open Go.RowKit in
open Go.RowKit Go.Lib in
def Tryz.amA:Go.Shelf.Ren:=⟨fun | 146=>66 | 221=>126 | 268=>206 | 138=>207 | 143=>167 | 195=>274 | 197=>275 | 218=>276 | 219=>246 | 260=>309 | 217=>292 | 225=>293 | 224=>294 | 267=>295 | 266=>317 | 314=>318 | n=>n,fun | 9=>9 | 31=>57 | 3=>3 | 4=>4 | 0=>0 | 105=>266 | 21=>21 | 5=>5 | 46=>191 | 119=>308 | 139=>311 | 138=>310 | 146=>294 | 51=>291 | n=>n,fun | 1=>1 | 3=>3 | 4=>4 | n=>n⟩
theorem Tryz.amz:Go.Proofs.Lays.n146 Tryz.prog Tryz.amA:={
  mixed:=by kernel_rfl
  f138:=Tryz.func207.trans (congrArg some (by kernel_rfl))
  f143:=Tryz.func167.trans (congrArg some (by kernel_rfl))
  f146:=Tryz.func66.trans (congrArg some (by kernel_rfl))
  f195:=Tryz.func274.trans (congrArg some (by kernel_rfl))
  f197:=Tryz.func275.trans (congrArg some (by kernel_rfl))
  f217:=Tryz.func292.trans (congrArg some (by kernel_rfl))
  f218:=Tryz.func276.trans (congrArg some (by kernel_rfl))
  f219:=Tryz.func246.trans (congrArg some (by kernel_rfl))
  f221:=Tryz.func126.trans (congrArg some (by kernel_rfl))
  f224:=Tryz.func294.trans (congrArg some (by kernel_rfl))
  f225:=Tryz.func293.trans (congrArg some (by kernel_rfl))
  f260:=Tryz.func309.trans (congrArg some (by kernel_rfl))
  f266:=Tryz.func317.trans (congrArg some (by kernel_rfl))
  f267:=Tryz.func295.trans (congrArg some (by kernel_rfl))
  f268:=Tryz.func206.trans (congrArg some (by kernel_rfl))
  f314:=Tryz.func318.trans (congrArg some (by kernel_rfl))
  t0:=Tryz.underlying0
  a0:=Tryz.isAgg0
  z0:=Tryz.sizeOf0
  v0:=Tryz.zeroValue0
  t3:=Tryz.underlying3
  a3:=Tryz.isAgg3
  z3:=Tryz.sizeOf3
  v3:=Tryz.zeroValue3
  t4:=Tryz.underlying4
  a4:=Tryz.isAgg4
  z4:=Tryz.sizeOf4
  v4:=Tryz.zeroValue4
  t5:=Tryz.underlying5
  a5:=Tryz.isAgg5
  z5:=Tryz.sizeOf5
  v5:=Tryz.zeroValue5
  t9:=Tryz.underlying9
  a9:=Tryz.isAgg9
  z9:=Tryz.sizeOf9
  v9:=Tryz.zeroValue9
  t21:=Tryz.underlying21
  a21:=Tryz.isAgg21
  z21:=Tryz.sizeOf21
  v21:=Tryz.zeroValue21
  t31:=Tryz.underlying57
  a31:=Tryz.isAgg57
  z31:=Tryz.sizeOf57
  v31:=Tryz.zeroValue57
  t46:=Tryz.underlying191
  a46:=Tryz.isAgg191
  z46:=Tryz.sizeOf191
  v46:=Tryz.zeroValue191
  t51:=Tryz.underlying291
  a51:=Tryz.isAgg291
  z51:=Tryz.sizeOf291
  v51:=Tryz.zeroValue291
  t105:=Tryz.underlying266
  a105:=Tryz.isAgg266
  z105:=Tryz.sizeOf266
  v105:=Tryz.zeroValue266
  t119:=Tryz.underlying308
  a119:=Tryz.isAgg308
  z119:=Tryz.sizeOf308
  t138:=Tryz.underlying310
  a138:=Tryz.isAgg310
  z138:=Tryz.sizeOf310
  v138:=Tryz.zeroValue310
  t139:=Tryz.underlying311
  a139:=Tryz.isAgg311
  z139:=Tryz.sizeOf311
  v139:=Tryz.zeroValue311
  t146:=Tryz.underlying294
  a146:=Tryz.isAgg294
  z146:=Tryz.sizeOf294
  v146:=Tryz.zeroValue294
  g1:=by kernel_rfl
  g3:=by kernel_rfl
  g4:=by kernel_rfl}
open Go.RowKit Go.Lib in
theorem Tryz.strings_Split (s sep:ByteArray) (m:Int) (w:World) (aZ:s.size < 4294967281) (hm:w.cell? ⟨1,0,none⟩ =some (.int .i64 m)) (h1:1≤sep.size):
    Calls Tryz.prog 66 #[s,sep] w fun e ah=>
      e= .returned (.slice w.heap.size (Lib.countB s sep + 1) (Lib.countB s sep + 1))∧ah= w.alloc (.cells ((Lib.splitB sep 0 (Lib.countB s sep) s).map Value.string).toArray 9):=Any.strings_Split Tryz.amz (by kernel_rfl) s sep m w aZ hm h1
open Go.RowKit Go.Lib in
open Go.RowKit Go.Lib in
def Tryz.amG:Go.Shelf.Ren:=⟨fun | 10=>329 | 6=>340 | n=>n,fun | 22=>38 | 23=>3 | 25=>97 | 3=>3 | 4=>4 | 0=>0 | n=>n,fun | n=>n⟩
theorem Tryz.amF:Go.Proofs.SlLaysH.n10 Tryz.prog Tryz.amG:={
  mixed:=by kernel_rfl
  f6:=⟨Tryz.f340.name,by decide,Tryz.func340.trans (congrArg some (by kernel_rfl))⟩
  f10:=⟨Tryz.f329.name,by decide,Tryz.func329.trans (congrArg some (by kernel_rfl))⟩
  t0:=Tryz.underlying0
  a0:=Tryz.isAgg0
  z0:=Tryz.sizeOf0
  v0:=Tryz.zeroValue0
  t3:=Tryz.underlying3
  a3:=Tryz.isAgg3
  z3:=Tryz.sizeOf3
  v3:=Tryz.zeroValue3
  t4:=Tryz.underlying4
  a4:=Tryz.isAgg4
  z4:=Tryz.sizeOf4
  v4:=Tryz.zeroValue4
  t22:=Tryz.underlying38
  a22:=Tryz.isAgg38
  z22:=Tryz.sizeOf38
  v22:=Tryz.zeroValue38
  a23:=Tryz.isAgg3
  z23:=Tryz.sizeOf3
  t25:=Tryz.underlying97
  a25:=Tryz.isAgg97
  z25:=Tryz.sizeOf97
  v25:=Tryz.zeroValue97}
open Go.RowKit Go.Lib Go.Sort in
theorem Tryz.slices_DeleteFunc {α:Type} [Inhabited α] (enc:α→Value) (bR:OneCell enc) (p:α→Bool) (g:Nat) (zl:Array Value) (Fv:∀args w,(callFunc g args).run Tryz.prog w= .ok (.enter g args) w) (Rv:α) (v23:∀w,(zeroValue 3).run Tryz.prog w= .ok (enc Rv) w) (BW off cap:Nat) (d:Array α) (w:World) (aR:PredAt Tryz.prog g zl enc p w) (OJ:PredOver Tryz.prog g zl enc p BW off d.size w) (ahZ:Holds enc w BW off d) (eW:d.size≤9223372036854775807) (sv:d.size≤cap):
    Calls Tryz.prog 329 #[.slice (some ⟨BW,off,none⟩) d.size cap,.func (.func g) #[] zl] w fun e ah=>e= .returned (.slice (some ⟨BW,off,none⟩) (d.toList.filter fun x=>!p x).length cap)∧∃q,ah= putRow enc (Sort.ahead w q) BW off ((d.toList.filter fun x=>!p x) ++ List.replicate (d.size - (d.toList.filter fun x=>!p x).length) Rv).toArray:=AnyE.slices_DeleteFunc Tryz.amF enc bR p g zl Fv Rv v23 BW off cap d w aR OJ ahZ eW sv
end Go.Proofs
namespace Go.G9
open Go.RowKit
def mx (c:UInt8):Bool:=decide (48≤c.toNat) && decide (c.toNat≤57)
def kA:List UInt8→Nat→Nat
 | [],a=>a
 | c ::l,a=>kA l (10 * a + (c.toNat - 48))
theorem ML:∀(l m:List UInt8) (a:Nat),kA (l ++ m) a= kA m (kA l a)
 | [],_,_=>rfl
 | c ::l,m,a=>by simp only [List.cons_append,kA];exact ML l m _
theorem Jc:∀(l:List UInt8) (a:Nat),(∀c ∈ l,mx c= true)→kA l a < (a + 1) * 10 ^ l.length
 | [],a,_=>by simp [kA]
 | c ::l,a,h=>by
  have aG:=h c (by simp)
  simp only [mx,Bool.and_eq_true,decide_eq_true_eq] at aG
  have eP:=Jc l (10 * a + (c.toNat - 48)) (fun x ay=>h x (by simp [ay]));have h2:(10 * a + (c.toNat - 48) + 1) * 10 ^ l.length≤((a + 1) * 10) * 10 ^ l.length:=Nat.mul_le_mul_right _ (by omega)
  have h3:((a + 1) * 10) * 10 ^ l.length= (a + 1) * 10 ^ (l.length + 1):=by rw [Nat.pow_succ,Nat.mul_assoc,Nat.mul_comm 10]
  simp only [kA,List.length_cons]
  omega
theorem Ad (u:Nat):kA (Lib.decDigits u) 0= u∧(∀c ∈ Lib.decDigits u,mx c= true)∧Lib.decDigits u≠[]:=by
 rw [Lib.decDigits]
 have one:∀d,d < 10→(UInt8.ofNat (48 + d)).toNat= 48 + d:=fun d bS=>by
  rw [UInt8.toNat_ofNat'];omega
 split
 ·rename_i h
  refine⟨by simp only [kA];rw [one u h];omega,fun c aG=>?_,by simp⟩
  simp only [List.mem_singleton] at aG
  subst aG
  simp only [mx,one u h,Bool.and_eq_true,decide_eq_true_eq];omega
 ·rename_i h
  obtain⟨h1,h2,h3⟩:=Ad (u / 10)
  have bS:u % 10 < 10:=Nat.mod_lt _ (by omega)
  refine⟨by rw [ML,h1];simp only [kA];rw [one _ bS];omega,fun c aG=>?_,by simp⟩
  simp only [List.mem_append,List.mem_singleton] at aG
  rcases aG with aG | aG
  ·exact h2 c aG
  ·subst aG
   simp only [mx,one _ bS,Bool.and_eq_true,decide_eq_true_eq];omega
termination_by u
decreasing_by omega
def wA:List UInt8→Bool
 | c ::_ ::_=>c == 45
 | _=>false
def mN (l:List UInt8):List UInt8:=if wA l then l.tail else l
def hg (l:List UInt8):Int:=if wA l then -(kA (mN l) 0:Int) else (kA (mN l) 0:Int)
def fh (s:ByteArray):Bool:=decide (1≤(mN s.data.toList).length) && (decide ((mN s.data.toList).length≤6) && ((mN s.data.toList).all mx && decide (eT (hg s.data.toList)= s)))
def jF (s:ByteArray):Value:=if fh s then .tuple #[.int .i64 (hg s.data.toList),.bool true] else .tuple #[.int .i64 0,.bool false]
theorem Qb {s:ByteArray} (h6:(mN s.data.toList).length≤6) (bS:(mN s.data.toList).all mx= true):-999999≤hg s.data.toList∧hg s.data.toList≤999999:=by
 have h:=Jc (mN s.data.toList) 0 (fun c aG=>List.all_eq_true.1 bS c aG);have h2:10 ^ (mN s.data.toList).length≤10 ^ 6:=Nat.pow_le_pow_right (by omega) h6
 unfold hg;split <;> omega
theorem aov (v:Int) (h0:-999999≤v) (h1:v≤999999):fh (eT v)= true∧hg (eT v).data.toList= v:=by
 have aT:(eT v).data.toList= Lib.itoa v:=rfl
 have key:mN (Lib.itoa v)= Lib.decDigits v.natAbs∧wA (Lib.itoa v)= decide (v < 0):=by
  unfold Lib.itoa
  split
  ·rename_i h
   obtain⟨_,_,h3⟩:=Ad v.natAbs
   obtain⟨c,l,jA⟩:=List.exists_cons_of_ne_nil h3
   rw [jA]
   exact⟨by simp [mN,wA],by simp [wA,h]⟩
  ·rename_i h
   have az:v.toNat= v.natAbs:=by omega
   rw [az]
   obtain⟨_,h2,h3⟩:=Ad v.natAbs
   obtain⟨c,l,jA⟩:=List.exists_cons_of_ne_nil h3
   have aG:=h2 c (by rw [jA];simp)
   simp only [mx,Bool.and_eq_true,decide_eq_true_eq] at aG
   have aZ:wA (c ::l)= false:=by
    cases l with
    | nil=>rfl
    | cons d l=>
     show (c == 45)= false
     rw [beq_eq_false_iff_ne]
     intro e;subst e;simp at aG
   rw [jA]
   exact⟨by simp [mN,aZ],by rw [aZ];exact (decide_eq_false h).symm⟩
 obtain⟨eh,cm⟩:=key
 obtain⟨d1,d2,d3⟩:=Ad v.natAbs
 have bd:hg (Lib.itoa v)= v:=by
  rw [hg,eh,cm,d1]
  by_cases h:v < 0
  ·rw [decide_eq_true h];simp;omega
  ·rw [decide_eq_false h];simp;omega
 refine⟨?_,by rw [aT];exact bd⟩
 have e6:=xT 5 v.natAbs (by omega);have e1:1≤(Lib.decDigits v.natAbs).length:=List.length_pos_iff.2 d3
 rw [fh,aT,eh,bd,decide_eq_true e1,decide_eq_true e6,List.all_eq_true.2 d2]
 simp
theorem Qe {s:ByteArray} (h:fh s= true):s= eT (hg s.data.toList)∧-999999≤hg s.data.toList∧hg s.data.toList≤999999:=by
 simp only [fh,Bool.and_eq_true,decide_eq_true_eq] at h
 exact⟨h.2.2.2.symm,Qb h.2.1 h.2.2.1⟩
theorem QB {a b:ByteArray} (h:a≠b):(a.toList == b.toList)= false:=beq_eq_false_iff_ne.2 (by rw [ByteArray.toList_eq,ByteArray.toList_eq];exact fun e=>h (yG e))
theorem DC (t:ByteArray) {k:Nat} (ax:k < t.size):t.data.toList.take (k + 1)= t.data.toList.take k ++ [t[k]]:=by
 have h:k < t.data.toList.length:=by simpa using ax
 rw [List.take_succ_eq_append_getElem h]
 congr 1
theorem TV (t:ByteArray) {k:Nat} (ax:k < t.size):kA (t.data.toList.take (k + 1)) 0= 10 * kA (t.data.toList.take k) 0 + (t[k].toNat - 48):=by
 rw [DC t ax,ML];rfl
end Go.G9
namespace Go.Proofs.YtlaaemmmbodaaaaGreatDoor
open Go.RowKit Go.G9
theorem amJ (s:ByteArray):(s.extract 1 s.size).data.toList= s.data.toList.drop 1:=by
 rw [ByteArray.data_extract,Array.toList_extract]
 simp
 rw [List.take_of_length_le (by simp)]
theorem ZI (s:ByteArray) (h:1 < s.size):wA s.data.toList= (s[0] == 45):=by
 obtain⟨⟨l⟩⟩:=s
 match l with
 | []=>simp [ByteArray.size] at h
 | [c]=>simp [ByteArray.size] at h
 | c ::d ::l=>rfl
theorem aqC (s:ByteArray) (h:¬1 < s.size):wA s.data.toList= false:=by
 obtain⟨⟨l⟩⟩:=s
 match l with
 | []=>rfl
 | [c]=>rfl
 | c ::d ::l=>simp [ByteArray.size] at h
theorem aaK {p:Prop} (h:p:=by
 have hlen:(mN s.data.toList).length= s.size:=by rw [bP.out];simp
 have oz:=J hlen;clear hlen
 by_cases bz:1≤s.size∧s.size≤6
 case neg=>
  have hC:fc (s.size:Int) 1 6= false:=by
   cases aG:fc (s.size:Int) 1 6 with
   | false=>rfl
   | true=>simp only [fc,Bool.and_eq_true,decide_eq_true_eq] at aG;omega
  have pZ:=J hC;clear hC
  go_wp2_with fail
  refine (jv _ 1 6 _ pZ.out _).mono ?_
  rintro e w0 ⟨rfl,h0⟩
  rw [h0]
  clear h0 w0
  go_wp2
  go_ret2
  have hn:fh s= false:=by
   cases aG:fh s with
   | false=>rfl
   | true=>simp only [fh,oz.out,Bool.and_eq_true,decide_eq_true_eq] at aG;omega
  exact⟨by rw [jF,hn];rfl,Below.refl _ _⟩
 obtain⟨wh,ON⟩:=bz
 have hC:fc (s.size:Int) 1 6= true:=by simp only [fc,Bool.and_eq_true,decide_eq_true_eq];omega
 have pZ:=J hC;clear hC
 go_wp2_with fail
 refine (jv _ 1 6 _ pZ.out _).mono ?_
 rintro e w0 ⟨rfl,h0⟩
 rw [h0]
 clear h0 w0
 go_wp2
 go_loop [5,6] (fun n i=>∃k:Nat,k≤s.size∧i= .int .i64 k∧n= .int .i64 (kA (s.data.toList.take k) 0:Nat)∧(∀c ∈ s.data.toList.take k,mx c= true)) (fun _ i=>s.size - (intOf i).toNat)
 case atStart=>exact⟨0,Nat.zero_le _,rfl,rfl,by simp⟩
 case round=>
  obtain⟨k,ax,rfl,rfl,bS⟩:=hrel
  have aE:=Jc (s.data.toList.take k) 0 bS;have aP:10 ^ (s.data.toList.take k).length≤10 ^ 6:=Nat.pow_le_pow_right (by omega) (by rw [List.length_take];omega)
  have bC:kA (s.data.toList.take k) 0 < 1000000:=by omega
  clear aE aP;have fD:=J bS;clear bS
  by_cases bn:k < s.size
  ·have hl:s[k].toNat < 256:=s[k].toNat_lt
   by_cases h1:s[k].toNat < 48
   case pos=>
    go_wp2
    go_ret2
    have hn:fh s= false:=by
     cases aG:fh s with
     | false=>rfl
     | true=>
      simp only [fh,bP.out,Bool.and_eq_true,decide_eq_true_eq,List.all_eq_true] at aG
      have ay:=aG.2.2.1 s[k] (List.mem_of_mem_take (i:=k + 1) (by rw [DC s bn];simp))
      simp only [mx,Bool.and_eq_true,decide_eq_true_eq] at ay;omega
    exact⟨by rw [jF,hn];rfl,Below.refl _ _⟩
   by_cases h2:57 < s[k].toNat
   case pos=>
    go_wp2
    go_ret2
    have hn:fh s= false:=by
     cases aG:fh s with
     | false=>rfl
     | true=>
      simp only [fh,bP.out,Bool.and_eq_true,decide_eq_true_eq,List.all_eq_true] at aG
      have ay:=aG.2.2.1 s[k] (List.mem_of_mem_take (i:=k + 1) (by rw [DC s bn];simp))
      simp only [mx,Bool.and_eq_true,decide_eq_true_eq] at ay;omega
    exact⟨by rw [jF,hn];rfl,Below.refl _ _⟩
   have pG:∀c ∈ s.data.toList.take (k + 1),mx c= true:=fun c aG=>by
    rw [DC s bn] at aG
    simp only [List.mem_append,List.mem_singleton] at aG
    rcases aG with aG | aG
    ·exact fD.out c aG
    ·subst aG;simp only [mx,Bool.and_eq_true,decide_eq_true_eq];omega
   have uY:=TV s bn;have gp:=J pG;have LZ:=J uY;clear pG uY
   go_wp2
   go_round
   case rel=>exact⟨k + 1,by omega,by go_num,by rw [LZ.out];(try rfl);congr 1;omega,gp.out⟩
   case measure=>simp [intOf];omega
  ·obtain rfl:k= s.size:=by omega
   have lP:(mN s.data.toList).all mx= true:=by
    rw [bP.out,List.all_eq_true]
    have h:=fD.out
    rwa [List.take_of_length_le (by simp)] at h
   have bd:hg s.data.toList= (kA (s.data.toList.take s.size) 0:Nat):=by
    rw [hg,dW.out,bP.out,List.take_of_length_le (by simp)];rfl
   have rB:=Qb (s:=s) (by rw [oz.out];exact ON) lP
   rw [bd] at rB
   have DT:=J lP;have zV:=J bd;clear lP bd
   by_cases he:eT ((kA (s.data.toList.take s.size) 0:Nat))= s
   ·have Cz:((eT ((kA (s.data.toList.take s.size) 0:Nat))).toList == s.toList)= true:=beq_iff_eq.2 (by rw [he])
    have da:=J he;clear he
    go_wp2_with fail
    refine (qT _ (by omega) (by omega) _).mono ?_
    rintro e bg ⟨rfl,bE⟩
    go_wp2
    go_ret2
    have AI:fh s= true:=by simp only [fh,oz.out,DT.out,zV.out,da.out];simp;omega
    exact⟨by rw [jF,AI,zV.out];rfl,bE⟩
   ·have Cz:((eT ((kA (s.data.toList.take s.size) 0:Nat))).toList == s.toList)= false:=QB he
    have da:=J he;clear he
    go_wp2_with fail
    refine (qT _ (by omega) (by omega) _).mono ?_
    rintro e bg ⟨rfl,bE⟩
    go_wp2
    go_ret2
    have hn:fh s= false:=by
     cases aG:fh s with
     | false=>rfl
     | true=>
      simp only [fh,Bool.and_eq_true,decide_eq_true_eq,zV.out] at aG
      exact absurd aG.2.2.2 da.out
    exact⟨by rw [jF,hn];rfl,bE⟩):p:=h
theorem adn {p:Prop} (h:p:=by
 go_wp2
 go_ret2
 have hn:fh s= false:=by
  cases aG:fh s with
  | false=>rfl
  | true=>
   simp only [fh,bP.out,Bool.and_eq_true,decide_eq_true_eq,List.all_eq_true] at aG
   have ay:=aG.2.2.1 t[k] (List.mem_of_mem_take (i:=k + 1) (by rw [DC t bn];simp))
   simp only [mx,Bool.and_eq_true,decide_eq_true_eq] at ay;omega
 exact⟨by rw [jF,hn];rfl,Below.refl _ _⟩):p:=h
theorem ame (s:ByteArray) (aZ:s.size≤maxLen) (w:World):Calls Tryz.prog 194 #[s] w fun e ah=>e= .returned (jF s)∧Below w w ah:=by
 unfold maxLen at aZ
 by_cases h1:1 < s.size
 case neg=>
  have uT:=aqC s h1;have dW:=J uT;have bP:Hid (mN s.data.toList= s.data.toList):=J (by rw [mN,uT];rfl);clear uT
  go_in
  go_upto_region 4 with fail
  exact aaK
 have qR:s[0].toNat < 256:=s[0].toNat_lt
 by_cases h2:s[0]= 45
 case neg=>
  have uT:wA s.data.toList= false:=by rw [ZI s h1];exact beq_eq_false_iff_ne.2 h2
  have dW:=J uT;have bP:Hid (mN s.data.toList= s.data.toList):=J (by rw [mN,uT];rfl)
  have gC:((s[0].toNat:Int) == 45)= false:=by
   rw [beq_eq_false_iff_ne];intro e
   exact h2 (UInt8.toNat_inj.1 (by have:(45:UInt8).toNat= 45:=rfl;omega))
  clear uT
  go_in
  go_upto_region 4 with fail
  clear gC
  exact aaK
 have uT:wA s.data.toList= true:=by rw [ZI s h1];exact beq_iff_eq.2 h2
 have dW:=J uT
 have gC:((s[0].toNat:Int) == 45)= true:=by rw [h2];rfl
 go_in
 go_upto_region 4 with fail
 clear gC
 obtain⟨t,cA⟩ :∃t,t= s.extract 1 s.size:=⟨_,rfl⟩
 rw [← cA]
 have bP:Hid (mN s.data.toList= t.data.toList):=J (by rw [mN,uT,cA,amJ];simp)
 have Pa:t.size + 1= s.size:=by rw [cA,ByteArray.size_extract];omega
 clear uT cA
 have hlen:(mN s.data.toList).length= t.size:=by rw [bP.out];simp
 have oz:=J hlen;clear hlen
 by_cases bz:1≤t.size∧t.size≤6
 case neg=>
  have hC:fc (t.size:Int) 1 6= false:=by
   cases aG:fc (t.size:Int) 1 6 with
   | false=>rfl
   | true=>simp only [fc,Bool.and_eq_true,decide_eq_true_eq] at aG;omega
  have pZ:=J hC;clear hC
  go_wp2_with fail
  refine (jv _ 1 6 _ pZ.out _).mono ?_
  rintro e w0 ⟨rfl,h0⟩
  rw [h0]
  clear h0 w0
  go_wp2
  go_ret2
  have hn:fh s= false:=by
   cases aG:fh s with
   | false=>rfl
   | true=>simp only [fh,oz.out,Bool.and_eq_true,decide_eq_true_eq] at aG;omega
  exact⟨by rw [jF,hn];rfl,Below.refl _ _⟩
 obtain⟨wh,ON⟩:=bz
 have hC:fc (t.size:Int) 1 6= true:=by simp only [fc,Bool.and_eq_true,decide_eq_true_eq];omega
 have pZ:=J hC;clear hC
 go_wp2_with fail
 refine (jv _ 1 6 _ pZ.out _).mono ?_
 rintro e w0 ⟨rfl,h0⟩
 rw [h0]
 clear h0 w0
 go_wp2
 go_loop [5,6] (fun n i=>∃k:Nat,k≤t.size∧i= .int .i64 k∧n= .int .i64 (kA (t.data.toList.take k) 0:Nat)∧(∀c ∈ t.data.toList.take k,mx c= true)) (fun _ i=>t.size - (intOf i).toNat)
 case atStart=>exact⟨0,Nat.zero_le _,rfl,rfl,by simp⟩
 case round=>
  obtain⟨k,ax,rfl,rfl,bS⟩:=hrel
  have aE:=Jc (t.data.toList.take k) 0 bS;have aP:10 ^ (t.data.toList.take k).length≤10 ^ 6:=Nat.pow_le_pow_right (by omega) (by rw [List.length_take];omega)
  have bC:kA (t.data.toList.take k) 0 < 1000000:=by omega
  clear aE aP;have fD:=J bS;clear bS
  by_cases bn:k < t.size
  ·have hl:t[k].toNat < 256:=t[k].toNat_lt
   by_cases h1:t[k].toNat < 48
   case pos=>
    exact adn
   by_cases h2:57 < t[k].toNat
   case pos=>
    exact adn
   have pG:∀c ∈ t.data.toList.take (k + 1),mx c= true:=fun c aG=>by
    rw [DC t bn] at aG
    simp only [List.mem_append,List.mem_singleton] at aG
    rcases aG with aG | aG
    ·exact fD.out c aG
    ·subst aG;simp only [mx,Bool.and_eq_true,decide_eq_true_eq];omega
   have uY:=TV t bn;have gp:=J pG;have LZ:=J uY;clear pG uY
   go_wp2
   go_round
   case rel=>exact⟨k + 1,by omega,by go_num,by rw [LZ.out];(try rfl);congr 1;omega,gp.out⟩
   case measure=>simp [intOf];omega
  ·obtain rfl:k= t.size:=by omega
   have lP:(mN s.data.toList).all mx= true:=by
    rw [bP.out,List.all_eq_true]
    have h:=fD.out
    rwa [List.take_of_length_le (by simp)] at h
   have bd:hg s.data.toList= -(kA (t.data.toList.take t.size) 0:Nat):=by
    rw [hg,dW.out,bP.out,List.take_of_length_le (by simp)];rfl
   have rB:=Qb (s:=s) (by rw [oz.out];exact ON) lP
   rw [bd] at rB
   have DT:=J lP;have zV:=J bd;clear lP bd
   by_cases he:eT (-(kA (t.data.toList.take t.size) 0:Nat))= s
   ·have Cz:((eT (-(kA (t.data.toList.take t.size) 0:Nat))).toList == s.toList)= true:=beq_iff_eq.2 (by rw [he])
    have da:=J he;clear he
    go_wp2_with fail
    refine (qT _ (by omega) (by omega) _).mono ?_
    rintro e bg ⟨rfl,bE⟩
    go_wp2
    go_ret2
    have AI:fh s= true:=by simp only [fh,oz.out,DT.out,zV.out,da.out];simp;omega
    exact⟨by rw [jF,AI,zV.out];rfl,bE⟩
   ·have Cz:((eT (-(kA (t.data.toList.take t.size) 0:Nat))).toList == s.toList)= false:=QB he
    have da:=J he;clear he
    go_wp2_with fail
    refine (qT _ (by omega) (by omega) _).mono ?_
    rintro e bg ⟨rfl,bE⟩
    go_wp2
    go_ret2
    have hn:fh s= false:=by
     cases aG:fh s with
     | false=>rfl
     | true=>
      simp only [fh,Bool.and_eq_true,decide_eq_true_eq,zV.out] at aG
      exact absurd aG.2.2.2 da.out
    exact⟨by rw [jF,hn];rfl,bE⟩
open Go.RowKit Go.G9
theorem Nf:Tryz.prog.globalNamed "internal/strconv.uint64pow10" =some 2:=by kernel_rfl
def lf (w:World):Prop:=2 < w.heap.size∧Lib.TabIs Tryz.prog w "internal/strconv.uint64pow10" .u64 Lib.pow10Tab
theorem lf.U {w ah:World} (h:lf w) (aE:Below w w ah):lf ah:=⟨Nat.lt_of_lt_of_le h.1 aE.size,var?_below aE Nf h.1 h.2⟩
theorem AN (n:Int) (h0:-1000000000 < n) (h1:n < 1000000000) (w:World) (dt:lf w):Calls Tryz.prog 70 #[n] w fun e ah=>e= .returned (.string (eT n))∧Below w w ah:=by
 refine (Tryz.strconv_Itoa n (by omega) (by omega) w dt.2).mono ?_
 rintro e ah ⟨rfl,k,os,rfl⟩
 exact⟨rfl,rfl,rfl,rfl,by simp [Sort.grow],fun i hi=>(show (w.heap ++ os)[i]? =w.heap[i]? from Array.getElem?_append_left hi)⟩
end Go.Proofs.YtlaaemmmbodaaaaGreatDoor
namespace Go.G9
open Go.RowKit
theorem Ys:∀(l:List UInt8) (a:Nat),(∀c ∈ l,mx c= true)→(a + 1) * 10 ^ l.length≤10000000→Lib.parseUint10 a l= .ok (kA l a)
 | [],a,_,_=>rfl
 | c ::l,a,h,aE=>by
  have aG:=h c (by simp)
  simp only [mx,Bool.and_eq_true,decide_eq_true_eq] at aG
  have aR:1≤10 ^ l.length:=Nat.pow_pos (by omega)
  have h3:(a + 1) * 10 ^ (l.length + 1)= (a + 1) * 10 * 10 ^ l.length:=by rw [Nat.pow_succ,Nat.mul_assoc,Nat.mul_comm 10]
  simp only [List.length_cons] at aE
  rw [h3] at aE
  have h4:(a * 10 + (c.toNat - 48) + 1) * 10 ^ l.length≤(a + 1) * 10 * 10 ^ l.length:=Nat.mul_le_mul_right _ (by omega);have h5:(a + 1) * 10 * 1≤(a + 1) * 10 * 10 ^ l.length:=Nat.mul_le_mul_left _ aR;have eP:=Ys l (a * 10 + (c.toNat - 48)) (fun x ay=>h x (by simp [ay])) (by omega)
  rw [Lib.parseUint10,if_pos aG,if_neg (by omega),if_neg (by omega),eP]
  simp only [kA,Nat.mul_comm 10 a]
theorem afW (v:Int) (h0:-999999≤v) (h1:v≤999999):Lib.atoiAll (eT v).data.toList= .ok v:=by
 show Lib.atoiAll (Lib.itoa v)= .ok v
 have aT:∀u,u < 1000000→Lib.parseMag (Lib.decDigits u)= .ok u:=fun u hu=>by
  obtain⟨d1,d2,d3⟩:=Ad u
  have e6:=xT 5 u (by omega);have aR:10 ^ (Lib.decDigits u).length≤10 ^ 6:=Nat.pow_le_pow_right (by omega) e6
  rw [Lib.parseMag,if_neg d3,Ys _ 0 d2 (by omega),d1]
 unfold Lib.itoa
 split
 ·rename_i h
  rw [Lib.atoiAll_minus,aT _ (by omega)]
  simp only [Lib.signed]
  rw [if_neg (by omega)]
  congr 1;omega
 ·rename_i h
  obtain⟨_,d2,d3⟩:=Ad v.toNat
  have dM:=aT v.toNat (by omega)
  obtain⟨c,l,jA⟩:=List.exists_cons_of_ne_nil d3
  have aG:=d2 c (by rw [jA];simp)
  simp only [mx,Bool.and_eq_true,decide_eq_true_eq] at aG
  rw [jA] at dM ⊢
  rw [Lib.atoiAll_plain c l (by omega) (by omega),dM]
  simp only [Lib.signless]
  rw [if_neg (by omega)]
  congr 1;omega
theorem Qc {s:ByteArray} (h:fh s= true):Lib.atoiAll s.data.toList= .ok (hg s.data.toList):=by
 obtain⟨e,ds,du⟩:=Qe h
 have h2:=afW (hg s.data.toList) ds du
 rw [← e] at h2;exact h2
theorem aow {s:ByteArray} (h:fh s= true):s.size≤7:=by
 simp only [fh,Bool.and_eq_true,decide_eq_true_eq] at h
 have h6:=h.2.1
 have:s.data.toList.length= s.size:=by simp
 unfold mN at h6
 split at h6
 ·rw [List.length_tail] at h6;omega
 ·omega
end Go.G9
namespace Go.Proofs.YtlaaemmmbodaaaaGreatDoor
open Go.RowKit Go.G9
theorem Ng:Tryz.prog.globalNamed "strconv.ErrSyntax" =some 5:=by kernel_rfl
def By (w:World):Prop:=5 < w.heap.size∧∃wH p,w.var? Tryz.prog "strconv.ErrSyntax" =some #[.iface wH p]
theorem By.U {w ah:World} (h:By w) (aE:Below w w ah):By ah:=by
 obtain⟨h1,wH,p,h2⟩:=h
 exact⟨Nat.lt_of_lt_of_le h1 aE.size,wH,p,var?_below aE Ng h1 h2⟩
theorem Rm {p:Prop} (h:p:=by
 rcases sC with rfl | ⟨t,rfl⟩
 ·exact Below.refl _ _
 ·exact Lib.bytesWorld_below _ _ _):p:=h
theorem WL (s:ByteArray) (aZ:s.size≤maxLen) (w:World) (bP:lf w) (da:By w):Calls Tryz.prog 168 #[s] w fun e ah=>e= .returned (jF s)∧Below w w ah:=by
 unfold maxLen at aZ
 have no:∀{ah:World},fh s= false→Below w w ah→(Ending.returned (.tuple #[(0:Int),false])= Ending.returned (jF s)∧Below w w ah):=fun h aE=>⟨by rw [jF,h];rfl,aE⟩
 by_cases h7:s.size≤7
 case neg=>
  have hn:fh s= false:=Bool.eq_false_iff.2 fun h=>h7 (aow h)
  go_in
  go_wp2
  go_ret2
  exact no hn (Below.refl _ _)
 cases cX:Lib.atoiAll s.data.toList
 rotate_left
 ·have hn:fh s= false:=Bool.eq_false_iff.2 fun h=>by rw [Qc h] at cX;cases cX
  obtain⟨_,wH,p,Pd⟩:=da
  have lV:=J (fun W (h:W.var? Tryz.prog "strconv.ErrSyntax" =some #[.iface wH p])=>Tryz.strconv_Atoi_syntax_var s (by omega) cX wH p W h);clear cX
  go_in
  go_wp2_with fail
  refine (lV.out _ Pd).mono ?_
  rintro e bg ⟨N,rfl,_,_,bE⟩
  go_wp2
  go_ret2
  exact no hn bE
 ·exfalso
  rw [Lib.atoiAll_short _ (by simp;omega)] at cX
  cases ay:Lib.atoi s.data.toList <;> rw [ay] at cX <;> cases cX
 ·rename_i v
  obtain⟨eb,ds⟩:=Lib.atoiAll_bounds cX
  have lV:=J (fun W=>Tryz.strconv_Atoi_ok s (by omega) v cX W)
  cases hC:fc v (-999999) 999999
  ·have hn:fh s= false:=Bool.eq_false_iff.2 fun h=>by
    have e:=Qc h
    rw [cX] at e
    obtain⟨_,c0,au⟩:=Qe h
    injection e with e
    rw [← e] at c0 au
    have:fc v (-999999) 999999= true:=by simp only [fc,Bool.and_eq_true,decide_eq_true_eq];omega
    rw [this] at hC;cases hC
   have pZ:=J hC;clear hC cX
   go_in
   go_wp2_with fail
   refine (lV.out _).mono ?_
   rintro e bg ⟨rfl,sC⟩
   have bE:Below w w bg:=by
    exact Rm
   clear sC
   go_wp2_with fail
   refine (je v (-999999) 999999 _ pZ.out _).mono ?_
   rintro e w0 ⟨rfl,h0⟩
   rw [h0]
   clear h0 w0
   go_wp2
   go_ret2
   exact no hn bE
  have pI:-999999≤v∧v≤999999:=by simp only [fc,Bool.and_eq_true,decide_eq_true_eq] at hC;omega
  have pZ:=J hC;clear hC
  by_cases he:eT v= s
  ·have Cz:((eT v).toList == s.toList)= true:=beq_iff_eq.2 (by rw [he])
   have AI:=aov v pI.1 pI.2
   rw [he] at AI
   have iv:=J AI;clear AI cX he
   go_in
   go_wp2_with fail
   refine (lV.out _).mono ?_
   rintro e bg ⟨rfl,sC⟩
   have bE:Below w w bg:=by
    exact Rm
   clear sC
   go_wp2_with fail
   refine (je v (-999999) 999999 _ pZ.out _).mono ?_
   rintro e w0 ⟨rfl,h0⟩
   rw [h0]
   clear h0 w0
   go_wp2_with fail
   refine (AN v (by omega) (by omega) _ (bP.U bE)).mono ?_
   rintro e aQ ⟨rfl,aP⟩
   go_wp2
   go_ret2
   exact⟨by rw [jF,iv.out.1,iv.out.2];rfl,ai bE aP⟩
  ·have Cz:((eT v).toList == s.toList)= false:=QB he
   have hn:fh s= false:=Bool.eq_false_iff.2 fun h=>by
    have e:=Qc h
    rw [cX] at e
    injection e with e
    have:=(Qe h).1
    rw [← e] at this
    exact he this.symm
   clear cX he
   go_in
   go_wp2_with fail
   refine (lV.out _).mono ?_
   rintro e bg ⟨rfl,sC⟩
   have bE:Below w w bg:=by
    exact Rm
   clear sC
   go_wp2_with fail
   refine (je v (-999999) 999999 _ pZ.out _).mono ?_
   rintro e w0 ⟨rfl,h0⟩
   rw [h0]
   clear h0 w0
   go_wp2_with fail
   refine (AN v (by omega) (by omega) _ (bP.U bE)).mono ?_
   rintro e aQ ⟨rfl,aP⟩
   go_wp2
   go_ret2
   exact no hn (ai bE aP)
end Go.Proofs.YtlaaemmmbodaaaaGreatDoor
namespace Go.G9
open Go.RowKit
def jg {T:Type} (p:T→Bool) (xs:List T) (i:Nat):Bool:=match xs[i]? with | some x=>p x | none=>false
def oJ {T:Type} (p:T→Bool) (xs:List T):Int:=match xs.findIdx? p with | some i=>i | none=>-1
theorem Pl {T:Type} {p:T→Bool} {xs:List T} (h:hI (fun i=>!jg p xs i) xs.length= true):oJ p xs= -1:=by
 have:xs.findIdx? p= none:=by
  rw [List.findIdx?_eq_none_iff]
  intro x ay
  obtain⟨i,hi⟩:=List.getElem?_of_mem ay
  have:=oV.1 h i (List.getElem?_eq_some_iff.1 hi).1
  simpa [jg,hi] using this
 simp [oJ,this]
theorem Pk {T:Type} {p:T→Bool} {xs:List T} {k:Nat} (ax:k < xs.length) (h:hI (fun i=>!jg p xs i) k= true) (aR:jg p xs k= true):oJ p xs= k:=by
 have:xs.findIdx? p= some k:=by
  rw [List.findIdx?_eq_some_iff_getElem]
  refine⟨ax,?_,fun j bI=>?_⟩
  ·simpa [jg,List.getElem?_eq_getElem ax] using aR
  ·have:=oV.1 h j bI
   simpa [jg,List.getElem?_eq_getElem (show j < xs.length by omega)] using this
 simp [oJ,this]
theorem JN {T:Type} (p:T→Bool) (xs:List T):(decide (0≤oJ p xs))= xs.any p:=by
 unfold oJ
 cases h:xs.findIdx? p with
 | none=>simp at h;simpa using fun x ay=>by simpa using h x ay
 | some i=>
  rw [List.findIdx?_eq_some_iff_getElem] at h
  obtain⟨hi,aR,_⟩:=h
  have:xs.any p= true:=List.any_eq_true.2 ⟨_,List.getElem_mem hi,aR⟩
  rw [this];simp
theorem alE {T:Type} (p:T→Bool) (xs:List T):-1≤oJ p xs∧oJ p xs < xs.length:=by
 unfold oJ
 cases h:xs.findIdx? p with
 | none=>simp;omega
 | some i=>
  rw [List.findIdx?_eq_some_iff_getElem] at h
  obtain⟨hi,_⟩:=h
  simp;omega
theorem Bp {P:Program} {f:FuncId} {fn:Func} (hf:P.funcs[f]? =some fn) (aju:(fn.name == "runtime.NumGoroutine")= false) (aE:fn.body.isNone= false) (args:Array Value) (W:World):
  (callFunc f args).run P W= .ok (.enter f args) W:=by
 have h1:fn.name≠ "runtime.NumGoroutine":=by simpa using aju
 have h2:fn.body≠none:=by intro h;rw [h] at aE;simp at aE
 simp [callFunc,hf,h1,h2]
def bU (x:Int):List Value:=[.int .i64 x]
structure Str where
 s:ByteArray
 ok:s.size≤maxLen
def Str.cells (x:Str):List Value:=[.string x.s]
end Go.G9
namespace Go.Proofs.YtlaaemmmbodaaaaGreatDoor
open Go.RowKit Go.G9
theorem Uj {T:Type} {f:T→List Value} {sz:Nat} (hf:∀y,(f y).length= sz):∀(xs:List T) (i:Nat) (x y:T) (j:Nat) (u:Value),xs[i]? =some x→f y= (f x).set j u→j < sz→(xs.flatMap f).set (i * sz + j) u= (xs.set i y).flatMap f
 | [],i,x,y,j,u,h,_,_=>by simp at h
 | a ::xs,0,x,y,j,u,h,hy,bI=>by
  simp at h;subst h
  simp only [List.flatMap_cons,List.set_cons_zero,Nat.zero_mul,Nat.zero_add,hy]
  rw [List.set_append_left _ _ (by rw [hf];exact bI)]
 | a ::xs,i + 1,x,y,j,u,h,hy,bI=>by
  have eP:=Uj hf xs i x y j u (by simpa using h) hy bI
  simp only [List.flatMap_cons,List.set_cons_succ]
  rw [List.set_append_right _ _ (by rw [hf,Nat.succ_mul];omega),hf,show (i + 1) * sz + j - sz= i * sz + j by rw [Nat.succ_mul];omega,eP]
theorem aX.aqA {T:Type} {f:T→List Value} {B sz:Nat} {e:TypeId} {w:World} {v:Value} {xs:List T} {g:Nat} (bR:aX B e sz f w v xs) (ck:v.ownBlock= some g) (hf:∀y,(f y).length= sz) {i j:Nat} {x y:T} {u:Value} (ay:xs[i]? =some x) (hy:f y= (f x).set j u) (bI:j < sz):
  aX B e sz f (w.setCell ⟨g,i * sz + j,none⟩ u) v (xs.set i y):=by
 have h:=Yq (j:=i * sz + j) (u:=u) bR ck
 rw [Uj hf xs i x y j u ay hy bI] at h
 unfold aX
 rw [List.length_set]
 exact h
def Db (k:Nat):ByteArray:=if _h:k= 0 then ⟨#[]⟩ else Db (k / 10) ++⟨#[48 + UInt8.ofNat (k % 10)]⟩
termination_by k
decreasing_by omega
def vj (k:Nat):ByteArray:=⟨#[109]⟩ ++ Db k
theorem amP (k:Nat) (h0:0 < k) (h1:k≤1000000000) (w:World):Calls Tryz.prog 85 #[k] w fun e ah=>e= .returned (.string (vj k))∧Below w w ah:=by
 go_in
 go_wp2
 go_loopw [0,3] (fun n s wr=>∃(j:Nat) (t:ByteArray),j≤k∧n= .int .i64 j∧s= .string t∧Db k= Db j ++ t∧t.size + j≤k∧Below w w wr) (fun n _ _=>(intOf n).toNat)
 case atStart=>exact⟨k,⟨#[]⟩,Nat.le_refl _,rfl,rfl,by rw [show (⟨#[]⟩ :ByteArray)= ByteArray.empty from rfl,ByteArray.append_empty],Nat.le_of_eq (Nat.zero_add k),Below.refl _ _⟩
 case round=>
  obtain⟨j,t,bI,rfl,rfl,hm,aZ,aE⟩:=hrel
  have dQ:=J hm;clear hm
  by_cases bn:0 < j
  ·have aG:Lib.Bytes (wr.alloc (.cells #[.int .u8 (48 + (j:Int) % 10)] 5)) wr.heap.size 0 ⟨#[UInt8.ofNat (48 + j % 10)]⟩:=by
    intro i hi
    obtain rfl:i= 0:=by simp [ByteArray.size] at hi;omega
    have hu:(UInt8.ofNat (48 + j % 10)).toNat= 48 + j % 10:=by simp;omega
    show _= some (Value.int .u8 ((UInt8.ofNat (48 + j % 10)).toNat:Int))
    rw [hu]
    have h:=(aC.new wr 5 #[.int .u8 (48 + (j:Int) % 10)]).cell 0
    refine h.trans ?_
    simp
   have ga:=Lib.run_convert_whole (P:=Tryz.prog) _ 35 5 9 Tryz.underlying35 Tryz.underlying5 Tryz.underlying9 wr.heap.size 0 ⟨#[UInt8.ofNat (48 + j % 10)]⟩ aG 1
   rw [show (⟨#[UInt8.ofNat (48 + j % 10)]⟩ :ByteArray).size= 1 from rfl] at ga
   clear aG
   go_wp2
   go_roundw
   case rel=>exact⟨j / 10,_,by omega,by go_num,rfl,by rw [dQ.out,Db,dif_neg (by omega),ByteArray.append_assoc],by simp [ByteArray.size_append];show 1 + _ + _≤_;omega,aE.alloc aE.size _⟩
   case measure=>simp [intOf];omega
  ·obtain rfl:j= 0:=by omega
   go_wp2
   go_ret
   refine⟨?_,aE⟩
   show Ending.returned (Value.string (⟨#[109]⟩ ++ t))= _
   rw [vj,dQ.out,Db,dif_pos rfl,show ((⟨#[]⟩ :ByteArray) ++ t)= t from ByteArray.empty_append]
open Go.RowKit Go.G9
def hasB (xs:List Int) (n:Int):Bool:=xs.any (fun x=>x == n)
theorem aiy {xs:List Int} {n x:Int} {k:Nat} (ay:xs[k]? =some x) (h:x= n):hasB xs n= true:=by
 subst h;exact List.any_eq_true.2 ⟨x,List.mem_of_getElem? ay,by simp⟩
theorem aix {xs:List Int} {n:Int} (h:hI (fun i=>!jg (fun x=>x == n) xs i) xs.length= true):hasB xs n= false:=by
 have:=JN (fun x=>x == n) xs
 rw [Pl h] at this
 exact this.symm
theorem abx {p:Prop} (h:p:=by
 go_wp2
 go_roundw
 case rel=>exact⟨k + 1,by omega,by go_num,np cJ.out (by simp [jg,cg.out,he]),aE⟩
 case measure=>simp [intOf];omega):p:=h
theorem zk (A:Option Addr) (c:Nat) (xs:List Int) (n:Int) (bd:xs.length≤1048576) (v:Bool) (az:hasB xs n= v) (w:World) (bN:aJ 1 bU w A xs):
 Calls Tryz.prog 265 #[.slice A xs c,n] w fun e ah=>e= .returned v∧Below w w ah:=by
 subst az
 go_in
 go_wp2
 go_loopw [5] (fun i wr=>∃k:Nat,k≤xs.length∧i= .int .i64 k∧hI (fun i=>!jg (fun x=>x == n) xs i) k= true∧Below w w wr) (fun i _=>xs.length - (intOf i).toNat)
 case atStart=>exact⟨0,Nat.zero_le _,rfl,rfl,Below.refl _ _⟩
 case round=>
  obtain⟨k,ax,rfl,aT,aE⟩:=hrel
  have cJ:=J aT;clear aT
  by_cases bn:k < xs.length
  ·obtain⟨b,off,x,rfl,dU,ay,bq⟩:=bN.at_ aE bn
   have f0:=bq 0 _ rfl
   simp only [Nat.mul_one,Nat.add_zero] at f0
   have g0:=f0 (aB.self _)
   simp only [aB.self] at g0
   have cg:=J ay;clear ay bq
   by_cases he:x= n
   ·have uH:(x == n)= true:=beq_iff_eq.2 he
    have da:=J he;clear he
    go_wp2
    go_ret
    exact⟨ep (aiy cg.out da.out).symm,aE⟩
   ·have uH:(x == n)= false:=beq_eq_false_iff_ne.2 he
    exact abx
  ·obtain rfl:k= xs.length:=by omega
   go_wp2
   go_ret
   exact⟨ep (aix cJ.out).symm,aE⟩
theorem Li {p:Prop} (h:p:=by
 obtain rfl:k= xs.length:=by omega
 go_wp2
 go_ret
 exact⟨wy (Pl cJ.out).symm,aE⟩):p:=h
theorem alH (A:Option Addr) (c:Nat) (xs:List Int) (n:Int) (bd:xs.length≤1048576) (v:Int) (az:oJ (fun x=>x == n) xs= v) (w:World) (bN:aJ 1 bU w A xs):
 Calls Tryz.prog 270 #[.slice A xs c,n] w fun e ah=>e= .returned v∧Below w w ah:=by
 subst az
 go_in
 go_wp2
 go_loopw [8] (fun i wr=>∃k:Nat,k≤xs.length∧i= .int .i64 k∧hI (fun i=>!jg (fun x=>x == n) xs i) k= true∧Below w w wr) (fun i _=>xs.length - (intOf i).toNat)
 case atStart=>exact⟨0,Nat.zero_le _,rfl,rfl,Below.refl _ _⟩
 case round=>
  obtain⟨k,ax,rfl,aT,aE⟩:=hrel
  have cJ:=J aT;clear aT
  by_cases bn:k < xs.length
  ·obtain⟨b,off,x,rfl,dU,ay,bq⟩:=bN.at_ aE bn
   have f0:=bq 0 _ rfl
   simp only [Nat.mul_one,Nat.add_zero] at f0
   have g0:=f0 (aB.self _)
   simp only [aB.self] at g0
   have cg:=J ay;clear ay bq
   by_cases he:x= n
   ·have uH:(n == x)= true:=beq_iff_eq.2 he.symm
    have da:=J he;clear he
    go_wp2
    go_ret
    exact⟨wy (Pk bn cJ.out (by simp [jg,cg.out,da.out])).symm,aE⟩
   ·have uH:(n == x)= false:=beq_eq_false_iff_ne.2 (Ne.symm he)
    exact abx
  ·exact Li
theorem Ac (A:Option Addr) (c:Nat) (xs:List Int) (n:Int) (bd:xs.length≤1048576) (v:Bool) (az:hasB xs n= v) (w:World) (bN:aJ 1 bU w A xs):
 Calls Tryz.prog 199 #[.slice A xs c,n] w fun e ah=>e= .returned v∧Below w w ah:=by
 subst az
 have ck:=JN (fun x=>x == n) xs;have hx:=J ck;clear ck
 go_in
 go_wp2_with fail
 refine (alH A c xs n bd _ rfl _ bN).mono ?_
 rintro e ah ⟨rfl,aE⟩
 go_wp2
 go_ret
 exact⟨ep hx.out,aE⟩
open Go.RowKit Go.G9
theorem rI:(Tryz.prog.info? 3).map (fun i=>(i.zero,i.size,i.bytes))= some (some (.int .i64 0),1,8):=by kernel_rfl
theorem fZ (y:Int):(bU y).length= 1:=rfl
theorem pd (y:Int) (u:Value) (h:u ∈ bU y):u.oneCell'= true:=by simp [bU] at h;subst h;rfl
theorem arb (A:Option Addr) (c:Nat) (xs:List Int) (bd:xs.length≤maxLen) (l:Int) (h00:0≤l) (h01:l≤1048576) (w:World):
 Calls Tryz.prog 216 #[.slice A xs c,l] w fun e ah=>∃r:Int,e= .returned r∧-1≤r∧r≤l∧(r < 0∨xs.length≤1048576)∧ah= w:=by
 unfold maxLen at bd
 go_in
 go_wp2
 all_goals go_ret
 all_goals exact⟨_,rfl,by omega,by omega,by omega,rfl⟩
theorem acJ {p:Prop} (h:p:=by
 go_wp2
 go_loopw [5] (fun i wr=>∃(k:Nat),k≤xs.length∧i= .int .i64 k∧Below w w wr) (fun i _=>xs.length - (intOf i).toNat)
 case atStart=>exact⟨0,Nat.zero_le _,rfl,Below.refl _ _⟩
 case round=>
  obtain⟨k,ax,rfl,aE⟩:=hrel
  by_cases bn:k < xs.length
  ·obtain⟨b,off,x,rfl,dU,ay,bq⟩:=bN.at_ aE bn
   obtain⟨cE,rO,bG,rfl,_,kV,jB⟩:=vW.at_ aE bn
   obtain rfl:x= bG:=Option.some.inj (ay.symm.trans kV)
   have f0:=bq 0 _ rfl;have e0:=jB 0 _ rfl
   simp only [Nat.mul_one,Nat.add_zero] at f0 e0
   clear ay bq kV jB
   go_wp2
   refine eC (by kernel_rfl) (by kernel_rfl) ?_
   repeat (go_big_quiet_step ((fail)))
   refine wpQuiet_nil ?_
   intro K
   go_wp2
   go_roundw
   case rel=>exact⟨k + 1,by omega,by go_num,ai aE K.U⟩
   case measure=>simp [intOf];omega
  ·go_wp2
   go_ret
   exact⟨rfl,aE⟩):p:=h
theorem agO (A gK:Option Addr) (c cO:Nat) (xs:List Int) (bd:xs.length≤1048576) (w:World) (bN:aJ 1 bU w A xs) (vW:aJ 1 bU w gK xs):
 Calls Tryz.prog 223 #[.slice A xs c,.slice gK xs cO] w fun e ah=>e= .returned true∧Below w w ah:=by
 go_in
 exact acJ
theorem HX {p:Prop} (h:p:=by
 obtain rfl:k= xs.length:=by omega
 go_wp2
 go_ret
 exact⟨_,rfl,aX.filled bp (Nat.le_refl _) eV.out (by unfold maxLen;omega) aj.all,aE⟩):p:=h
theorem art (A:Option Addr) (c:Nat) (xs:List Int) (bd:xs.length≤1048576) (w:World) (bN:aJ 1 bU w A xs):
 Calls Tryz.prog 219 #[.slice A xs c] w fun e ah=>∃gK,e= .returned (.slice gK xs xs)∧aX w 3 1 bU ah (.slice gK xs xs) xs∧Below w w ah:=by
 obtain⟨i0,hi,dk,dx,dC⟩:=info_parts rI
 have lj:=HC (P:=Tryz.prog) 38 3 i0 _ Tryz.underlying38 hi dk .i64 .i64 xs.length xs.length (Nat.le_refl _) (by rw [dC];omega) (by omega)
 rw [dx] at lj
 go_in
 go_wp2
 go_loopw [4] (fun i wr=>∃(k:Nat) (cs:Array Value),k≤xs.length∧i= .int .i64 k∧aC wr w.heap.size 3 cs∧cs.size= xs.length * 1∧ku 1 bU xs k cs∧Below w w wr) (fun i _=>xs.length - (intOf i).toNat)
 case atStart=>exact⟨0,_,Nat.zero_le _,rfl,aC.new _ _ _,by simp [madeCells],ku.zero,ca _ _⟩
 case round=>
  obtain⟨k,cs,ax,rfl,bp,eW,aj,aE⟩:=hrel
  have eV:=J eW;clear eW
  by_cases bn:k < xs.length
  ·obtain⟨b,off,x,rfl,dU,ay,bq⟩:=bN.at_ aE bn
   have f0:=bq 0 _ rfl
   simp only [Nat.mul_one,Nat.add_zero] at f0
   have g0:=f0 (aB.self _)
   simp only [aB.self] at g0
   clear bq;have cg:=J ay;clear ay
   obtain⟨v0,c0⟩:=bp.some_ k (by rw [eV.out];omega)
   have z0:=bp.frozen k
   go_wp2
   go_roundw
   case rel=>exact⟨k + 1,gq cs (k * 1) (bU x),by omega,by go_num,by have h:=bp.gq (k * 1) (bU x);rw [Nat.mul_one] at h ⊢;exact h,by rw [oO,eV.out],aj.put cg.out (by rw [eV.out];simp [bU];omega),aE.setCell (Nat.le_refl _) _⟩
   case measure=>simp [intOf];omega
  ·exact HX
theorem adf {p:Prop} (h:p:=by
 go_in
 go_wp2_with ((at_builtin;refine La rfl _ _ 38 rfl w.heap.size 3 i0 _ 1 8 Tryz.underlying38 hi dk dx dC rfl (by decide) bU fZ pd _ ([]:List Int) rfl (aX.made w (Nat.le_refl _) _) A c xs rfl (bN.alloc _) aU (by unfold maxLen;simp;omega) (by simp;omega) (by simp) ?_;intro lT bg bR ck))
 go_ret
 obtain⟨gK,cO,rfl,_,_⟩:=bR.form fZ
 exact⟨gK,cO,rfl,bR,(ca _ _).trans (Ni ck (by simp) (fun k ax=>Nat.le_of_eq (Option.some.inj ax)))⟩):p:=h
theorem amd (A:Option Addr) (c:Nat) (xs:List Int) (bd:xs.length≤1048576) (aU:A= none→xs= []∧c= 0) (w:World) (bN:aJ 1 bU w A xs):
 Calls Tryz.prog 242 #[.slice A xs c] w fun e ah=>∃gK cO,e= .returned (.slice gK xs cO)∧aX w 3 1 bU ah (.slice gK xs cO) xs∧Below w w ah:=by
 obtain⟨i0,hi,dk,dx,dC⟩:=info_parts rI
 exact adf
open Go.RowKit Go.G9
structure SB where
 id:Int
 aah:ByteArray
 given:Int
 days:Int
 ok:aah.size≤maxLen
def SB.cells (n:SB):List Value:=[.int .i64 n.id,.string n.aah,.int .i64 n.given,.int .i64 n.days]
end Go.Proofs.YtlaaemmmbodaaaaGreatDoor
namespace Go.G9
open Go.RowKit
def gF (m s:Int) (n:Nat):List Int:=(List.range n).map fun (i:Nat)=>m + s * (i:Int)
theorem Dw (cs:Array Value) (i:Nat) (a:Value) (bs:List Value):gq (gq cs i [a]) (i + 1) bs= gq cs i (a ::bs):=rfl
theorem wk (m s:Int) (n:Nat):(gF m s n).length= n:=by simp [gF]
theorem AV {m s:Int} {n k:Nat} (h:k < n):(gF m s n)[k]? =some (m + s * k):=by simp [gF,h]
section
variable {T uh:Type} {B:Nat} {e:TypeId} {sz:Nat} {f:T→List Value} {h:uh→List Value} {w ah:World} {v:Value} {xs:List T}
theorem aX.block (bR:aX B e sz f w v xs) (bd:0 < xs.length):∃g cap cur,v= .slice (some ⟨g,0,none⟩) xs.length cap∧B≤g∧aC w g e cur∧xs.length≤cap∧cap≤maxLen∧cur.size= cap * sz:=by
 rcases bR.2 with ⟨_,h0⟩ | ⟨g,cap,cur,az,bp,dM,mG,jQ,hM,_⟩
 ·omega
 ·exact⟨g,cap,cur,az,bp,dM,mG,jQ,hM⟩
theorem aX.empty {A:Option Addr} {n c:Nat} {m s:Int} (bR:aX B e sz f w (.slice A n c) ([]:List T)) {p:Int→List Value}:aX B e sz p w (.slice A 0 c) (gF m s 0):=by
 obtain⟨aT,bR⟩:=bR
 refine⟨by simp [gF],?_⟩
 rcases bR with ⟨az,h0⟩ | ⟨g,cap,cur,az,bp,dM,mG,jQ,hM,wi⟩
 ·injection az with h1 h2 h3
  subst h1 h2 h3
  exact .inl ⟨rfl,by simp [gF]⟩
 ·injection az with h1 h2 h3
  subst h1 h3
  simp at h2
  exact .inr ⟨g,c,cur,by simp [gF],bp,dM,by simp [gF],jQ,hM,by simp [gF]⟩
theorem aX.De {g cap:Nat} {cs:Array Value} (aE:aC w g e cs) (bp:B≤g) (aG:xs.length≤cap) (hm:cap≤maxLen) (eW:cs.size= cap * sz) (aj:∀i x,xs[i]? =some x→∀j u,(f x)[j]? =some u→cs[i * sz + j]? =some u)
  (hf:∀y,(f y).length= sz:=by intro y;rfl):aX B e sz f w (.slice g xs cap) xs:=by
 refine⟨mc hf xs,.inr ⟨g,cap,cs,rfl,bp,aE,aG,hm,eW,?_⟩⟩
 have hle:xs.length * sz≤cap * sz:=Nat.mul_le_mul_right sz aG
 apply List.ext_getElem?
 intro k
 rw [List.getElem?_take]
 by_cases ax:k < (xs.flatMap f).length
 ·obtain⟨i,j,x,ay,bI,rfl⟩:=Jg hf xs k _ (List.getElem?_eq_getElem ax)
  rw [mc hf] at ax
  rw [if_pos ax,List.getElem?_eq_getElem (l:=xs.flatMap f) (by rw [mc hf];exact ax),← aj i x ay j _ bI];simp
 ·rw [mc hf] at ax
  rw [if_neg ax,List.getElem?_eq_none (by rw [mc hf];omega)]
end
end Go.G9
namespace Go.Proofs.YtlaaemmmbodaaaaGreatDoor
open Go.RowKit Go.G9
theorem Px (z:Int) (h0:0 < z) (h1:z≤1000000000) (w:World):Calls Tryz.prog 85 #[z] w fun e ah=>e= .returned (.string (vj z.toNat))∧Below w w ah:=by
 have h:=amP z.toNat (by omega) (by omega) w
 rw [show ((z.toNat:Nat):Int)= z from Int.toNat_of_nonneg (by omega)] at h
 exact h
end Go.Proofs.YtlaaemmmbodaaaaGreatDoor
namespace Go.G9
open Go.RowKit
def pT (p:Int→Bool) (S:List Int):Nat→Nat
 | 0=>0
 | j + 1=>match S[j]? with | some z=>if p z then pT p S j else j + 1 | none=>j + 1
def zh (p:Int→Bool) (S:List Int) (z:Int):List Int:=S.take (pT p S S.length) ++ z ::S.drop (pT p S S.length)
def ik (c:Int→Int→Int) (xs:List Int):Nat→List Int
 | 0=>[]
 | i + 1=>match xs[i]? with | some x=>zh (fun z=>decide (c x z < 0)) (ik c xs i) x | none=>ik c xs i
theorem Qq (p:Int→Bool) (S:List Int):∀j,pT p S j≤j
 | 0=>Nat.le_refl _
 | j + 1=>by
  have:=Qq p S j
  unfold pT
  split
  ·split <;> omega
  ·omega
theorem Zy {p:Int→Bool} {S:List Int} {j:Nat} {z:Int} (cb:S[j]? =some z) (aR:p z= true):pT p S (j + 1)= pT p S j:=by
 rw [pT,cb];simp [aR]
theorem Zw {p:Int→Bool} {S:List Int} {j:Nat} {z:Int} (cb:S[j]? =some z) (aR:p z= false):pT p S (j + 1)= j + 1:=by
 rw [pT,cb];simp [aR]
theorem alJ (p:Int→Bool) (S:List Int) (z:Int):(zh p S z).length= S.length + 1:=by
 have:=Qq p S S.length
 simp [zh];omega
section
variable {c:Int→Int→Int} {xs:List Int}
theorem KN {k:Nat} {x:Int} (ay:xs[k]? =some x):ik c xs (k + 1)= zh (fun z=>decide (c x z < 0)) (ik c xs k) x:=by rw [ik,ay]
theorem wF:∀k,k≤xs.length→(ik c xs k).length= k
 | 0,_=>rfl
 | k + 1,h=>by
  have eP:=wF k (by omega)
  rw [KN (List.getElem?_eq_getElem (by omega:k < xs.length)),alJ,eP]
theorem KO:∀k z,z ∈ ik c xs k→z ∈ xs
 | 0,z,cb=>by simp [ik] at cb
 | k + 1,z,cb=>by
  cases ay:xs[k]? with
  | none=>rw [ik,ay] at cb;exact KO k z cb
  | some x=>
   rw [KN ay] at cb
   simp only [zh,List.mem_append,List.mem_cons] at cb
   rcases cb with cb | rfl | cb
   ·exact KO k z (List.mem_of_mem_take cb)
   ·exact List.mem_of_getElem? ay
   ·exact KO k z (List.mem_of_mem_drop cb)
def pR (c:Int→Int→Int) (xs:List Int) (k:Nat) (x:Int) (j:Nat):List Int:=(ik c xs k).take j ++ x ::((ik c xs k).drop j ++ xs.drop (k + 1))
def vn (c:Int→Int→Int) (xs:List Int) (k:Nat):List Int:=ik c xs k ++ xs.drop k
theorem Zd {k:Nat} {x:Int} (ay:xs[k]? =some x):vn c xs k= pR c xs k x k:=by
 obtain⟨h,he⟩:=List.getElem?_eq_some_iff.1 ay
 have aT:=wF (c:=c) (xs:=xs) k (by omega)
 unfold vn pR
 rw [List.drop_eq_getElem_cons h,he,List.take_of_length_le (by omega),List.drop_of_length_le (l:=ik c xs k) (by omega),List.nil_append]
theorem aph {k j:Nat} {x:Int} (h:k < xs.length) (bI:j≤k):(pR c xs k x j)[j]? =some x:=by
 have aT:=wF (c:=c) (xs:=xs) k (by omega)
 unfold pR
 rw [List.getElem?_append_right (by simp;omega)]
 simp [aT,Nat.min_eq_left bI]
theorem api {k j:Nat} {x z:Int} (h:k < xs.length) (bI:j < k) (cb:(ik c xs k)[j]? =some z):(pR c xs k x (j + 1))[j]? =some z:=by
 have aT:=wF (c:=c) (xs:=xs) k (by omega)
 unfold pR
 rw [List.getElem?_append_left (by simp;omega),List.getElem?_take,if_pos (by omega)]
 exact cb
theorem apj {k j:Nat} {x z:Int} (h:k < xs.length) (bI:j < k) (cb:(ik c xs k)[j]? =some z):
  pR c xs k x (j + 1)= (ik c xs k).take j ++ (z ::x ::((ik c xs k).drop (j + 1) ++ xs.drop (k + 1)))∧pR c xs k x j= (ik c xs k).take j ++ (x ::z ::((ik c xs k).drop (j + 1) ++ xs.drop (k + 1))):=by
 have aT:=wF (c:=c) (xs:=xs) k (by omega)
 have ie:j < (ik c xs k).length:=by omega
 have WC:(ik c xs k)[j]= z:=by rw [List.getElem?_eq_getElem ie] at cb;exact Option.some.inj cb
 unfold pR
 refine⟨?_,?_⟩
 ·rw [List.take_succ_eq_append_getElem ie,WC];simp
 ·rw [List.drop_eq_getElem_cons ie,WC];simp
theorem apk {k j:Nat} {x z:Int} (h:k < xs.length) (bI:j < k) (cb:(ik c xs k)[j]? =some z):
  ((pR c xs k x (j + 1)).set (j + 1) z).set j x= pR c xs k x j:=by
 obtain⟨e1,e2⟩:=apj (x:=x) h bI cb
 have aT:=wF (c:=c) (xs:=xs) k (by omega)
 have uW:((ik c xs k).take j).length= j:=by rw [List.length_take];omega
 rw [e1,e2]
 rw [List.set_append_right _ _ (by omega),uW,show j + 1 - j= 1 by omega,List.set_cons_succ,List.set_cons_zero,List.set_append_right _ _ (by omega),uW,Nat.sub_self,List.set_cons_zero]
theorem Qm {k j:Nat} {x:Int} (ay:xs[k]? =some x) (aZ:pT (fun z=>decide (c x z < 0)) (ik c xs k) k= j):pR c xs k x j= vn c xs (k + 1):=by
 have h:=(List.getElem?_eq_some_iff.1 ay).1;have aT:=wF (c:=c) (xs:=xs) k (by omega)
 unfold pR vn
 rw [KN ay]
 simp only [zh,aT,aZ]
 simp
theorem Ze {k j:Nat} {x:Int} (h:k < xs.length) (bI:j≤k):(pR c xs k x j).length= xs.length:=by
 have aT:=wF (c:=c) (xs:=xs) k (by omega)
 simp [pR,aT];omega
theorem apg:vn c xs 0= xs:=by simp [vn,ik]
theorem apf:vn c xs 1= xs:=by
 cases xs with
 | nil=>rfl
 | cons x r=>
  have ay:(x ::r)[0]? =some x:=rfl
  conv=>rhs;rw [← apg (c:=c) (xs:=x ::r)]
  rw [Zd ay,Qm (j:=0) ay rfl]
theorem ape {k:Nat} (h1:k≤xs.length∨k= 1) (h2:¬k < xs.length):vn c xs k= ik c xs xs.length:=by
 rcases h1 with h1 | h1
 ·obtain rfl:k= xs.length:=by omega
  rw [vn,List.drop_length,List.append_nil]
 ·subst h1
  by_cases h:xs.length= 1
  ·rw [vn,← h,List.drop_length,List.append_nil]
  ·have:xs= []:=List.length_eq_zero_iff.1 (by omega)
   subst this;rfl
end
end Go.G9
namespace Go.Proofs.YtlaaemmmbodaaaaGreatDoor
open Go.RowKit Go.G9
theorem Hr {B n c:Nat} {e:TypeId} {w:World} {g:Nat} {D:List Int} (bR:aX B e 1 bU w (.slice g n c) D) {j:Nat} {z:Int} (cb:D[j]? =some z):w.cell? ⟨g,j,none⟩ =some (.int .i64 z)∧w.frozen? ⟨g,j,none⟩ =false:=by
 have bI:j < D.length:=(List.getElem?_eq_some_iff.1 cb).1
 have aT:(D.flatMap bU).length= D.length:=by rw [mc fZ,Nat.mul_one]
 obtain⟨h1,h2⟩:=Yp (j:=j) bR rfl (by rw [aT];exact bI)
 refine⟨h1.trans ?_,h2⟩
 have h3:=Cj fZ D j z cb 0 (.int .i64 z) rfl
 rw [Nat.mul_one,Nat.add_zero,List.getElem?_eq_getElem (by rw [aT];exact bI)] at h3
 exact h3
theorem Yo {B n c:Nat} {e:TypeId} {w:World} {g:Nat} {D:List Int} (bR:aX B e 1 bU w (.slice g n c) D) {j:Nat} (bI:j < D.length) (y:Int):aX B e 1 bU (w.setCell ⟨g,j,none⟩ (.int .i64 y)) (.slice g n c) (D.set j y):=by
 have h:=aX.aqA (u:= .int .i64 y) (i:=j) (j:=0) (x:=D[j]) (y:=y) bR rfl fZ (List.getElem?_eq_getElem bI) (by simp [bU]) (by decide)
 simpa using h
theorem alN (c:Int→Int→Int) (xs:List Int) (bd:xs.length≤20) (B g cap:Nat) (eb:Nat) (w:World) (nU:B≤g) (nV:B≤w.heap.size)
  (bR:aX B 3 1 bU w (.slice g xs cap) xs) (hf:∀x z,x ∈ xs→z ∈ xs→∀W,w.grownBy W (some g)→Calls Tryz.prog 251 #[.int .i64 x,.int .i64 z,.pointer (some ⟨eb,0,none⟩)] W fun e ah=>e= .returned (.int .i64 (c x z))∧Below W W ah):
 Calls Tryz.prog 326 #[.slice g xs cap,(0:Int),xs.length,.func (.func 251) #[] #[.pointer (some ⟨eb,0,none⟩)]] w fun e ah=>
  e= .returned (.tuple #[])∧aX B 3 1 bU ah (.slice g xs cap) (ik c xs xs.length)∧w.grownBy ah (some g):=by
 have cD:=J hf;clear hf
 go_in
 go_wp2
 go_loopw [8,9] (fun i _ wr=>∃k:Nat,1≤k∧(k≤xs.length∨k= 1)∧i= .int .i64 k∧aX B 3 1 bU wr (.slice g xs cap) (vn c xs k)∧w.grownBy wr (some g)) (fun i _ _=>xs.length - (intOf i).toNat)
 case atStart=>exact⟨1,Nat.le_refl _,.inr rfl,rfl,by rw [apf];exact bR,qe _ _⟩
 case round=>
  clear bR
  obtain⟨k,uN,ax,rfl,gW,fY⟩:=hrel
  by_cases bn:k < xs.length
  ·obtain⟨x,ay⟩ :∃x,xs[k]? =some x:=⟨_,List.getElem?_eq_getElem bn⟩
   rw [Zd ay] at gW
   have cg:=J ay;clear ay;have lr:=J gW;clear gW
   go_wp2
   go_loopw [9] (fun j ws=>∃q:Nat,q≤k∧j= .int .i64 q∧pT (fun z=>decide (c x z < 0)) (ik c xs k) k= pT (fun z=>decide (c x z < 0)) (ik c xs k) q∧aX B 3 1 bU ws (.slice g xs cap) (pR c xs k x q)∧w.grownBy ws (some g)) (fun j _=>(intOf j).toNat)
   case atStart=>exact⟨k,Nat.le_refl _,rfl,rfl,lr.out,fY⟩
   case round=>
    clear lr
    obtain⟨q,bf,rfl,JF,oY,gY⟩:=hrel
    have hs:=J oY;have dW:=J JF;clear oY JF
    by_cases iz:q= 0
    ·subst iz
     go_wp2
     refine eC (by kernel_rfl) (by kernel_rfl) ?_
     repeat (go_big_quiet_step ((fail)))
     refine wpQuiet_nil ?_
     intro K
     go_wp2
     go_roundw
     case rel=>exact⟨k + 1,by omega,.inl (by omega),by go_num,by rw [← Qm cg.out dW.out];exact hs.out.bh K.U,pC gY (lz K.U _)⟩
     case measure=>simp [intOf];omega
    ·obtain⟨fA,rfl⟩ :∃fA,q= fA + 1:=⟨q - 1,by omega⟩
     have tq:=wF (c:=c) (xs:=xs) k (by omega)
     obtain⟨z,cb⟩ :∃z,(ik c xs k)[fA]? =some z:=⟨_,List.getElem?_eq_getElem (by omega)⟩
     have xM:z ∈ xs:=KO k z (List.mem_of_getElem? cb)
     obtain⟨v,az⟩ :∃v,c x z= v:=⟨_,rfl⟩
     have jx:Hid (∀W,Below wr wr W→Calls Tryz.prog 251 #[.int .i64 x,.int .i64 z,.pointer (some ⟨eb,0,none⟩)] W fun e ah=>e= .returned (.int .i64 v)∧Below W W ah):=J fun W bK=>by
      rw [← az]
      exact cD.out x z (List.mem_of_getElem? cg.out) xM W (pC gY (lz bK _))
     have Jr:decide (c x z < 0)= decide (v < 0):=by rw [az]
     have RS:=J Jr;have bj:=J cb;have oR:=J (aph (c:=c) (xs:=xs) (x:=x) bn bf);have Sb:=J (api (x:=x) bn (show fA < k by omega) cb);clear Jr cb az xM tq
     have au:=fun K:aB wr.heap.size wr=>(Hr (hs.out.bh K.U) oR.out).1
     have c2:=fun K:aB wr.heap.size wr=>(Hr (hs.out.bh K.U) Sb.out).1
     by_cases OA:v < 0
     ·go_wp2
      refine eC (by kernel_rfl) (by kernel_rfl) ?_
      repeat (go_big_quiet_step ((go_at_call 251;exact aB.call _ (by first | exact Nat.le_refl _ | omega) (jx.out _ (aB.U _)))))
      refine wpQuiet_nil ?_
      intro K
      have nu:=hs.out.bh K.U;have sy:=pC gY (lz K.U _);clear au c2
      generalize K.world= IL at *
      obtain⟨au,f1⟩:=Hr nu oR.out
      obtain⟨c2,f2⟩:=Hr nu Sb.out
      have jV:=J nu;clear nu
      go_wp2
      go_region
      have eX:aX B 3 1 bU (World.drew (World.setCell (World.setCell IL ⟨g,fA + 1,none⟩ (.int .i64 z)) ⟨g,fA,none⟩ (.int .i64 x))) (.slice g xs cap) (pR c xs k x fA):=by
       have h:=Yo (Yo jV.out (j:=fA + 1) (by rw [Ze bn bf];omega) z) (j:=fA) (by rw [List.length_set,Ze bn bf];omega) x
       rw [apk bn (by omega) bj.out] at h
       exact h.bh (Below.refl _ _).drew
      have fs:=pC (kO (j:=fA) (kO (j:=fA + 1) sy (.int .i64 z)) (.int .i64 x)) (lz (Below.refl _ (World.setCell (World.setCell IL ⟨g,fA + 1,none⟩ (.int .i64 z)) ⟨g,fA,none⟩ (.int .i64 x))).drew (some g));clear au c2 f1 f2 jV
      generalize (World.drew (World.setCell (World.setCell IL ⟨g,fA + 1,none⟩ (.int .i64 z)) ⟨g,fA,none⟩ (.int .i64 x)))= nj at *
      go_wp2
      go_roundw
      case rel=>exact⟨fA,by omega,by go_num,dW.out.trans (Zy bj.out (by rw [RS.out];exact decide_eq_true OA)),eX,fs⟩
      case measure=>simp [intOf]
     ·go_wp2
      refine eC (by kernel_rfl) (by kernel_rfl) ?_
      repeat (go_big_quiet_step ((go_at_call 251;exact aB.call _ (by first | exact Nat.le_refl _ | omega) (jx.out _ (aB.U _)))))
      refine wpQuiet_nil ?_
      intro K
      have nu:=hs.out.bh K.U;have sy:=pC gY (lz K.U _);clear au c2
      generalize K.world= IL at *
      go_wp2
      go_roundw
      case rel=>exact⟨k + 1,by omega,.inl (by omega),by go_num,by rw [← Qm cg.out (dW.out.trans (Zw bj.out (by rw [RS.out];exact decide_eq_false (by omega))))];exact nu,sy⟩
      case measure=>simp [intOf];omega
  ·go_wp2
   refine⟨rfl,Value.tuple #[],by simp [results,Tryz.results326,go_sem],rfl,?_,fY⟩
   rw [← ape ax bn];exact gW
theorem aqR (c:Int→Int→Int) (xs:List Int) (bd:xs.length≤20) (Wd:xs.length < 20) (B g cap:Nat) (eb:Nat) (w:World) (nU:B≤g) (nV:B≤w.heap.size)
  (bR:aX B 3 1 bU w (.slice g xs cap) xs) (hf:∀x z,x ∈ xs→z ∈ xs→∀W,w.grownBy W (some g)→Calls Tryz.prog 251 #[.int .i64 x,.int .i64 z,.pointer (some ⟨eb,0,none⟩)] W fun e ah=>e= .returned (.int .i64 (c x z))∧Below W W ah):
 Calls Tryz.prog 301 #[.slice g xs cap,xs.length,.func (.func 251) #[] #[.pointer (some ⟨eb,0,none⟩)]] w fun e ah=>
  e= .returned (.tuple #[])∧aX B 3 1 bU ah (.slice g xs cap) (ik c xs xs.length)∧w.grownBy ah (some g):=by
 have hP:=J (alN c xs bd B g cap eb w nU nV bR hf);clear bR hf
 go_in
 go_wp2
 go_loopw [7,8] (fun a b wr=>a= .int .i64 0∧b= .int .i64 20∧wr= w) (fun _ _ _=>0)
 case atStart=>exact⟨rfl,rfl,rfl⟩
 case round=>
  obtain⟨rfl,rfl,rfl⟩:=hrel
  go_wp2_with fail
  refine hP.out.mono ?_
  rintro e bg ⟨rfl,gW,fY⟩
  go_wp2
  go_loopw [6,7,8] (fun a _ _ wr=>a= .int .i64 20∧wr= bg) (fun _ _ _ _=>0)
  case atStart=>exact⟨rfl,rfl⟩
  case round=>
   obtain⟨rfl,rfl⟩:=hrel
   go_wp2
   exact⟨rfl,Value.tuple #[],by simp [results,Tryz.results301,go_sem],rfl,gW,fY⟩
theorem aqF (c:Int→Int→Int) (xs:List Int) (Wd:xs.length < 20) (B g cap:Nat) (eb:Nat) (w:World) (nU:B≤g) (nV:B≤w.heap.size)
  (bR:aX B 3 1 bU w (.slice g xs cap) xs) (hf:∀x z,x ∈ xs→z ∈ xs→∀W,w.grownBy W (some g)→Calls Tryz.prog 251 #[.int .i64 x,.int .i64 z,.pointer (some ⟨eb,0,none⟩)] W fun e ah=>e= .returned (.int .i64 (c x z))∧Below W W ah):
 Calls Tryz.prog 250 #[.slice g xs cap,.func (.func 251) #[] #[.pointer (some ⟨eb,0,none⟩)]] w fun e ah=>
  e= .returned (.tuple #[])∧aX B 3 1 bU ah (.slice g xs cap) (ik c xs xs.length)∧w.grownBy ah (some g):=by
 have hP:=J (aqR c xs (by omega) Wd B g cap eb w nU nV bR hf);clear bR hf
 go_in
 go_wp2_with fail
 refine hP.out.mono ?_
 rintro e bg ⟨rfl,gW,fY⟩
 go_wp2
 exact⟨rfl,Value.tuple #[],by simp [results,Tryz.results250,go_sem],rfl,gW,fY⟩
open Go.RowKit Go.G9
def zp (q:Int):List Value:=[.int .i64 (q)]
theorem anL (q:Int):(zp q).length= 1:=rfl
theorem DN {p:Prop} (h:p:=by
 have dp:=J fz;clear bR fz
 go_in
 go_wp2
 go_loopw [1,5] (fun qV i wr=>qV= .int .i64 m∧i= .int .i64 0∧wr= w) (fun _ _ _=>0)
 case atStart=>exact⟨rfl,rfl,rfl⟩
 case round=>
  obtain⟨rfl,rfl,rfl⟩:=hrel
  go_wp2
  go_ret
  exact⟨by simp,by simpa using dp.out,qe _ _⟩):p:=h
theorem adE {p:Prop} (h:p:=by
 obtain rfl:k= xs.length:=by omega
 go_wp2
 go_ret
 refine⟨wy (by have:=dc.out;omega),?_,hx.out⟩
 have h:=aX.De (B:=B) (xs:=gF m 1 xs.length) gA bp (by rw [wk];exact mG) jQ eV.out (fun i x ay=>cD.out i x (by have:=(List.getElem?_eq_some_iff.1 ay).1;rwa [wk] at this) ay)
 rw [wk] at h
 exact h):p:=h
theorem amZ (B:Nat) (A:Option Addr) (c:Nat) (xs:List Int) (bd:xs.length≤1048576) (m:Int) (h0:0 < m) (h1:m≤100000000) (w:World) (bR:aX B 3 1 bU w (.slice A xs c) xs):
 Calls Tryz.prog 226 #[.slice A xs c,m] w fun e ah=>e= .returned (.int .i64 (m + xs.length))∧aX B 3 1 zp ah (.slice A xs c) (gF m 1 xs.length)∧w.grownBy ah (Value.slice A xs c).ownBlock:=by
 by_cases cb:xs.length= 0
 ·have kW:xs= []:=List.length_eq_zero_iff.1 cb
  subst kW
  clear cb;have fz:aX B 3 1 zp w (.slice A 0 c) (gF m 1 0):=bR.empty
  exact DN
 obtain⟨g,cap,uq,uZ,bp,hl,mG,jQ,hM⟩:=bR.block (by omega)
 injection uZ with va _ vb
 subst va vb
 have tR:=J hM;have pw:=J hl;clear hM hl bR cb
 go_in
 go_wp2
 go_loopw [1,5] (fun qV i wr=>∃(k:Nat) (q:Int) (cs:Array Value),k≤xs.length∧i= .int .i64 k∧qV= .int .i64 q∧q= m + 1 * k∧aC wr g 3 cs∧cs.size= c * 1∧ku 1 zp (gF m 1 xs.length) k cs∧w.grownBy wr (some g)) (fun _ i _=>xs.length - (intOf i).toNat)
 case atStart=>exact⟨0,m,uq,Nat.zero_le _,rfl,rfl,by simp,pw.out,tR.out,ku.zero,qe _ _⟩
 case round=>
  obtain⟨k,q,cs,ax,rfl,rfl,bf,gA,eW,aj,ck⟩:=hrel
  have av:0 < q:=by omega
  have ao:q≤200000000:=by omega
  have dc:=J bf;have eV:=J eW;have cD:=J aj;have hx:=J ck;clear bf eW aj ck
  by_cases bn:k < xs.length
  ·have dU:=gA.lt
   have ay:(gF m 1 xs.length)[k]? =some q:=by rw [AV bn,dc.out]
   have cg:=J ay;clear ay
   obtain⟨v0,c0⟩:=gA.some_ (k) (by have dM:=eV.out;omega)
   have z0:=gA.frozen (k)
   go_wp2
   go_roundw
   case rel=>
    have ji:Go.G9.gq cs (k) [.int .i64 (q)]= Go.G9.gq cs (k) (zp q):=by first | exact Go.G9.Dw cs _ _ _ | rfl
    refine⟨k + 1,_,Go.G9.gq cs (k) [.int .i64 (q)],by omega,by go_num,rfl,by have:=dc.out;omega,?_,?_,?_,(kO hx.out _)⟩
    ·exact aC.gq (k) [.int .i64 (q)] gA
    ·rw [ji,oO,eV.out]
    ·rw [ji];have h:=cD.out.put cg.out (by rw [eV.out,anL];omega);rw [Nat.mul_one k] at h;exact h
   case measure=>simp [intOf];omega
  ·exact adE
end Go.Proofs.YtlaaemmmbodaaaaGreatDoor
namespace Go.G9
open Go.RowKit
def vO (vs:List Value) (a b:Nat):Prop:=∀v ∈ vs,∀k,v.ownBlock= some k→a≤k∧k < b
structure oQ (w ah:World) (vs:List Value):Prop where
 os:ah.os= w.os
 tape:ah.tape= w.tape
 output:ah.output= w.output
 size:w.heap.size≤ah.heap.size
 block:∀i,i < w.heap.size→(∀v ∈ vs,v.ownBlock≠some i)→ah.heap[i]? =w.heap[i]?
theorem Cl {w ah:World} {v:Value} (h:w.grownBy ah v.ownBlock):oQ w ah [v]:=
 ⟨h.os,h.tape,h.output,h.size,fun i hi az=>h.block i hi (fun e=>az v (List.mem_singleton.2 rfl) e.symm)⟩
theorem oQ.trans {w bg aQ:World} {vs us:List Value} (h:oQ w bg vs) (k:oQ bg aQ us):oQ w aQ (vs ++ us):=
 ⟨k.os.trans h.os,k.tape.trans h.tape,k.output.trans h.output,Nat.le_trans h.size k.size,fun i hi az=>(k.block i (Nat.lt_of_lt_of_le hi h.size) (fun v hm=>az v (List.mem_append_right _ hm))).trans (h.block i hi (fun v hm=>az v (List.mem_append_left _ hm)))⟩
theorem oQ.PJ {w ah:World} {vs:List Value} (h:Below w w ah):oQ w ah vs:=⟨h.os,h.tape,h.output,h.size,fun i hi _=>h.block i hi⟩
theorem oQ.U {w ah:World} {us:List Value} {B c d:Nat} (h:oQ w ah us) (hu:vO us c d) (aG:B≤c) (bp:B≤w.heap.size):Below B w ah:=
 ⟨h.os,h.tape,h.output,h.size,fun i hi=>h.block i (Nat.lt_of_lt_of_le hi bp) (fun v az e=>by have:=(hu v az i e).1;omega)⟩
theorem aX.zi {T:Type} {B:Nat} {e:TypeId} {sz:Nat} {f:T→List Value} {w ah:World} {v:Value} {xs:List T} {us vs:List Value} {a b c d:Nat} (h:aX B e sz f w v xs) (ck:oQ w ah us) (az:vO vs a b) (hu:vO us c d) (hm:v ∈ vs) (bn:b≤c∨d≤a):
  aX B e sz f ah v xs:=by
 have aT:=h.lt
 refine⟨h.1,?_⟩
 rcases h.2 with bd | ⟨g,cap,cur,rfl,bp,dM,r⟩
 ·exact .inl bd
 ·have fY:=az _ hm g rfl
  exact .inr ⟨g,cap,cur,rfl,bp,by rw [ck.block g (aT g rfl).2 (fun u Pb e=>by have:=hu u Pb g e;omega)];exact dM,r⟩
theorem aX.pJ {T:Type} {B:Nat} {e:TypeId} {sz:Nat} {f:T→List Value} {w ah:World} {v:Value} {xs:List T} {us:List Value} (h:aX B e sz f w v xs) (ck:oQ w ah us) (eg:∀k,v.ownBlock= some k→∀u ∈ us,u.ownBlock≠some k):aX B e sz f ah v xs:=by
 have aT:=h.lt
 refine⟨h.1,?_⟩
 rcases h.2 with bd | ⟨g,cap,cur,rfl,bp,dM,r⟩
 ·exact .inl bd
 ·exact .inr ⟨g,cap,cur,rfl,bp,by rw [ck.block g (aT g rfl).2 (eg g rfl)];exact dM,r⟩
theorem aC.zi {w ah:World} {g:Nat} {t:TypeId} {cs:Array Value} {us:List Value} {c d:Nat} (h:aC w g t cs) (ck:oQ w ah us) (hu:vO us c d) (bn:g < c∨d≤g):aC ah g t cs:=
 (ck.block g h.lt (fun u Pb e=>by have:=hu u Pb g e;omega)).trans h
def rY (vs:List Value):Prop:=vs.Pairwise fun u v=>∀k,u.ownBlock= some k→some k≠v.ownBlock
theorem rY.at {vs:List Value} (h:rY vs) {i j:Nat} (yW:i < j) {u v:Value} (hu:vs[i]? =some u) (az:vs[j]? =some v):∀k,u.ownBlock= some k→some k≠v.ownBlock:=by
 obtain⟨hi,rfl⟩:=List.getElem?_eq_some_iff.1 hu
 obtain⟨bI,rfl⟩:=List.getElem?_eq_some_iff.1 az
 exact (List.pairwise_iff_getElem.1 h) i j hi bI yW
theorem afK {u v:Value} (h:∀k,u.ownBlock= some k→some k≠v.ownBlock):rY [u,v]:=
 .cons (fun x ay=>by simp only [List.mem_singleton] at ay;subst ay;exact h) (.cons (fun _ h=>by cases h) .nil)
open Go.RowKit
theorem kJ {P:Program} {w:World} {ops:Array Oper} {rest:List Oper} {o:Oper} {a:Act} {Q:Exit→Act→World→Prop} (nw:o.guard= none) (s x:Operand) (t:TypeId)
  (dd:o.op= .call {callee:= .builtin .append,args:=#[s,x],argTypes:=#[t,t]})
  (B:Nat) (e:TypeId) (i:TypeInfo) (z:Value) (sz bytes:Nat) (cA:P.underlying t= some (.slice e)) (hi:P.info? e= some i) (cb:i.zero= some z)
  (uU:i.size= sz) (uD:i.bytes= bytes) (vf:z.cells.size= sz) (eW:0 < sz) {T:Type} (f:T→List Value) (hf:∀y,(f y).length= sz) (kl:∀y u,u ∈ f y→u.oneCell'= true)
  (v:Value) (xs:List T) (aZ:a.eval s= v) (Gz:aX B e sz f w v xs) (iZ:Addr) (c2:Nat) (y:T) (ay:a.eval x= .slice (some iZ) 1 c2) (bN:aJ sz f w (some iZ) [y])
  (h63:xs.length + 1≤maxLen) (uE:(xs.length + 1) * bytes≤140737488355328) (Gd:B≤w.heap.size)
  (h:∀lT ah,aX B e sz f ah lT (xs ++ [y])→w.grownBy ah v.ownBlock→(lT.ownBlock= v.ownBlock∨lT.ownBlock= some w.heap.size)→wpList P ops Q rest (a.put o.dst lT) ah):wpList P ops Q (o ::rest) a w:=by
 refine wpList_append_own_at w nw s x t dd B e i z sz bytes cA hi cb uU uD vf eW v xs.length (xs.flatMap f) aZ Gz iZ 1 c2 ([y].flatMap f) ay (by rw [mc hf];simp) (fun j u hu=>aJ.flat bN hf j u hu)
  (fun u hu=>by obtain⟨mQ,_,hy⟩:=List.mem_flatMap.1 hu;exact kl mQ u hy) h63 uE Gd (fun lT ah h1 h2 _ h4=>h lT ah ?_ h2 h4)
 unfold aX;rw [List.length_append,List.flatMap_append];exact h1
theorem aX.built {T:Type} {B sz:Nat} {f:T→List Value} (w:World) (xs:List T) (e:TypeId) (bp:B≤w.heap.size) (hm:xs.length≤maxLen) (hf:∀y,(f y).length= sz):
  aX B e sz f (w.alloc (.cells (xs.flatMap f).toArray e)) (.slice w.heap.size xs xs) xs:=
 aX.De (aC.new w e _) bp (Nat.le_refl _) hm (by simp [mc hf]) (fun i x ay j u hu=>by simpa using Cj hf xs i x ay j u hu) hf
def oB (u v:Value):Prop:=∀k,u.ownBlock= some k→v.ownBlock≠some k
theorem oB.symm {u v:Value} (h:oB u v):oB v u:=fun k h1 h2=>h k h2 h1
theorem oB.step {u mO v:Value} {H:Nat} (h:oB u v) (az:∀k,v.ownBlock= some k→k < H) (cX:mO.ownBlock= u.ownBlock∨mO.ownBlock= some H):oB mO v:=fun k h1 h2=>by
 rcases cX with cX | cX
 ·exact h k (cX ▸ h1) h2
 ·rw [cX] at h1;have:=az k h2;injection h1 with h1;omega
theorem aX.ne {T:Type} {B sz:Nat} {e:TypeId} {f:T→List Value} {w ah:World} {u v:Value} {xs:List T} (h:aX B e sz f w v xs) (ck:w.grownBy ah u.ownBlock) (bd:oB u v):aX B e sz f ah v xs:=
 h.kept ck (fun k h1 h2=>bd k h2.symm h1)
end Go.G9
namespace Go.Proofs.YtlaaemmmbodaaaaGreatDoor
open Go.RowKit Go.G9
def Dk (q:Int):List Value:=[.string (vj (q).toNat)]
theorem anQ (q:Int):(Dk q).length= 1:=rfl
theorem ang (B:Nat) (A:Option Addr) (c:Nat) (xs:List Str) (bd:xs.length≤1048576) (m:Int) (h0:0 < m) (h1:m≤100000000) (w:World) (bR:aX B 9 1 Str.cells w (.slice A xs c) xs):
 Calls Tryz.prog 40 #[.slice A xs c,m] w fun e ah=>e= .returned (.int .i64 (m + xs.length))∧aX B 9 1 Dk ah (.slice A xs c) (gF m 1 xs.length)∧w.grownBy ah (Value.slice A xs c).ownBlock:=by
 by_cases cb:xs.length= 0
 ·have kW:xs= []:=List.length_eq_zero_iff.1 cb
  subst kW
  clear cb;have fz:aX B 9 1 Dk w (.slice A 0 c) (gF m 1 0):=bR.empty
  exact DN
 obtain⟨g,cap,uq,uZ,bp,hl,mG,jQ,hM⟩:=bR.block (by omega)
 injection uZ with va _ vb
 subst va vb
 have tR:=J hM;have pw:=J hl;clear hM hl bR cb
 go_in
 go_wp2
 go_loopw [1,5] (fun qV i wr=>∃(k:Nat) (q:Int) (cs:Array Value),k≤xs.length∧i= .int .i64 k∧qV= .int .i64 q∧q= m + 1 * k∧aC wr g 9 cs∧cs.size= c * 1∧ku 1 Dk (gF m 1 xs.length) k cs∧w.grownBy wr (some g)) (fun _ i _=>xs.length - (intOf i).toNat)
 case atStart=>exact⟨0,m,uq,Nat.zero_le _,rfl,rfl,by simp,pw.out,tR.out,ku.zero,qe _ _⟩
 case round=>
  obtain⟨k,q,cs,ax,rfl,rfl,bf,gA,eW,aj,ck⟩:=hrel
  have av:0 < q:=by omega
  have ao:q≤200000000:=by omega
  have dc:=J bf;have eV:=J eW;have cD:=J aj;have hx:=J ck;clear bf eW aj ck
  by_cases bn:k < xs.length
  ·have dU:=gA.lt
   have ay:(gF m 1 xs.length)[k]? =some q:=by rw [AV bn,dc.out]
   have cg:=J ay;clear ay
   go_wp2_with fail
   refine (Px (q) (by omega) (by omega) _).mono ?_
   rintro e bg ⟨rfl,bE⟩
   have oE:aC bg g 9 cs:=gA.U bE (by simpa using dU);have NS:g < bg.heap.size:=oE.lt;replace dU:=NS
   obtain⟨v0,c0⟩:=oE.some_ (k) (by have dM:=eV.out;(try simp only [oO]);omega)
   have z0:=oE.frozen (k)
   go_wp2
   go_roundw
   case rel=>
    have ji:Go.G9.gq cs (k) [.string (vj (q).toNat)]= Go.G9.gq cs (k) (Dk q):=by first | exact Go.G9.Dw cs _ _ _ | rfl
    refine⟨k + 1,_,Go.G9.gq cs (k) [.string (vj (q).toNat)],by omega,by go_num,rfl,by have:=dc.out;omega,?_,?_,?_,(kO (pC hx.out (lz bE _)) _)⟩
    ·exact aC.gq (k) [.string (vj (q).toNat)] oE
    ·rw [ji,oO,eV.out]
    ·rw [ji];have h:=cD.out.put cg.out (by rw [eV.out,anQ];omega);rw [Nat.mul_one k] at h;exact h
   case measure=>simp [intOf];omega
  ·exact adE
theorem Vv (A:Option Addr) (c n:Nat) (bd:n≤1048576) (m:Int) (h0:0 < m) (h1:m≤100000000) (w:World) (bN:aJ 1 Dk w A (gF m 1 n)):
 Calls Tryz.prog 41 #[.slice A n c,m] w fun e ah=>e= .returned (.int .i64 (m + n))∧Below w w ah:=by
 go_in
 go_wp2
 go_loopw [1,5] (fun qV i wr=>∃(k:Nat) (q:Int),k≤n∧i= .int .i64 k∧qV= .int .i64 q∧q= m + 1 * k∧Below w w wr) (fun _ i _=>n - (intOf i).toNat)
 case atStart=>exact⟨0,m,Nat.zero_le _,rfl,rfl,by simp,Below.refl _ _⟩
 case round=>
  obtain⟨k,q,ax,rfl,rfl,bf,aE⟩:=hrel
  have av:0 < q:=by omega
  have ao:q≤200000000:=by omega
  have dc:=J bf;clear bf
  by_cases bn:k < n
  ·obtain⟨b,off,x,rfl,dU,ay,bq⟩:=bN.at_ aE (k:=k) (by rw [wk];exact bn)
   have aki:x= q:=by rw [AV bn] at ay;rw [dc.out];exact (Option.some.inj ay).symm
   subst aki
   have f0:=bq 0 _ rfl
   simp only [Nat.add_zero,Nat.mul_one] at f0
   clear ay bq;have g0:=f0 (aB.self _)
   simp only [aB.self] at g0
   go_wp2
   refine eC (by kernel_rfl) (by kernel_rfl) ?_
   repeat (go_big_quiet_step (((go_at_call 85;exact aB.call _ (by first | exact Nat.le_refl _ | omega) (Px (x) (by omega) (by omega) _)))))
   refine wpQuiet_nil ?_
   intro hH
   clear g0;replace aE:=ai aE hH.U
   replace f0:=fun K=>f0 (aB.drop K hH.U)
   have g0:=f0 (aB.self _)
   simp only [aB.self,aB.drop] at f0 g0
   go_wp2
   go_roundw
   case rel=>exact⟨k + 1,_,by omega,by go_num,rfl,by have:=dc.out;omega,aE⟩
   case measure=>simp [intOf];omega
  ·obtain rfl:k= n:=by omega
   go_wp2
   go_ret
   exact⟨wy (by have:=dc.out;omega),aE⟩
end Go.Proofs.YtlaaemmmbodaaaaGreatDoor
namespace Go.G9
open Go.RowKit
theorem aC.setRow {w:World} {g:Nat} {t:TypeId} {cs uo:Array Value} (h:aC w g t cs):aC (w.setRow g uo) g t uo:=setRow_heap w g cs uo t (0,0) h
theorem FC {w:World} {g:Nat} {uo:Array Value}:w.grownBy (w.setRow g uo) (some g):=
 ⟨rfl,rfl,rfl,by simp,fun i _ eg=>by
  unfold World.setRow
  simp only [Array.getElem?_modify]
  rw [if_neg (fun e=>eg (by rw [e]))]⟩
theorem arZ {P:Program} {w:World} {ops:Array Oper} {rest:List Oper} {o:Oper} {a:Act} {Q:Exit→Act→World→Prop} (nw:o.guard= none) (s x:Operand) (t:TypeId)
  (dd:o.op= .call {callee:= .builtin .append,args:=#[s,x],argTypes:=#[t,t]})
  (e:TypeId) (i:TypeInfo) (cA:P.underlying t= some (.slice e)) (hi:P.info? e= some i) (g n cap:Nat) (cur:Array Value) (aZ:a.eval s= .slice g n cap) (ck:aC w g e cur)
  (iZ:Addr) (m c:Nat) (news:List Value) (ay:a.eval x= .slice (some iZ) m c) (aT:news.length= m * i.size) (ajw:∀j u,news[j]? =some u→w.cell? (iZ.add j)= some u) (h1:∀u ∈ news,u.oneCell'= true)
  (OP:n + m≤cap) (xx:n * i.size + news.length≤cur.size)
  (h:∀(eF:World) (uo:List Value),uo= cur.toList.take (n * i.size) ++ news ++ cur.toList.drop (n * i.size + news.length)→aC eF g e uo.toArray→w.grownBy eF (some g)→wpList P ops Q rest (a.put o.dst (.slice g (n + m) cap)) eF):wpList P ops Q (o ::rest) a w:=by
 refine wpList_plain nw fun _ gg=>?_
 have bz:=run_append_room (P:=P) w t o.type e i cA hi g n cap cur ck iZ m c news aT ajw h1 OP xx
 unfold Oper.wp execOp
 simp only [dd,resolve,invoke,builtin,Sem.run_bind,Sem.run_pure,Result.andThen_ok,List.map_toArray,List.map_cons,List.map_nil,aZ,ay,bz]
 exact gg _ _ (h _ _ rfl ck.setRow FC)
theorem aX.whole {T:Type} {B sz:Nat} {f:T→List Value} {e:TypeId} {w:World} {v:Value} {xs:List T} (bR:aX B e sz f w v xs) (hf:∀y,(f y).length= sz) (bd:0 < xs.length):
  ∃g cap cs,v= .slice (some ⟨g,0,none⟩) xs.length cap∧B≤g∧aC w g e cs∧xs.length≤cap∧cap≤maxLen∧cs.size= cap * sz∧∀i x,xs[i]? =some x→∀j u,(f x)[j]? =some u→cs[i * sz + j]? =some u:=by
 rcases bR.2 with ⟨_,h0⟩ | ⟨g,cap,cur,az,bp,dM,mG,jQ,hM,wi⟩
 ·omega
 ·refine⟨g,cap,cur,az,bp,dM,mG,jQ,hM,fun i x ay j u hu=>?_⟩
  have h1:=Cj hf xs i x ay j u hu
  rw [← wi,List.getElem?_take] at h1
  split at h1
  ·simpa using h1
  ·cases h1
theorem Ui {T:Type} {sz:Nat} {f:T→List Value} (hf:∀y,(f y).length= sz) (xs:List T) (k j:Nat) (u:Value) (h:((xs.drop k).flatMap f)[j]? =some u):(xs.flatMap f)[k * sz + j]? =some u:=by
 obtain⟨i,rJ,x,ay,bI,rfl⟩:=Jg hf _ _ _ h
 rw [List.getElem?_drop] at ay
 have:=Cj hf xs (k + i) x ay rJ u bI
 rwa [Nat.add_mul,Nat.add_assoc] at this
open Go.RowKit
theorem aaE {P:Program} {w:World} {ops:Array Oper} {rest:List Oper} {o:Oper} {a:Act} {Q:Exit→Act→World→Prop} (nw:o.guard= none) (s x:Operand) (t:TypeId)
  (dd:o.op= .call {callee:= .builtin .append,args:=#[s,x],argTypes:=#[t,t]})
  (B:Nat) (e:TypeId) (i:TypeInfo) (z:Value) (sz bytes:Nat) (cA:P.underlying t= some (.slice e)) (hi:P.info? e= some i) (cb:i.zero= some z)
  (uU:i.size= sz) (uD:i.bytes= bytes) (vf:z.cells.size= sz) (eW:0 < sz) {T:Type} (f:T→List Value) (hf:∀y,(f y).length= sz) (asz:∀y u,u ∈ f y→u.oneCell'= true)
  (g:Nat) (aZ:a.eval s= .slice g 0 0) (ck:aC w g e #[]) (nU:B≤g) (iZ:Addr) (c2:Nat) (ys:List T) (ay:a.eval x= .slice (some iZ) ys c2) (bN:aJ sz f w (some iZ) ys)
  (h63:ys.length≤maxLen) (uE:ys.length * bytes≤140737488355328)
  (h:∀br cO ah,aX B e sz f ah (.slice (some ⟨br,0,none⟩) ys cO) ys→Below w w ah→(br= g∨w.heap.size≤br)→wpList P ops Q rest (a.put o.dst (.slice (some ⟨br,0,none⟩) ys cO)) ah):wpList P ops Q (o ::rest) a w:=by
 rcases Nat.eq_zero_or_pos ys.length with h0 | h0
 ·have hy:ys= []:=List.length_eq_zero_iff.1 h0
  subst hy
  refine arZ nw s x t dd e i cA hi g 0 0 #[] aZ ck iZ 0 c2 [] ay (by simp) (fun j u hu=>by simp at hu) (fun u hu=>by simp at hu) (by omega) (by simp) fun eF uo hM aE Gp=>?_
  have aiN:uo= []:=by rw [hM];simp
  subst aiN
  have eZ:aC eF g e #[]:=aE
  refine h g 0 eF ?_ ⟨Gp.os,Gp.tape,Gp.output,Gp.size,fun k ax=>?_⟩ (.inl rfl)
  ·exact aX.filled (xs:=[]) eZ nU (by simp) (by unfold maxLen;simp) (by simp) hf
  ·by_cases VR:k= g
   ·subst VR;exact Eq.trans eZ (Eq.symm ck)
   ·exact Gp.block k ax (fun e=>VR (Option.some.inj e))
 ·subst uU;subst uD
  have wa:=grownCap_ge w (0 + ys.length) 0 e;have jQ:=grownCap_le_maxLen w (0 + ys.length) 0 e (by omega);have ju:=h63
  unfold maxLen at ju
  have bz:=run_append_grow (P:=P) w t o.type e i z cA hi cb ⟨g,0,none⟩ 0 0 [] (by simp) (by intro j v bI;simp at bI) iZ ys.length c2 (ys.flatMap f) (mc hf ys) (fun j u hu=>aJ.flat bN hf j u hu)
   (by omega) (by omega) (by rw [Nat.zero_add,nextslicecap_zero h0];omega)
  refine wpList_plain nw fun _ gg=>?_
  unfold Oper.wp execOp
  simp only [dd,resolve,invoke,builtin,Sem.run_bind,Sem.run_pure,Result.andThen_ok,List.map_toArray,List.map_cons,List.map_nil,aZ,ay,bz]
  refine gg _ _ ?_
  rw [Nat.zero_add]
  rw [Nat.zero_add] at wa jQ
  refine h w.heap.size _ _ ?_ ⟨rfl,rfl,rfl,by simp,fun k ax=>(ca w.drew _).block k ax⟩ (.inr (Nat.le_refl _))
  refine⟨mc hf ys,.inr ⟨w.heap.size,_,_,rfl,Nat.le_trans nU (Nat.le_of_lt (Array.getElem?_eq_some_iff.1 ck).1),(aC.new w.drew _ _),wa,jQ,?_,?_⟩⟩
  ·simp only [Array.size_append,List.size_toArray,size_zeroCells,vf,mc hf,List.length_nil,Nat.zero_add,← Nat.add_mul]
   congr 1
   omega
  ·simp [mc hf]
end Go.G9
namespace Go.Proofs.YtlaaemmmbodaaaaGreatDoor
open Go.RowKit Go.G9
structure SI where
 XV:ByteArray
 hv:Int
 yes:Int
 no:Int
 bB:Int
 ok:XV.size≤maxLen
def SI.cells (r:SI):List Value:=[.string r.XV,.int .i64 r.hv,.int .i64 r.yes,.int .i64 r.no,.int .i64 r.bB]
def tG (y n a:Int):Bool:=fc y 0 1000 && (fc n 0 1000 && fc a 0 1000)
theorem abG {p:Prop} (h:p:=by
 subst az
 go_in
 go_wp2_with (go_at_call 79;refine (je _ _ _ _ rfl _).mono ?_;rintro e ah ⟨rfl,rfl⟩)
 go_ret
 exact⟨rfl,rfl⟩):p:=h
theorem afN (n:Int) (v:Bool) (az:fc n 0 1000= v) (w:World):Calls Tryz.prog 328 #[n] w fun e ah=>e= .returned v∧ah= w:=by
 exact abG
theorem amb (n:Int) (v:Bool) (az:fc n 0 1000= v) (w:World):Calls Tryz.prog 315 #[n] w fun e ah=>e= .returned v∧ah= w:=by
 subst az
 go_in
 go_wp2_with (go_at_call 186;refine (jv _ _ _ _ rfl _).mono ?_;rintro e ah ⟨rfl,rfl⟩)
 go_ret
 exact⟨rfl,rfl⟩
theorem alS (n:Int) (v:Bool) (az:fc n 1 3= v) (w:World):Calls Tryz.prog 282 #[n] w fun e ah=>e= .returned v∧ah= w:=by
 exact abG
theorem Pn (y n a:Int) (v:Bool) (az:tG y n a= v) (w:World):Calls Tryz.prog 304 #[.agg #[y,n,a]] w fun e ah=>e= .returned v∧Below w w ah:=by
 subst az
 go_in
 go_wp2_with (go_at_call 328;refine (afN _ _ rfl _).mono ?_;rintro e ah ⟨rfl,rfl⟩)
 all_goals go_ret
 all_goals exact⟨by simp [tG, *],ca _ _⟩
theorem Pp (y n a:Int) (v:Bool) (az:tG y n a= v) (w:World):Calls Tryz.prog 287 #[.agg #[y,n,a]] w fun e ah=>e= .returned v∧Below w w ah:=by
 subst az
 go_in
 go_wp2_with (go_at_call 315;refine (amb _ _ rfl _).mono ?_;rintro e ah ⟨rfl,rfl⟩)
 all_goals go_ret
 all_goals exact⟨by simp [tG, *],ca _ _⟩
open Go.RowKit Go.G9
structure RM where
 id:Int
 day:Int
 hv:Int
 yes:List Int
 no:List Int
 done:Bool
open Go.RowKit Go.G9
theorem aC.MP {w:World} {g:Nat} {t:TypeId} {cs:Array Value} (h:aC w g t cs) {p:Addr} (aR:g≠p.block) (u:Value):aC (w.setCell p u) g t cs:=(Below.heap_setCell w p u g aR).trans h
open Go.RowKit Go.G9
def pA (hv y n:Int):Bool:=if hv= 1 then decide (n < y) else if hv= 2 then decide (0 < y + n) && decide (2 * n≤y) else decide (0 < y) && decide (n= 0)
theorem acM {p:Prop} (h:p:=by
 subst az
 by_cases au:hv= 1
 ·subst au
  go_in
  go_wp2
  go_ret
  exact⟨ep (by simp [pA]),rfl⟩
 by_cases c2:hv= 2
 ·subst c2
  by_cases c3:0 < y + n
  ·go_in
   go_wp2
   go_ret
   exact⟨ep (by rw [Bool.eq_iff_iff];simp [pA] <;> omega),rfl⟩
  ·go_in
   go_wp2
   go_ret
   exact⟨ep (by rw [Bool.eq_iff_iff];simp [pA] <;> omega),rfl⟩
 ·have d1:(hv == 1)= false:=beq_eq_false_iff_ne.2 au
  have d2:(hv == 2)= false:=beq_eq_false_iff_ne.2 c2
  by_cases c3:0 < y
  ·go_in
   go_wp2
   go_ret
   exact⟨ep (by rw [Bool.eq_iff_iff];simp [pA,au,c2] <;> omega),rfl⟩
  ·go_in
   go_wp2
   go_ret
   exact⟨ep (by rw [Bool.eq_iff_iff];simp [pA,au,c2] <;> omega),rfl⟩):p:=h
theorem alR (hv y n:Int) (h0:-10000≤y) (h1:y≤10000) (h2:-10000≤n) (h3:n≤10000) (v:Bool) (az:pA hv y n= v) (w:World):Calls Tryz.prog 305 #[hv,y,n] w fun e ah=>e= .returned v∧ah= w:=by
 exact acM
theorem ama (hv y n:Int) (h0:-10000≤y) (h1:y≤10000) (h2:-10000≤n) (h3:n≤10000) (v:Bool) (az:pA hv y n= v) (w:World):Calls Tryz.prog 316 #[hv,y,n] w fun e ah=>e= .returned v∧ah= w:=by
 exact acM
def RM.hz (d:RM):Bool:=pA d.hv d.yes.length d.no.length
end Go.Proofs.YtlaaemmmbodaaaaGreatDoor
namespace Go.G9
open Go.RowKit Go.Sort Go.Proofs
theorem Nb {T:Type} (enc:T→Value) (xs:List T):xs.flatMap (fun x=>[enc x])= xs.map enc:=by induction xs <;> simp_all
theorem anG {T:Type} [Inhabited T] {enc:T→Value} {B:Nat} {e:TypeId} {w:World} {g cap q k:Nat} {eR ys:List T} {os:Array Obj} (h:aX B e 1 (fun x=>[enc x]) w (.slice g eR cap) eR) (hy:ys.length= eR.length) (ax:k≤eR.length):
  aX B e 1 (fun x=>[enc x]) (grow (putRow enc (Sort.ahead w q) g 0 ys.toArray) os) (.slice g k cap) (ys.take k)∧w.grownBy (grow (putRow enc (Sort.ahead w q) g 0 ys.toArray) os) (some g):=by
 have ck:w.grownBy (grow (putRow enc (Sort.ahead w q) g 0 ys.toArray) os) (some g):=by
  refine⟨rfl,rfl,rfl,by simp,fun k ax eg=>?_⟩
  rw [heap_grow_old _ _ (by simpa using ax)]
  have:g≠k:=fun e=>eg (by rw [e])
  simp [putRow,mapBlock,Sort.ahead,Array.getElem?_modify,this]
 have h1:w.ownsRow B e 1 (.slice g eR cap) eR.length (eR.map enc):=by rw [← Nb];exact h
 have h2:=Lib.ownsRow_putRow (q:=q) h1 hy ax
 refine⟨?_,ck⟩
 unfold aX
 rw [Nb,List.length_take,Nat.min_eq_left (by omega)]
 obtain⟨aT,aG⟩:=h2
 refine⟨aT,?_⟩
 rcases aG with ⟨e0,_⟩ | ⟨br,MB,cur,e0,bp,dM,r⟩
 ·cases e0
 ·refine .inr ⟨br,MB,cur,e0,bp,?_,r⟩
  rw [heap_grow_old _ _ (Array.getElem?_eq_some_iff.1 dM).1];exact dM
theorem anF {T:Type} [Inhabited T] {enc:T→Value} {B:Nat} {e:TypeId} {w:World} {g cap:Nat} {eR:List T} (h:aX B e 1 (fun x=>[enc x]) w (.slice g eR cap) eR):
  Holds enc w g 0 eR.toArray∧g < w.heap.size∧eR.length≤cap∧cap≤maxLen:=by
 have h1:w.ownsRow B e 1 (.slice g eR cap) eR.length (eR.map enc):=by rw [← Nb];exact h
 obtain⟨br,MB,e1,h2,h3,h4,h5,h6,h7⟩:=Lib.holds_of_ownsRow h1 (by intro e;cases e)
 injection e1 with e2 _ e4
 injection e2 with e2
 injection e2 with e2
 subst e2;subst e4
 exact⟨h7,h3,h4,h5⟩
end Go.G9
namespace Go.Proofs.YtlaaemmmbodaaaaGreatDoor
open Go.RowKit Go.G9 Go.Sort
open Go.RowKit Go.G9
structure aM where
 id:Int
 name:ByteArray
 gH:Int
 second:Bool
 lN:Bool
 mr:Bool
 hv:Int
 ok:name.size≤maxLen
def aM.cells (r:aM):List Value:=[.int .i64 r.id,.string r.name,.int .i64 r.gH,.bool r.second,.bool r.lN,.bool r.mr,.int .i64 r.hv]
structure aN where
 fU:Int
 mover:Int
 sec:Bool
def aN.cells (q:aN):List Value:=[.int .i64 q.fU,.int .i64 q.mover,.bool q.sec]
structure aK where
 mem:Int
 de:Int
 cU:Int
def aK.cells (s:aK):List Value:=[.int .i64 s.mem,.int .i64 s.de,.int .i64 s.cU]
structure Out where
 fU:Int
 mover:Int
 hz:Bool
def Out.cells (o:Out):List Value:=[.int .i64 o.fU,.int .i64 o.mover,.bool o.hz]
def rT (r:aM):Bool:=fc r.id 1 20 && (wJ r.name && (fc r.gH 0 9 && fc r.hv 1 3))
def rU (xs:List aM):Nat→Bool
 | 0=>match xs[0]? with | some x=>rT x | none=>true
 | j + 1=>match xs[j]?,xs[j+1]? with | some y,some x=>rT x && (decide (y.id < x.id) && !(xs.take (j + 1)).any (fun z=>z.name.toList == x.name.toList)) | _,_=>true
def kq (xs:List aM):Bool:=hI (rU xs) xs.length && decide (xs.length≤8)
theorem JR (r:aM) (v:Bool) (az:rT r= v) (w:World):Calls Tryz.prog 212 #[.agg #[r.id,r.name,r.gH,r.second,r.lN,r.mr,r.hv]] w fun e ah=>e= .returned v∧Below w w ah:=by
 subst az
 obtain⟨id,nm,rk,s,d,a,ee,aZ⟩:=r
 go_in
 go_wp2_with (first | (go_at_call 79;refine (je _ _ _ _ rfl _).mono ?_;rintro e ah ⟨rfl,rfl⟩) | (go_at_call 281;refine (alT _ aZ _ rfl _).mono ?_;rintro e ah ⟨rfl,rfl⟩) | (go_at_call 282;refine (alS _ _ rfl _).mono ?_;rintro e ah ⟨rfl,rfl⟩))
 all_goals go_ret
 all_goals exact⟨by simp [rT, *],ca _ _⟩
theorem JU (r:aM) (v:Bool) (az:rT r= v) (w:World):Calls Tryz.prog 215 #[.agg #[r.id,r.name,r.gH,r.second,r.lN,r.mr,r.hv]] w fun e ah=>e= .returned v∧Below w w ah:=by
 subst az
 obtain⟨id,nm,rk,s,d,a,ee,aZ⟩:=r
 go_in
 go_wp2_with (first | (go_at_call 186;refine (jv _ _ _ _ rfl _).mono ?_;rintro e ah ⟨rfl,rfl⟩) | (go_at_call 283;refine (amr _ aZ _ rfl _).mono ?_;rintro e ah ⟨rfl,rfl⟩))
 all_goals go_ret
 all_goals exact⟨by simp [rT, *],ca _ _⟩
theorem Ri {p:Prop} (h:p:=by
 go_wp2
 go_roundw
 case rel=>exact⟨k + 1,by omega,by go_num,np cJ.out (by simp [jg,cg.out,aR]),ai aE eZ⟩
 case measure=>simp [intOf];omega):p:=h
theorem Rl {p:Prop} (h:p:=by
 go_wp2
 go_ret
 exact⟨wy (Pk bn cJ.out (by simp [jg,cg.out,aR])).symm,ai aE eZ⟩):p:=h
theorem JP (A:Option Addr) (c:Nat) (xs:List aM) (bd:xs.length≤1048576) (f:FuncId) (qd:Array Value) (Cy:∀args W,(callFunc f args).run Tryz.prog W= .ok (.enter f args) W) (p:aM→Bool) (v:Int) (az:oJ p xs= v) (w:World) (bN:aJ 7 aM.cells w A xs)
  (hf:∀x,x ∈ xs→∀W,Below w w W→Calls Tryz.prog f (#[.agg #[.int .i64 x.id,.string x.name,.int .i64 x.gH,.bool x.second,.bool x.lN,.bool x.mr,.int .i64 x.hv]] ++ qd) W fun e ah=>e= .returned (.bool (p x))∧Below W W ah):
 Calls Tryz.prog 203 #[.slice A xs c,.func (.func f) #[] qd] w fun e ah=>e= .returned v∧Below w w ah:=by
 subst az
 have cD:=J hf;clear hf
 go_in
 go_wp2
 go_loopw [8] (fun i wr=>∃k:Nat,k≤xs.length∧i= .int .i64 k∧hI (fun i=>!jg p xs i) k= true∧Below w w wr) (fun i _=>xs.length - (intOf i).toNat)
 case atStart=>exact⟨0,Nat.zero_le _,rfl,rfl,Below.refl _ _⟩
 case round=>
  obtain⟨k,ax,rfl,aT,aE⟩:=hrel
  have cJ:=J aT;clear aT
  by_cases bn:k < xs.length
  ·obtain⟨b,off,x,rfl,dU,ay,bq⟩:=bN.at_ aE bn
   have DX:=J (cD.out x (List.mem_of_getElem? ay))
   obtain⟨aoI,aoL,aoN,aoO,aox,aoa,aoK,rhs⟩:=x
   have f0:=bq 0 _ rfl;have f1:=bq 1 _ rfl;have f2:=bq 2 _ rfl;have f3:=bq 3 _ rfl;have f4:=bq 4 _ rfl;have f5:=bq 5 _ rfl;have f6:=bq 6 _ rfl
   simp only [Nat.add_zero] at f0
   have g0:=f0 (aB.self _);have g1:=f1 (aB.self _);have g2:=f2 (aB.self _);have g3:=f3 (aB.self _);have g4:=f4 (aB.self _);have g5:=f5 (aB.self _);have g6:=f6 (aB.self _)
   simp only [aB.self] at g0
   simp only [aB.self] at g1
   simp only [aB.self] at g2
   simp only [aB.self] at g3
   simp only [aB.self] at g4
   simp only [aB.self] at g5
   simp only [aB.self] at g6
   have cg:=J ay;clear ay bq
   go_wp2_with fail
   refine (DX.out _ aE).mono ?_
   rintro e ah ⟨rfl,eZ⟩
   cases aR:p ⟨aoI,aoL,aoN,aoO,aox,aoa,aoK,rhs⟩
   ·exact Ri
   ·exact Rl
  ·exact Li
theorem agq (A:Option Addr) (c:Nat) (xs:List aM) (bd:xs.length≤1048576) (f:FuncId) (qd:Array Value) (Cy:∀args W,(callFunc f args).run Tryz.prog W= .ok (.enter f args) W) (p:aM→Bool) (v:Bool) (az:xs.any p= v) (w:World) (bN:aJ 7 aM.cells w A xs)
  (hf:∀x,x ∈ xs→∀W,Below w w W→Calls Tryz.prog f (#[.agg #[.int .i64 x.id,.string x.name,.int .i64 x.gH,.bool x.second,.bool x.lN,.bool x.mr,.int .i64 x.hv]] ++ qd) W fun e ah=>e= .returned (.bool (p x))∧Below W W ah):
 Calls Tryz.prog 213 #[.slice A xs c,.func (.func f) #[] qd] w fun e ah=>e= .returned v∧Below w w ah:=by
 subst az
 have cD:=J hf;clear hf;have ck:=JN p xs;have hx:=J ck;clear ck
 go_in
 go_wp2_with fail
 refine (JP A c xs bd f qd Cy p _ rfl _ bN cD.out).mono ?_
 rintro e ah ⟨rfl,aE⟩
 go_wp2
 go_ret
 exact⟨ep hx.out,aE⟩
theorem aoQ (id:Int) (g:Nat) (x:aM) (W:World) (ck:W.cell? ⟨g,0,none⟩ =some (.int .i64 id)) (aT:g < W.heap.size):
 Calls Tryz.prog 204 (#[.agg #[x.id,x.name,x.gH,x.second,x.lN,x.mr,x.hv]] ++ #[.pointer (some ⟨g,0,none⟩)]) W fun e ah=>e= .returned (.bool (x.id == id))∧Below W W ah:=by
 cases aE:x.id == id
 all_goals
  go_in
  go_wp2
  go_ret
  exact⟨rfl,ca _ _⟩
theorem Ds (A:Option Addr) (c:Nat) (xs:List aM) (bd:xs.length≤1048576) (id:Int) (v:Int) (az:oJ (fun r=>r.id == id) xs= v) (w:World) (bN:aJ 7 aM.cells w A xs):
 Calls Tryz.prog 122 #[.slice A xs c,id] w fun e ah=>e= .returned v∧Below w w ah:=by
 have hf:∀x,x ∈ xs→∀W,Below (w.alloc (.cells #[id] 3)).heap.size (w.alloc (.cells #[id] 3)) W→Calls Tryz.prog 204 (#[.agg #[.int .i64 x.id,.string x.name,.int .i64 x.gH,.bool x.second,.bool x.lN,.bool x.mr,.int .i64 x.hv]] ++ #[.pointer (some ⟨w.heap.size,0,none⟩)]) W fun e ah=>e= .returned (.bool (x.id == id))∧Below W W ah:=fun x _ W bK=>by
  have bp:=aC.U (aC.new w 3 #[id]) bK (by simp)
  exact aoQ id w.heap.size x W (bp.cell 0) bp.lt
 have CC:=JP A c xs bd 204 #[.pointer (some ⟨w.heap.size,0,none⟩)] (Bp Tryz.func204 (by kernel_rfl) (by kernel_rfl)) (fun r=>r.id == id) v az (w.alloc (.cells #[id] 3)) (bN.U (ca _ _)) hf;have hP:=J CC;clear CC hf az
 go_in
 go_wp2_with fail
 refine hP.out.mono ?_
 rintro e bg ⟨rfl,aE⟩
 go_wp2
 go_ret
 exact⟨rfl,ai (ca _ _) aE⟩
theorem vg (A:Option Addr) (c:Nat) (xs:List aM) (bd:xs.length≤1048576) (id:Int) (v:Int) (az:oJ (fun r=>r.id == id) xs= v) (w:World) (bN:aJ 7 aM.cells w A xs):
 Calls Tryz.prog 72 #[.slice A xs c,id] w fun e ah=>e= .returned v∧ah= w:=by
 subst az
 go_in
 go_wp2
 go_loop [5] (fun i=>∃k:Nat,k≤xs.length∧i= .int .i64 k∧hI (fun i=>!jg (fun r:aM=>r.id == id) xs i) k= true) (fun i=>xs.length - (intOf i).toNat)
 case atStart=>exact⟨0,Nat.zero_le _,rfl,rfl⟩
 case round=>
  obtain⟨k,ax,rfl,aT⟩:=hrel
  have cJ:=J aT;clear aT
  by_cases bn:k < xs.length
  ·obtain⟨b,off,x,rfl,dU,ay,bq⟩:=bN.at_ (Below.refl _ _) bn
   obtain⟨HT,nm,rk,s,d,a,ee,aZ⟩:=x
   have g0:=bq 0 _ rfl (aB.self _)
   simp only [Nat.add_zero,aB.self] at g0
   have cg:=J ay;clear ay bq
   by_cases he:HT= id
   ·have uH:(HT == id)= true:=beq_iff_eq.2 he
    have da:=J uH
    go_wp2
    go_ret
    exact⟨wy (Pk bn cJ.out (by simp [jg,cg.out,da.out])).symm,rfl⟩
   ·have uH:(HT == id)= false:=beq_eq_false_iff_ne.2 he
    go_wp2
    go_round
    case rel=>exact⟨k + 1,by omega,by go_num,np cJ.out (by simp [jg,cg.out,uH])⟩
    case measure=>simp [intOf];omega
  ·obtain rfl:k= xs.length:=by omega
   go_wp2
   go_ret
   exact⟨wy (Pl cJ.out).symm,rfl⟩
open Go.RowKit Go.G9
theorem arj (id:Int) (nm:ByteArray) (rk:Int) (s d a:Bool) (ee l:Int) (aZ:nm.size≤maxLen) (h0:0≤l) (h1:l≤1048576) (w:World):
 Calls Tryz.prog 43 #[.agg #[id,nm,rk,s,d,a,ee],l] w fun e ah=>∃r:Int,e= .returned r∧(-1≤r∧r≤l)∧Below w w ah:=by
 unfold maxLen at aZ
 go_in
 go_wp2
 all_goals go_ret
 all_goals exact⟨_,rfl,by constructor <;> omega,ca _ _⟩
theorem agX (id:Int) (nm:ByteArray) (rk:Int) (s d a:Bool) (ee:Int) (w:World):
 Calls Tryz.prog 47 #[.agg #[id,nm,rk,s,d,a,ee],.agg #[id,nm,rk,s,d,a,ee]] w fun e ah=>e= .returned true∧Below w w ah:=by
 go_in
 go_wp2
 go_ret
 exact⟨rfl,xb _ _ _⟩
theorem arD (id:Int) (nm:ByteArray) (rk:Int) (s d a:Bool) (ee:Int) (w:World):
 Calls Tryz.prog 46 #[.agg #[id,nm,rk,s,d,a,ee]] w fun e ah=>e= .returned (.agg #[id,nm,rk,s,d,a,ee])∧Below w w ah:=by
 go_in
 go_wp2
 exact bodyPost_ret (v:= .agg #[id,nm,rk,s,d,a,ee]) (by simp [results,Tryz.results46,go_sem]) rfl ⟨rfl,aw⟩
theorem Pm:(Tryz.prog.info? 89).map (fun i=>(i.zero,i.size,i.bytes))= some (some (.agg #[(0:Int),.string ⟨#[]⟩,(0:Int),false,false,false,(0:Int)]),7,48):=by kernel_rfl
theorem ari (A:Option Addr) (c:Nat) (xs:List aM) (bd:xs.length≤maxLen) (l:Int) (h00:0≤l) (h01:l≤1048576) (w:World) (bN:aJ 7 aM.cells w A xs):
 Calls Tryz.prog 9 #[.slice A xs c,l] w fun e ah=>∃r:Int,e= .returned r∧-1≤r∧r≤l∧(r < 0∨xs.length≤1048576)∧Below w w ah:=by
 unfold maxLen at bd
 by_cases aT:(xs.length:Int)≤l
 ·have Jz:¬(l - (xs.length:Int)) < 0:=by omega
  go_in
  go_wp2
  go_loopw [1,5] (fun amO i wr=>∃(k:Nat) (r:Int),k≤xs.length∧i= .int .i64 k∧amO= .int .i64 r∧0≤r∧r≤l∧Below w w wr) (fun _ i _=>xs.length - (intOf i).toNat)
  case atStart=>exact⟨0,_,Nat.zero_le _,rfl,rfl,by omega,by omega,Below.refl _ _⟩
  case round=>
   obtain⟨k,r,ax,rfl,rfl,h0,h1,aE⟩:=hrel
   by_cases bn:k < xs.length
   ·obtain⟨b,off,x,rfl,dU,ay,bq⟩:=bN.at_ aE bn
    obtain⟨id,nm,rk,s,d,a,ee,aZ⟩:=x
    have f0:=bq 0 _ rfl;have f1:=bq 1 _ rfl;have f2:=bq 2 _ rfl;have f3:=bq 3 _ rfl;have f4:=bq 4 _ rfl;have f5:=bq 5 _ rfl;have f6:=bq 6 _ rfl
    simp only [Nat.add_zero] at f0
    have g0:=f0 (aB.self _);have g1:=f1 (aB.self _);have g2:=f2 (aB.self _);have g3:=f3 (aB.self _);have g4:=f4 (aB.self _);have g5:=f5 (aB.self _);have g6:=f6 (aB.self _)
    simp only [aB.self] at g0
    simp only [aB.self] at g1
    simp only [aB.self] at g2
    simp only [aB.self] at g3
    simp only [aB.self] at g4
    simp only [aB.self] at g5
    simp only [aB.self] at g6
    clear ay bq
    go_wp2_with fail
    refine (arj _ _ _ _ _ _ _ _ aZ h0 (by omega) _).mono ?_
    rintro e ah ⟨fS,rfl,⟨h2,h3⟩,eZ⟩
    by_cases h4:fS < 0
    ·go_wp2
     go_ret
     exact⟨_,rfl,by omega,by omega,.inl (by omega),ai aE eZ⟩
    ·go_wp2
     go_roundw
     case rel=>exact⟨k + 1,fS,by omega,by go_num,rfl,by omega,by omega,ai aE eZ⟩
     case measure=>simp [intOf];omega
   ·go_wp2
    go_ret
    exact⟨_,rfl,by omega,by omega,.inr (by omega),aE⟩
 ·have Jz:(l - (xs.length:Int)) < 0:=by omega
  go_in
  go_wp2
  go_ret
  exact⟨_,rfl,by omega,by omega,.inl (by omega),Below.refl _ _⟩
theorem Lg {p:Prop} (h:p:=by
 refine wpQuiet_nil ?_
 intro K
 go_wp2
 go_roundw
 case rel=>exact⟨k + 1,by omega,by go_num,ai aE K.U⟩
 case measure=>simp [intOf];omega):p:=h
theorem agW (A gK:Option Addr) (c cO:Nat) (xs:List aM) (bd:xs.length≤1048576) (w:World) (bN:aJ 7 aM.cells w A xs) (vW:aJ 7 aM.cells w gK xs):
 Calls Tryz.prog 15 #[.slice A xs c,.slice gK xs cO] w fun e ah=>e= .returned true∧Below w w ah:=by
 go_in
 go_wp2
 go_loopw [5] (fun i wr=>∃(k:Nat),k≤xs.length∧i= .int .i64 k∧Below w w wr) (fun i _=>xs.length - (intOf i).toNat)
 case atStart=>exact⟨0,Nat.zero_le _,rfl,Below.refl _ _⟩
 case round=>
  obtain⟨k,ax,rfl,aE⟩:=hrel
  by_cases bn:k < xs.length
  ·obtain⟨b,off,x,rfl,dU,ay,bq⟩:=bN.at_ aE bn
   obtain⟨cE,rO,bG,rfl,_,kV,jB⟩:=vW.at_ aE bn
   obtain rfl:x= bG:=Option.some.inj (ay.symm.trans kV)
   obtain⟨id,nm,rk,s,d,a,ee,aZ⟩:=x
   have f0:=bq 0 _ rfl;have f1:=bq 1 _ rfl;have f2:=bq 2 _ rfl;have f3:=bq 3 _ rfl;have f4:=bq 4 _ rfl;have f5:=bq 5 _ rfl;have f6:=bq 6 _ rfl
   simp only [Nat.add_zero] at f0
   have e0:=jB 0 _ rfl;have e1:=jB 1 _ rfl;have e2:=jB 2 _ rfl;have e3:=jB 3 _ rfl;have e4:=jB 4 _ rfl;have e5:=jB 5 _ rfl;have e6:=jB 6 _ rfl
   simp only [Nat.add_zero] at e0
   clear ay bq kV jB
   go_wp2
   refine eC (by kernel_rfl) (by kernel_rfl) ?_
   repeat (go_big_quiet_step (((go_at_call 47;exact aB.call _ (Nat.le_refl _) (agX _ _ _ _ _ _ _ _)))))
   exact Lg
  ·go_wp2
   go_ret
   exact⟨rfl,aE⟩
theorem arC (A:Option Addr) (c:Nat) (xs:List aM) (bd:xs.length≤1048576) (w:World) (bN:aJ 7 aM.cells w A xs):
 Calls Tryz.prog 12 #[.slice A xs c] w fun e ah=>∃gK,e= .returned (.slice gK xs xs)∧aX w 89 7 aM.cells ah (.slice gK xs xs) xs∧Below w w ah:=by
 obtain⟨i0,hi,dk,dx,dC⟩:=info_parts Pm
 have lj:=HC (P:=Tryz.prog) 29 89 i0 _ Tryz.underlying29 hi dk .i64 .i64 xs.length xs.length (Nat.le_refl _) (by rw [dC];omega) (by omega)
 rw [dx] at lj
 go_in
 go_wp2
 go_loopw [4] (fun i wr=>∃(k:Nat) (cs:Array Value),k≤xs.length∧i= .int .i64 k∧aC wr w.heap.size 89 cs∧cs.size= xs.length * 7∧ku 7 aM.cells xs k cs∧Below w w wr) (fun i _=>xs.length - (intOf i).toNat)
 case atStart=>exact⟨0,_,Nat.zero_le _,rfl,aC.new _ _ _,by simp [madeCells],ku.zero,ca _ _⟩
 case round=>
  obtain⟨k,cs,ax,rfl,bp,eW,aj,aE⟩:=hrel
  have eV:=J eW;clear eW
  by_cases bn:k < xs.length
  ·obtain⟨b,off,x,rfl,dU,ay,bq⟩:=bN.at_ aE bn
   obtain⟨id,nm,rk,s,d,a,ee,aZ⟩:=x
   have f0:=bq 0 _ rfl;have f1:=bq 1 _ rfl;have f2:=bq 2 _ rfl;have f3:=bq 3 _ rfl;have f4:=bq 4 _ rfl;have f5:=bq 5 _ rfl;have f6:=bq 6 _ rfl
   simp only [Nat.add_zero] at f0
   have g0:=f0 (aB.self _);have g1:=f1 (aB.self _);have g2:=f2 (aB.self _);have g3:=f3 (aB.self _);have g4:=f4 (aB.self _);have g5:=f5 (aB.self _);have g6:=f6 (aB.self _)
   simp only [aB.self] at g0
   simp only [aB.self] at g1
   simp only [aB.self] at g2
   simp only [aB.self] at g3
   simp only [aB.self] at g4
   simp only [aB.self] at g5
   simp only [aB.self] at g6
   clear bq;have cg:=J ay;clear ay
   go_wp2_with fail
   refine (arD _ _ _ _ _ _ _ _).mono ?_
   rintro e ah ⟨rfl,eZ⟩
   have hK:=bp.U eZ bp.lt
   obtain⟨v0,c0⟩:=hK.some_ (k * 7) (by rw [eV.out];omega)
   have z0:=hK.frozen (k * 7)
   obtain⟨v1,au⟩:=hK.some_ (k * 7 + 1) (by rw [eV.out];omega)
   have ch:=hK.frozen (k * 7 + 1)
   obtain⟨v2,c2⟩:=hK.some_ (k * 7 + 2) (by rw [eV.out];omega)
   have z2:=hK.frozen (k * 7 + 2)
   obtain⟨v3,c3⟩:=hK.some_ (k * 7 + 3) (by rw [eV.out];omega)
   have z3:=hK.frozen (k * 7 + 3)
   obtain⟨v4,c4⟩:=hK.some_ (k * 7 + 4) (by rw [eV.out];omega)
   have z4:=hK.frozen (k * 7 + 4)
   obtain⟨v5,c5⟩:=hK.some_ (k * 7 + 5) (by rw [eV.out];omega)
   have z5:=hK.frozen (k * 7 + 5)
   obtain⟨v6,rr⟩:=hK.some_ (k * 7 + 6) (by rw [eV.out];omega)
   have fl:=hK.frozen (k * 7 + 6)
   go_wp2
   go_roundw
   case rel=>exact⟨k + 1,gq cs (k * 7) (aM.cells ⟨id,nm,rk,s,d,a,ee,aZ⟩),by omega,by go_num,hK.gq (k * 7) (aM.cells ⟨id,nm,rk,s,d,a,ee,aZ⟩),by rw [oO,eV.out],aj.put cg.out (by rw [eV.out];simp [aM.cells];omega),(((((((ai aE eZ).setCell (Nat.le_refl _) _).setCell (Nat.le_refl _) _).setCell (Nat.le_refl _) _).setCell (Nat.le_refl _) _).setCell (Nat.le_refl _) _).setCell (Nat.le_refl _) _).setCell (Nat.le_refl _) _⟩
   case measure=>simp [intOf];omega
  ·exact HX
theorem agV (r m:Int) (s:Bool) (w:World):
 Calls Tryz.prog 222 #[.agg #[r,m,s],.agg #[r,m,s]] w fun e ah=>e= .returned true∧Below w w ah:=by
 go_in
 go_wp2
 go_ret
 exact⟨rfl,xb _ _ _⟩
theorem arB (r m:Int) (s:Bool) (w:World):
 Calls Tryz.prog 218 #[.agg #[r,m,s]] w fun e ah=>e= .returned (.agg #[r,m,s])∧Below w w ah:=by
 go_in
 go_wp2
 exact bodyPost_ret (v:= .agg #[r,m,s]) (by simp [results,Tryz.results218,go_sem]) rfl ⟨rfl,aw⟩
theorem agZ (m t s:Int) (w:World):
 Calls Tryz.prog 285 #[.agg #[m,t,s],.agg #[m,t,s]] w fun e ah=>e= .returned true∧Below w w ah:=by
 go_in
 go_wp2
 go_ret
 exact⟨rfl,xb _ _ _⟩
theorem arF (m t s:Int) (w:World):
 Calls Tryz.prog 284 #[.agg #[m,t,s]] w fun e ah=>e= .returned (.agg #[m,t,s])∧Below w w ah:=by
 go_in
 go_wp2
 exact bodyPost_ret (v:= .agg #[m,t,s]) (by simp [results,Tryz.results284,go_sem]) rfl ⟨rfl,aw⟩
theorem agT (r m:Int) (s:Bool) (w:World):
 Calls Tryz.prog 225 #[.agg #[r,m,s],.agg #[r,m,s]] w fun e ah=>e= .returned true∧Below w w ah:=by
 go_in
 go_wp2
 go_ret
 exact⟨rfl,xb _ _ _⟩
theorem arz (r m:Int) (s:Bool) (w:World):
 Calls Tryz.prog 221 #[.agg #[r,m,s]] w fun e ah=>e= .returned (.agg #[r,m,s])∧Below w w ah:=by
 go_in
 go_wp2
 exact bodyPost_ret (v:= .agg #[r,m,s]) (by simp [results,Tryz.results221,go_sem]) rfl ⟨rfl,aw⟩
theorem sE:(Tryz.prog.info? 115).map (fun i=>(i.zero,i.size,i.bytes))= some (some (.agg #[(0:Int),(0:Int),false]),3,24):=by kernel_rfl
theorem AL:(Tryz.prog.info? 214).map (fun i=>(i.zero,i.size,i.bytes))= some (some (.agg #[(0:Int),(0:Int),(0:Int)]),3,24):=by kernel_rfl
theorem GR:(Tryz.prog.info? 163).map (fun i=>(i.zero,i.size,i.bytes))= some (some (.agg #[(0:Int),(0:Int),false]),3,24):=by kernel_rfl
theorem agU (A gK:Option Addr) (c cO:Nat) (xs:List aN) (bd:xs.length≤1048576) (w:World) (bN:aJ 3 aN.cells w A xs) (vW:aJ 3 aN.cells w gK xs):
 Calls Tryz.prog 142 #[.slice A xs c,.slice gK xs cO] w fun e ah=>e= .returned true∧Below w w ah:=by
 go_in
 go_wp2
 go_loopw [5] (fun i wr=>∃(k:Nat),k≤xs.length∧i= .int .i64 k∧Below w w wr) (fun i _=>xs.length - (intOf i).toNat)
 case atStart=>exact⟨0,Nat.zero_le _,rfl,Below.refl _ _⟩
 case round=>
  obtain⟨k,ax,rfl,aE⟩:=hrel
  by_cases bn:k < xs.length
  ·obtain⟨b,off,x,rfl,dU,ay,bq⟩:=bN.at_ aE bn
   obtain⟨cE,rO,bG,rfl,_,kV,jB⟩:=vW.at_ aE bn
   obtain rfl:x= bG:=Option.some.inj (ay.symm.trans kV)
   obtain⟨r,m,s⟩:=x
   have f0:=bq 0 _ rfl;have f1:=bq 1 _ rfl;have f2:=bq 2 _ rfl
   simp only [Nat.add_zero] at f0
   have e0:=jB 0 _ rfl;have e1:=jB 1 _ rfl;have e2:=jB 2 _ rfl
   simp only [Nat.add_zero] at e0
   clear ay bq kV jB
   go_wp2
   refine eC (by kernel_rfl) (by kernel_rfl) ?_
   repeat (go_big_quiet_step (((go_at_call 222;exact aB.call _ (Nat.le_refl _) (agV _ _ _ _)))))
   exact Lg
  ·go_wp2
   go_ret
   exact⟨rfl,aE⟩
theorem arA (A:Option Addr) (c:Nat) (xs:List aN) (bd:xs.length≤1048576) (w:World) (bN:aJ 3 aN.cells w A xs):
 Calls Tryz.prog 139 #[.slice A xs c] w fun e ah=>∃gK,e= .returned (.slice gK xs xs)∧aX w 115 3 aN.cells ah (.slice gK xs xs) xs∧Below w w ah:=by
 obtain⟨i0,hi,dk,dx,dC⟩:=info_parts sE
 have lj:=HC (P:=Tryz.prog) 37 115 i0 _ Tryz.underlying37 hi dk .i64 .i64 xs.length xs.length (Nat.le_refl _) (by rw [dC];omega) (by omega)
 rw [dx] at lj
 go_in
 go_wp2
 go_loopw [4] (fun i wr=>∃(k:Nat) (cs:Array Value),k≤xs.length∧i= .int .i64 k∧aC wr w.heap.size 115 cs∧cs.size= xs.length * 3∧ku 3 aN.cells xs k cs∧Below w w wr) (fun i _=>xs.length - (intOf i).toNat)
 case atStart=>exact⟨0,_,Nat.zero_le _,rfl,aC.new _ _ _,by simp [madeCells],ku.zero,ca _ _⟩
 case round=>
  obtain⟨k,cs,ax,rfl,bp,eW,aj,aE⟩:=hrel
  have eV:=J eW;clear eW
  by_cases bn:k < xs.length
  ·obtain⟨b,off,x,rfl,dU,ay,bq⟩:=bN.at_ aE bn
   obtain⟨r,m,s⟩:=x
   have f0:=bq 0 _ rfl;have f1:=bq 1 _ rfl;have f2:=bq 2 _ rfl
   simp only [Nat.add_zero] at f0
   have g0:=f0 (aB.self _);have g1:=f1 (aB.self _);have g2:=f2 (aB.self _)
   simp only [aB.self] at g0
   simp only [aB.self] at g1
   simp only [aB.self] at g2
   clear bq;have cg:=J ay;clear ay
   go_wp2_with fail
   refine (arB _ _ _ _).mono ?_
   rintro e ah ⟨rfl,eZ⟩
   have hK:=bp.U eZ bp.lt
   obtain⟨v0,c0⟩:=hK.some_ (k * 3) (by rw [eV.out];omega)
   have z0:=hK.frozen (k * 3)
   obtain⟨v1,au⟩:=hK.some_ (k * 3 + 1) (by rw [eV.out];omega)
   have ch:=hK.frozen (k * 3 + 1)
   obtain⟨v2,c2⟩:=hK.some_ (k * 3 + 2) (by rw [eV.out];omega)
   have z2:=hK.frozen (k * 3 + 2)
   go_wp2
   go_roundw
   case rel=>exact⟨k + 1,gq cs (k * 3) (aN.cells ⟨r,m,s⟩),by omega,by go_num,hK.gq (k * 3) (aN.cells ⟨r,m,s⟩),by rw [oO,eV.out],aj.put cg.out (by rw [eV.out];simp [aN.cells];omega),(((ai aE eZ).setCell (Nat.le_refl _) _).setCell (Nat.le_refl _) _).setCell (Nat.le_refl _) _⟩
   case measure=>simp [intOf];omega
  ·exact HX
theorem agY (A gK:Option Addr) (c cO:Nat) (xs:List aK) (bd:xs.length≤1048576) (w:World) (bN:aJ 3 aK.cells w A xs) (vW:aJ 3 aK.cells w gK xs):
 Calls Tryz.prog 224 #[.slice A xs c,.slice gK xs cO] w fun e ah=>e= .returned true∧Below w w ah:=by
 go_in
 go_wp2
 go_loopw [5] (fun i wr=>∃(k:Nat),k≤xs.length∧i= .int .i64 k∧Below w w wr) (fun i _=>xs.length - (intOf i).toNat)
 case atStart=>exact⟨0,Nat.zero_le _,rfl,Below.refl _ _⟩
 case round=>
  obtain⟨k,ax,rfl,aE⟩:=hrel
  by_cases bn:k < xs.length
  ·obtain⟨b,off,x,rfl,dU,ay,bq⟩:=bN.at_ aE bn
   obtain⟨cE,rO,bG,rfl,_,kV,jB⟩:=vW.at_ aE bn
   obtain rfl:x= bG:=Option.some.inj (ay.symm.trans kV)
   obtain⟨m,t,s⟩:=x
   have f0:=bq 0 _ rfl;have f1:=bq 1 _ rfl;have f2:=bq 2 _ rfl
   simp only [Nat.add_zero] at f0
   have e0:=jB 0 _ rfl;have e1:=jB 1 _ rfl;have e2:=jB 2 _ rfl
   simp only [Nat.add_zero] at e0
   clear ay bq kV jB
   go_wp2
   refine eC (by kernel_rfl) (by kernel_rfl) ?_
   repeat (go_big_quiet_step (((go_at_call 285;exact aB.call _ (Nat.le_refl _) (agZ _ _ _ _)))))
   exact Lg
  ·go_wp2
   go_ret
   exact⟨rfl,aE⟩
theorem arE (A:Option Addr) (c:Nat) (xs:List aK) (bd:xs.length≤1048576) (w:World) (bN:aJ 3 aK.cells w A xs):
 Calls Tryz.prog 220 #[.slice A xs c] w fun e ah=>∃gK,e= .returned (.slice gK xs xs)∧aX w 214 3 aK.cells ah (.slice gK xs xs) xs∧Below w w ah:=by
 obtain⟨i0,hi,dk,dx,dC⟩:=info_parts AL
 have lj:=HC (P:=Tryz.prog) 39 214 i0 _ Tryz.underlying39 hi dk .i64 .i64 xs.length xs.length (Nat.le_refl _) (by rw [dC];omega) (by omega)
 rw [dx] at lj
 go_in
 go_wp2
 go_loopw [4] (fun i wr=>∃(k:Nat) (cs:Array Value),k≤xs.length∧i= .int .i64 k∧aC wr w.heap.size 214 cs∧cs.size= xs.length * 3∧ku 3 aK.cells xs k cs∧Below w w wr) (fun i _=>xs.length - (intOf i).toNat)
 case atStart=>exact⟨0,_,Nat.zero_le _,rfl,aC.new _ _ _,by simp [madeCells],ku.zero,ca _ _⟩
 case round=>
  obtain⟨k,cs,ax,rfl,bp,eW,aj,aE⟩:=hrel
  have eV:=J eW;clear eW
  by_cases bn:k < xs.length
  ·obtain⟨b,off,x,rfl,dU,ay,bq⟩:=bN.at_ aE bn
   obtain⟨m,t,s⟩:=x
   have f0:=bq 0 _ rfl;have f1:=bq 1 _ rfl;have f2:=bq 2 _ rfl
   simp only [Nat.add_zero] at f0
   have g0:=f0 (aB.self _);have g1:=f1 (aB.self _);have g2:=f2 (aB.self _)
   simp only [aB.self] at g0
   simp only [aB.self] at g1
   simp only [aB.self] at g2
   clear bq;have cg:=J ay;clear ay
   go_wp2_with fail
   refine (arF _ _ _ _).mono ?_
   rintro e ah ⟨rfl,eZ⟩
   have hK:=bp.U eZ bp.lt
   obtain⟨v0,c0⟩:=hK.some_ (k * 3) (by rw [eV.out];omega)
   have z0:=hK.frozen (k * 3)
   obtain⟨v1,au⟩:=hK.some_ (k * 3 + 1) (by rw [eV.out];omega)
   have ch:=hK.frozen (k * 3 + 1)
   obtain⟨v2,c2⟩:=hK.some_ (k * 3 + 2) (by rw [eV.out];omega)
   have z2:=hK.frozen (k * 3 + 2)
   go_wp2
   go_roundw
   case rel=>exact⟨k + 1,gq cs (k * 3) (aK.cells ⟨m,t,s⟩),by omega,by go_num,hK.gq (k * 3) (aK.cells ⟨m,t,s⟩),by rw [oO,eV.out],aj.put cg.out (by rw [eV.out];simp [aK.cells];omega),(((ai aE eZ).setCell (Nat.le_refl _) _).setCell (Nat.le_refl _) _).setCell (Nat.le_refl _) _⟩
   case measure=>simp [intOf];omega
  ·exact HX
theorem agS (A gK:Option Addr) (c cO:Nat) (xs:List Out) (bd:xs.length≤1048576) (w:World) (bN:aJ 3 Out.cells w A xs) (vW:aJ 3 Out.cells w gK xs):
 Calls Tryz.prog 144 #[.slice A xs c,.slice gK xs cO] w fun e ah=>e= .returned true∧Below w w ah:=by
 go_in
 go_wp2
 go_loopw [5] (fun i wr=>∃(k:Nat),k≤xs.length∧i= .int .i64 k∧Below w w wr) (fun i _=>xs.length - (intOf i).toNat)
 case atStart=>exact⟨0,Nat.zero_le _,rfl,Below.refl _ _⟩
 case round=>
  obtain⟨k,ax,rfl,aE⟩:=hrel
  by_cases bn:k < xs.length
  ·obtain⟨b,off,x,rfl,dU,ay,bq⟩:=bN.at_ aE bn
   obtain⟨cE,rO,bG,rfl,_,kV,jB⟩:=vW.at_ aE bn
   obtain rfl:x= bG:=Option.some.inj (ay.symm.trans kV)
   obtain⟨r,m,s⟩:=x
   have f0:=bq 0 _ rfl;have f1:=bq 1 _ rfl;have f2:=bq 2 _ rfl
   simp only [Nat.add_zero] at f0
   have e0:=jB 0 _ rfl;have e1:=jB 1 _ rfl;have e2:=jB 2 _ rfl
   simp only [Nat.add_zero] at e0
   clear ay bq kV jB
   go_wp2
   refine eC (by kernel_rfl) (by kernel_rfl) ?_
   repeat (go_big_quiet_step (((go_at_call 225;exact aB.call _ (Nat.le_refl _) (agT _ _ _ _)))))
   exact Lg
  ·go_wp2
   go_ret
   exact⟨rfl,aE⟩
theorem ary (A:Option Addr) (c:Nat) (xs:List Out) (bd:xs.length≤1048576) (w:World) (bN:aJ 3 Out.cells w A xs):
 Calls Tryz.prog 141 #[.slice A xs c] w fun e ah=>∃gK,e= .returned (.slice gK xs xs)∧aX w 163 3 Out.cells ah (.slice gK xs xs) xs∧Below w w ah:=by
 obtain⟨i0,hi,dk,dx,dC⟩:=info_parts GR
 have lj:=HC (P:=Tryz.prog) 42 163 i0 _ Tryz.underlying42 hi dk .i64 .i64 xs.length xs.length (Nat.le_refl _) (by rw [dC];omega) (by omega)
 rw [dx] at lj
 go_in
 go_wp2
 go_loopw [4] (fun i wr=>∃(k:Nat) (cs:Array Value),k≤xs.length∧i= .int .i64 k∧aC wr w.heap.size 163 cs∧cs.size= xs.length * 3∧ku 3 Out.cells xs k cs∧Below w w wr) (fun i _=>xs.length - (intOf i).toNat)
 case atStart=>exact⟨0,_,Nat.zero_le _,rfl,aC.new _ _ _,by simp [madeCells],ku.zero,ca _ _⟩
 case round=>
  obtain⟨k,cs,ax,rfl,bp,eW,aj,aE⟩:=hrel
  have eV:=J eW;clear eW
  by_cases bn:k < xs.length
  ·obtain⟨b,off,x,rfl,dU,ay,bq⟩:=bN.at_ aE bn
   obtain⟨r,m,s⟩:=x
   have f0:=bq 0 _ rfl;have f1:=bq 1 _ rfl;have f2:=bq 2 _ rfl
   simp only [Nat.add_zero] at f0
   have g0:=f0 (aB.self _);have g1:=f1 (aB.self _);have g2:=f2 (aB.self _)
   simp only [aB.self] at g0
   simp only [aB.self] at g1
   simp only [aB.self] at g2
   clear bq;have cg:=J ay;clear ay
   go_wp2_with fail
   refine (arz _ _ _ _).mono ?_
   rintro e ah ⟨rfl,eZ⟩
   have hK:=bp.U eZ bp.lt
   obtain⟨v0,c0⟩:=hK.some_ (k * 3) (by rw [eV.out];omega)
   have z0:=hK.frozen (k * 3)
   obtain⟨v1,au⟩:=hK.some_ (k * 3 + 1) (by rw [eV.out];omega)
   have ch:=hK.frozen (k * 3 + 1)
   obtain⟨v2,c2⟩:=hK.some_ (k * 3 + 2) (by rw [eV.out];omega)
   have z2:=hK.frozen (k * 3 + 2)
   go_wp2
   go_roundw
   case rel=>exact⟨k + 1,gq cs (k * 3) (Out.cells ⟨r,m,s⟩),by omega,by go_num,hK.gq (k * 3) (Out.cells ⟨r,m,s⟩),by rw [oO,eV.out],aj.put cg.out (by rw [eV.out];simp [Out.cells];omega),(((ai aE eZ).setCell (Nat.le_refl _) _).setCell (Nat.le_refl _) _).setCell (Nat.le_refl _) _⟩
   case measure=>simp [intOf];omega
  ·exact HX
theorem Rt {p:Prop} (h:p:=by
 by_cases aT:(xs.length:Int)≤l
 ·have Jz:¬(l - (xs.length:Int)) < 0:=by omega
  go_in
  go_wp2
  go_ret
  exact⟨_,rfl,by omega,by omega,.inr (by omega),Below.refl _ _⟩
 ·have Jz:(l - (xs.length:Int)) < 0:=by omega
  go_in
  go_wp2
  go_ret
  exact⟨_,rfl,by omega,by omega,.inl (by omega),Below.refl _ _⟩):p:=h
theorem arh (A:Option Addr) (c:Nat) (xs:List aN) (bd:xs.length≤maxLen) (l:Int) (h00:0≤l) (h01:l≤1048576) (w:World):
 Calls Tryz.prog 136 #[.slice A xs c,l] w fun e ah=>∃r:Int,e= .returned r∧-1≤r∧r≤l∧(r < 0∨xs.length≤1048576)∧Below w w ah:=by
 unfold maxLen at bd
 exact Rt
theorem ark (A:Option Addr) (c:Nat) (xs:List aK) (bd:xs.length≤maxLen) (l:Int) (h00:0≤l) (h01:l≤1048576) (w:World):
 Calls Tryz.prog 217 #[.slice A xs c,l] w fun e ah=>∃r:Int,e= .returned r∧-1≤r∧r≤l∧(r < 0∨xs.length≤1048576)∧Below w w ah:=by
 unfold maxLen at bd
 exact Rt
theorem arf (A:Option Addr) (c:Nat) (xs:List Out) (bd:xs.length≤maxLen) (l:Int) (h00:0≤l) (h01:l≤1048576) (w:World):
 Calls Tryz.prog 138 #[.slice A xs c,l] w fun e ah=>∃r:Int,e= .returned r∧-1≤r∧r≤l∧(r < 0∨xs.length≤1048576)∧Below w w ah:=by
 unfold maxLen at bd
 exact Rt
end Go.Proofs.YtlaaemmmbodaaaaGreatDoor
