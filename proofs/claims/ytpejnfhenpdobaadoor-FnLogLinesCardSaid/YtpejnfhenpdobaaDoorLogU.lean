/- The log's functions over structs: what each answers, in the shape of the laws. -/
import Derived.Test.YtpejnfhenpdobaaDoorLogT
namespace Go.Proofs.YtpejnfhenpdobaaDoor
open Go.RowKit Go.G9
def noLog : LogT := ⟨⟨#[]⟩, ⟨#[]⟩, 0⟩
def LogT.ok (x : LogT) : Bool := logS x.d x.p x.cnt
def syncT (x : LogT) : LogT := if x.ok then ⟨x.dur ++ x.pen, ⟨#[]⟩, x.cnt⟩ else noLog
def apT (x : LogT) (y : LRec) : LogT := ⟨x.dur, bs (apP x.d x.p x.cnt y.c y.r), apN x.d x.p x.cnt y.c y.r⟩
def apTC (x : LogT) (y : LRec) : Int := apC x.d x.p x.cnt y.c y.r
def recT (s : ByteArray) : LogT := ⟨bs (recL s.data.toList), ⟨#[]⟩, (recN s.data.toList : Nat)⟩
def recTE (s : ByteArray) : Int := (recE s.data.toList : Nat)
def recTB (s : ByteArray) : Bool := decide (s.data.toList.length ≤ 30000)
def lrT (x : LogT) : List LRec := lrL x.d x.p x.cnt
theorem lrT_len (x : LogT) : (lrT x).length ≤ 1048576 := Nat.le_trans (lrL_len _ _ _) (by omega)
def enT (k : Int) (y : LRec) : ByteArray := if encOk k y.c y.r then bs (lineL k y.c y.r ++ [10]) else ⟨#[]⟩
def enTB (k : Int) (y : LRec) : Bool := encOk k y.c y.r
def crT (x : LogT) (k : Int) (t : Bool) : ByteArray := if crOk x.d x.p x.cnt k then bs (x.d ++ crB x.p k t) else ⟨#[]⟩
def crTB (x : LogT) (k : Int) (_t : Bool) : Bool := crOk x.d x.p x.cnt k
theorem syncV_T (x : LogT) : syncV x.d x.p x.cnt = .agg #[.string (syncT x).dur, .string (syncT x).pen, .int .i64 (syncT x).cnt] := by
  unfold syncV syncT LogT.ok
  rw [bs_d, bs_p]
  cases logS x.d x.p x.cnt <;> rfl
theorem iSyncLogR_is (x : LogT) (h : x.dur.size + x.pen.size ≤ 1048576) (w : World) (hT : Tab w) : Calls Tryd.prog 27 #[.agg #[.string x.dur, .string x.pen, .int .i64 x.cnt]] w fun e w' => e = .returned (.tuple #[.agg #[.string (syncT x).dur, .string (syncT x).pen, .int .i64 (syncT x).cnt], .bool x.ok]) ∧ Below w.heap.size w w' := by
  have := syncLog_is x.d x.p x.cnt (x.len h) w hT
  rwa [bs_d, bs_p, syncV_T] at this
theorem sSyncLogR_is (x : LogT) (h : x.dur.size + x.pen.size ≤ 1048576) (w : World) : Calls Tryd.prog 26 #[.agg #[.string x.dur, .string x.pen, .int .i64 x.cnt]] w fun e w' => e = .returned (.tuple #[.agg #[.string (syncT x).dur, .string (syncT x).pen, .int .i64 (syncT x).cnt], .bool x.ok]) ∧ Below w.heap.size w w' := by
  have := sSyncLog_is x.d x.p x.cnt (x.len h) w
  rwa [bs_d, bs_p, syncV_T] at this
theorem iIsValidLogT_is (x : LogT) (h : x.dur.size + x.pen.size ≤ 1048576) (w : World) (hT : Tab w) : Calls Tryd.prog 23 #[.agg #[.string x.dur, .string x.pen, .int .i64 x.cnt]] w fun e w' => e = .returned (.bool x.ok) ∧ Below w.heap.size w w' := iIsValidLogR_is x h _ rfl w hT
theorem l27LogT_is (x : LogT) (h : x.dur.size + x.pen.size ≤ 1048576) (w : World) : Calls Tryd.prog 49 #[.agg #[.string x.dur, .string x.pen, .int .i64 x.cnt]] w fun e w' => e = .returned (.bool x.ok) ∧ Below w.heap.size w w' := by
  have hl := x.len h
  have := l27Log_is x.d x.p x.cnt (by omega) (by omega) _ rfl w
  rwa [bs_d, bs_p] at this
theorem sIsValidLogT_is (x : LogT) (h : x.dur.size + x.pen.size ≤ 1048576) (w : World) : Calls Tryd.prog 21 #[.agg #[.string x.dur, .string x.pen, .int .i64 x.cnt]] w fun e w' => e = .returned (.bool x.ok) ∧ Below w.heap.size w w' := by
  go_enter Tryd.func21, Tryd.ntmps21
  go_wp2_with fail
  refine (l27LogT_is x h _).mono ?_
  rintro e w1 ⟨rfl, hb⟩
  go_wp2
  go_ret
  exact ⟨rfl, bth (bl1 _ _) hb⟩
theorem iAppendRecordR_is (x : LogT) (h : x.dur.size + x.pen.size ≤ 1048576) (y : LRec) (hc : y.cmd.size ≤ 1048576) (hr : y.rep.size ≤ 1048576) (w : World) (hT : Tab w) : Calls Tryd.prog 29 #[.agg #[.string x.dur, .string x.pen, .int .i64 x.cnt], .agg #[.string y.cmd, .string y.rep]] w fun e w' => e = .returned (.tuple #[.agg #[.string (apT x y).dur, .string (apT x y).pen, .int .i64 (apT x y).cnt], .int .i64 (apTC x y)]) ∧ Below w.heap.size w w' := by
  have := iAppendRecord_is x.d x.p x.cnt (x.len h) y.c y.r (y.clen hc) (y.rlen hr) w hT
  unfold apV at this
  rwa [bs_d, bs_p, bs_c, bs_r] at this
theorem sAppendRecordR_is (x : LogT) (h : x.dur.size + x.pen.size ≤ 1048576) (y : LRec) (hc : y.cmd.size ≤ 1048576) (hr : y.rep.size ≤ 1048576) (w : World) : Calls Tryd.prog 28 #[.agg #[.string x.dur, .string x.pen, .int .i64 x.cnt], .agg #[.string y.cmd, .string y.rep]] w fun e w' => e = .returned (.tuple #[.agg #[.string (apT x y).dur, .string (apT x y).pen, .int .i64 (apT x y).cnt], .int .i64 (apTC x y)]) ∧ Below w.heap.size w w' := by
  have := sAppendRecord_is x.d x.p x.cnt (x.len h) y.c y.r (y.clen hc) (y.rlen hr) w
  unfold apV at this
  rwa [bs_d, bs_p, bs_c, bs_r] at this
theorem iRecoverLogR_is (s : ByteArray) (h : s.size ≤ 1048576) (w : World) (hT : Tab w) : Calls Tryd.prog 18 #[.string s] w fun e w' => e = .returned (.tuple #[.agg #[.string (recT s).dur, .string (recT s).pen, .int .i64 (recT s).cnt], .int .i64 (recTE s), .bool (recTB s)]) ∧ Below w.heap.size w w' := by
  have := iRecoverLog_is s.data.toList (by rw [Array.length_toList]; exact h) w hT
  unfold recV at this
  rwa [bs_of] at this
theorem sRecoverLogR_is (s : ByteArray) (h : s.size ≤ 1048576) (w : World) : Calls Tryd.prog 17 #[.string s] w fun e w' => e = .returned (.tuple #[.agg #[.string (recT s).dur, .string (recT s).pen, .int .i64 (recT s).cnt], .int .i64 (recTE s), .bool (recTB s)]) ∧ Below w.heap.size w w' := by
  have := sRecoverLog_is s.data.toList (by rw [Array.length_toList]; exact h) w
  unfold recV at this
  rwa [bs_of] at this
theorem iLogRecordsR_is (x : LogT) (h : x.dur.size + x.pen.size ≤ 1048576) (w : World) (hT : Tab w) : Calls Tryd.prog 31 #[.agg #[.string x.dur, .string x.pen, .int .i64 x.cnt]] w fun e w' => ∃ A c, e = .returned (.tuple #[.slice A (lrT x).length c, .bool x.ok]) ∧ OwnV w.heap.size 27 2 LRec.cells w' (.slice A (lrT x).length c) (lrT x) ∧ Below w.heap.size w w' := by
  have := iLogRecords_is x.d x.p x.cnt (x.len h) w hT
  rwa [bs_d, bs_p] at this
theorem sLogRecordsR_is (x : LogT) (h : x.dur.size + x.pen.size ≤ 1048576) (w : World) : Calls Tryd.prog 30 #[.agg #[.string x.dur, .string x.pen, .int .i64 x.cnt]] w fun e w' => ∃ A c, e = .returned (.tuple #[.slice A (lrT x).length c, .bool x.ok]) ∧ OwnV w.heap.size 27 2 LRec.cells w' (.slice A (lrT x).length c) (lrT x) ∧ Below w.heap.size w w' := by
  have := sLogRecords_is x.d x.p x.cnt (x.len h) w
  rwa [bs_d, bs_p] at this
theorem iEncodeRecordR_is (k : Int) (y : LRec) (hc : y.cmd.size ≤ 1048576) (hr : y.rep.size ≤ 1048576) (w : World) (hT : Tab w) : Calls Tryd.prog 16 #[.int .i64 k, .agg #[.string y.cmd, .string y.rep]] w fun e w' => e = .returned (.tuple #[.string (enT k y), .bool (enTB k y)]) ∧ Below w.heap.size w w' := by
  have := iEncodeRecord_is k y.c y.r (y.clen hc) (y.rlen hr) w hT
  unfold encV at this
  rwa [bs_c, bs_r] at this
theorem sEncodeRecordR_is (k : Int) (y : LRec) (hc : y.cmd.size ≤ 1048576) (hr : y.rep.size ≤ 1048576) (w : World) : Calls Tryd.prog 14 #[.int .i64 k, .agg #[.string y.cmd, .string y.rep]] w fun e w' => e = .returned (.tuple #[.string (enT k y), .bool (enTB k y)]) ∧ Below w.heap.size w w' := by
  have := sEncodeRecord_is k y.c y.r (y.clen hc) (y.rlen hr) w
  unfold encV at this
  rwa [bs_c, bs_r] at this
theorem iCrashLogR_is (x : LogT) (h : x.dur.size + x.pen.size ≤ 1048576) (k : Int) (t : Bool) (w : World) (hT : Tab w) : Calls Tryd.prog 25 #[.agg #[.string x.dur, .string x.pen, .int .i64 x.cnt], .int .i64 k, .bool t] w fun e w' => e = .returned (.tuple #[.string (crT x k t), .bool (crTB x k t)]) ∧ Below w.heap.size w w' := by
  have := iCrashLog_is x.d x.p x.cnt (x.len h) k t w hT
  unfold crV at this
  rwa [bs_d, bs_p] at this
theorem sCrashLogR_is (x : LogT) (h : x.dur.size + x.pen.size ≤ 1048576) (k : Int) (t : Bool) (w : World) : Calls Tryd.prog 24 #[.agg #[.string x.dur, .string x.pen, .int .i64 x.cnt], .int .i64 k, .bool t] w fun e w' => e = .returned (.tuple #[.string (crT x k t), .bool (crTB x k t)]) ∧ Below w.heap.size w w' := by
  have := sCrashLog_is x.d x.p x.cnt (x.len h) k t w
  unfold crV at this
  rwa [bs_d, bs_p] at this
end Go.Proofs.YtpejnfhenpdobaaDoor
