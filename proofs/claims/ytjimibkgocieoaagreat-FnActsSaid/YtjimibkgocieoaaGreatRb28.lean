/- Texts of the proof: walks of the functions, and what they compute. -/
import Derived.Test.YtjimibkgocieoaaGreatRb25
import Derived.Test.YtjimibkgocieoaaGreatRb21
import Derived.Test.YtjimibkgocieoaaGreatRb9
import Derived.Test.YtjimibkgocieoaaGreatRb0
set_option maxHeartbeats 16000000
set_option maxRecDepth 100000
namespace Go.Proofs.YtjimibkgocieoaaGreat
open Go.RowKit Go.G9
theorem own_ne {T : Type} {B : Nat} {e : TypeId} {sz : Nat} {f : T → List Value} {w : World} {A : Option Addr} {n c p : Nat} {xs : List T} (h : OwnV B e sz f w (.slice A n c) xs) (hp : p < B) : ∀ ad, A = some ad → 0 < xs.length → ad.block ≠ p := by
 intro ad ha hn
 obtain ⟨g, c', h'⟩ := own_some h hn
 injection h' with e1 e2 e3
 subst e1
 have e4 := Option.some.inj ha
 subst e4
 have := (h.lt g (by subst e2; rfl)).1
 show g ≠ p
 omega
theorem nmOk {rs : List Rul} {tu se : Int} (h : nmB rs tu se = true) : MeeOk ⟨rs, [], tu, se, 0, [], [], []⟩ := by
 have h1 : nfB tu se = true ∧ rulesB rs = true := by simpa [nmB] using h
 refine ⟨?_, h1.1, by simp, by simp, .inr ⟨rfl, rfl⟩⟩
 show pendB rs [] = true
 simp [pendB, h1.2, allTo]
theorem drNewM_is (A : Option Addr) (c : Nat) (rs : List Rul) (hn : rs.length ≤ 1048576) (tu0 se0 : Int) (h : nmB rs tu0 se0 = true) (w : World) (hR : Rds 7 Rul.cells w A rs) (hA : A = none → rs = [] ∧ c = 0) (kc : rs.length ≤ c) :
 Calls Tryz.prog 23 #[.slice A rs.length c, .int .i64 tu0, .int .i64 se0] w fun e w' => ∃ (qs : List Que) (tu se sp : Int) (ws : List Int) (sh : List Sha) (os : List Out) (D0 : Option Addr) (d0 : Nat) (D1 : Option Addr) (d1 : Nat) (D2 : Option Addr) (d2 : Nat) (D3 : Option Addr) (d3 : Nat) (D4 : Option Addr) (d4 : Nat), e = .returned (.tuple #[.agg #[.slice D0 rs.length d0, .slice D1 qs.length d1, .int .i64 tu, .int .i64 se, .int .i64 sp, .slice D2 ws.length d2, .slice D3 sh.length d3, .slice D4 os.length d4], .bool true]) ∧ Hid (MeeOk ⟨rs, qs, tu, se, sp, ws, sh, os⟩) ∧ MeO w.heap.size w' D0 d0 D1 d1 D2 d2 D3 d3 D4 d4 rs qs ws sh os ∧ Below w.heap.size w w' := by
 have H := sNewMeeting_is A c rs hn tu0 se0 w hR hA kc; have hO := nmOk h
 rw [nmM_yes h, h] at H
 refine H.mono fun e w' ⟨D0, d0, D1, d1, D2, d2, D3, d3, D4, d4, he, o0, o1, o2, o3, o4, hrest⟩ => ?_
 exact ⟨[], tu0, se0, 0, [], [], [], D0, d0, D1, d1, D2, d2, D3, d3, D4, d4, he, lh hO, ⟨o0, o1, o2, o3, o4⟩, hrest.2⟩
theorem drMake_is (A0 A1 A2 A3 A4 : Option Addr) (c0 c1 c2 c3 c4 : Nat) (rs : List Rul) (qs : List Que) (tu se sp : Int) (ws : List Int) (sh : List Sha) (os : List Out) (Z : MeeIn A0 A1 A2 A3 A4 c0 c1 c2 c3 c4 rs qs ws sh os) (kind mem val yes no abst : Int) (h : MeeOk ⟨rs, qs, tu, se, sp, ws, sh, os⟩) (w : World) (R : MeR w A0 A1 A2 A3 A4 rs qs ws sh os) :
 Calls Tryz.prog 48 #[.agg #[.slice A0 rs.length c0, .slice A1 qs.length c1, .int .i64 tu, .int .i64 se, .int .i64 sp, .slice A2 ws.length c2, .slice A3 sh.length c3, .slice A4 os.length c4], .agg #[.int .i64 kind, .int .i64 mem, .int .i64 val, .int .i64 yes, .int .i64 no, .int .i64 abst]] w fun e w' => ∃ (rs' : List Rul) (qs' : List Que) (tu' se' sp' : Int) (ws' : List Int) (sh' : List Sha) (os' : List Out) (D0 : Option Addr) (d0 : Nat) (D1 : Option Addr) (d1 : Nat) (D2 : Option Addr) (d2 : Nat) (D3 : Option Addr) (d3 : Nat) (D4 : Option Addr) (d4 : Nat) (b : Bool), e = .returned (.tuple #[.agg #[.slice D0 rs'.length d0, .slice D1 qs'.length d1, .int .i64 tu', .int .i64 se', .int .i64 sp', .slice D2 ws'.length d2, .slice D3 sh'.length d3, .slice D4 os'.length d4], .bool b]) ∧ Hid (b = true → rs' = rs ∧ MeeOk ⟨rs', qs', tu', se', sp', ws', sh', os'⟩) ∧ MeO w.heap.size w' D0 d0 D1 d1 D2 d2 D3 d3 D4 d4 rs' qs' ws' sh' os' ∧ Below w.heap.size w w' := by
 have H := sMakeA_is A0 A1 A2 A3 A4 c0 c1 c2 c3 c4 rs qs tu se sp ws sh os Z kind mem val yes no abst h w R
 cases hm : mkA ⟨rs, qs, tu, se, sp, ws, sh, os⟩ ⟨kind, mem, val, yes, no, abst⟩ with
 | none =>
  rw [hm] at H
  exact H.mono fun e w' ⟨he, hb⟩ => ⟨[], [], 0, 0, 0, [], [], [], none, 0, none, 0, none, 0, none, 0, none, 0, false, he, lh (fun h => by cases h), meO_nil, hb⟩
 | some n =>
  rw [hm] at H
  have hr : n.rules = rs := mkA_rules hm; have hk := mkA_ok h hm
  obtain ⟨rs', qs', tu', se', sp', ws', sh', os'⟩ := n
  exact H.mono fun e w' ⟨D0, d0, D1, d1, D2, d2, D3, d3, D4, d4, he, hO, hb⟩ => ⟨rs', qs', tu', se', sp', ws', sh', os', D0, d0, D1, d1, D2, d2, D3, d3, D4, d4, true, he, lh (fun _ => ⟨hr, hk⟩), hO, hb⟩
end Go.Proofs.YtjimibkgocieoaaGreat
