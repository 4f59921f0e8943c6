/- The law CasingProves, walked. -/
import Derived.Test.YtannipfohicpmaaRefProven
import Derived.Test.YtannipfohicpmaaAppend
import Derived.Test.YtannipfohicpmaaOpen
namespace Go.Proofs.Ytannipfohicpmaa
open Go.RowKit Go.Shelf Mpl

set_option maxHeartbeats 2000000 in
theorem walk_CasingProves (l : List Test) (A : Option Addr) (c : Nat) (need now age : Int) (w : World) (hT : Tests w w.heap.size A l) (hin : TestsIn l) (_hnc : l.length ≤ c) (_hcm : c ≤ maxLen) (_ineed : inI64 need) (inow : inI64 now) (iage : inI64 age) :
    Calls Try.prog 6 #[.slice A l.length c, .int .i64 need, .int .i64 now, .int .i64 age] w fun e w' => e = .returned (.bool true) ∧ Below w.heap.size w w' := by
  by_cases h1 : 26 < l.length
  · have h1' : decide ((26 : Int) < (l.length : Int)) = true := decide_eq_true (by omega)
    clear hT hin
    generalize l.length = nl at *
    go_enter Try.func6, Try.ntmps6
    go_wp2_with fail
    refine (law05_awake _).mono ?_
    rintro e w1 ⟨rfl, hb1⟩
    go_wp2_with fail
    go_ret
    exact ⟨rfl, hb1⟩
  have h1' : decide ((26 : Int) < (l.length : Int)) = false := decide_eq_false (by omega)
  have htick : ticksIn l := fun i => (hin i).2
  have hB1 := (Below.refl w.heap.size w).alloc (Nat.le_refl _) (.cells #[] 55)
  have HR := Lib.hid (fun W (hW : Below w.heap.size w W) => ref05_Proven l need now age A c W (hT.up hW hW.size) iage inow htick (by omega))
  have HP := Lib.hid (fun W A' c' (h : Tests W W.heap.size A' l) => casing_Proven l need now age A' c' W h iage inow htick)
  have HS := Lib.hid ((hT.up hB1 hB1.size).src)
  have HO : Hid ((w.alloc (.cells #[] 55)).ownsRow w.heap.size 55 3 (.slice (some ⟨w.heap.size, 0, none⟩) 0 0) 0 []) := World.ownsRow_lit w #[] 0 (Nat.le_refl _) (by unfold maxLen; omega) rfl
  have HOne := Lib.hid (testC_one l)
  have HOwn := Lib.hid (fun W base e v n (h : World.ownsRow W base e 3 v n (l.flatMap testC)) => Tests.own h)
  obtain ⟨i0, hi, hz0, hz1, hz2⟩ := info_parts info_Test
  clear hT hin htick iage inow
  generalize proven l need now age = res at *
  generalize l.flatMap testC = cells at *
  generalize hnl : l.length = nl at *
  clear hnl
  go_enter Try.func6, Try.ntmps6
  go_wp2_with (at_builtin; refine wpList_append_list _ rfl _ _ 52 rfl w.heap.size 55 i0 (.agg #[.int .i64 0, .bool false, .int .i64 0]) 3 24 Try.underlying52 hi hz0 hz1 hz2 rfl (by decide) _ 0 [] rfl HO.out A nl c cells rfl HS.out HOne.out ?c1 ?c2 ?c3 ?_)
  case c1 => unfold maxLen; omega
  case c2 => omega
  case c3 => simp
  intro v1 w1 hown1 hg1
  have hB2 : Below w.heap.size w w1 := below_grown hB1 HO.out hg1 (by simp)
  obtain ⟨A1, c1, rfl, _, hT1⟩ := HOwn.out _ _ _ _ _ (by simpa using hown1)
  have HT1 := Lib.hid hT1
  clear hown1 hg1 hT1
  go_wp2_with fail
  refine (HP.out w1 A1 c1 HT1.out).mono ?_
  rintro e w2 ⟨rfl, hb2⟩
  have hB3 := hB2.trans (hb2.mono hB2.size)
  go_wp2_with fail
  refine (HR.out w2 hB3).mono ?_
  rintro e w3 ⟨rfl, hb3⟩
  have hB4 := hB3.trans (hb3.mono hB3.size)
  go_wp2_with fail
  refine (law05_awake _).mono ?_
  rintro e w4 ⟨rfl, hb4⟩
  go_wp2_with fail
  go_ret
  exact ⟨rfl, hB4.trans (hb4.mono hB4.size)⟩

end Go.Proofs.Ytannipfohicpmaa
