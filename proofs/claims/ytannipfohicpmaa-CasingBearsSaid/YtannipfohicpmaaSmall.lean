/- Walks of the laws of layer 5: a small job. -/
import Derived.Test.YtannipfohicpmaaRefCheck2
import Derived.Test.YtannipfohicpmaaRefExcess
import Derived.Test.YtannipfohicpmaaWhy
namespace Go.Proofs.Ytannipfohicpmaa
open Go.RowKit Go.Shelf Mpl

def shortLoad (l : Stress) : Bool := decide (l.In.length ≤ 26) && decide (l.Out.length ≤ 26)
def smallJob (j : Job) : Bool := decide (j.Ends.length ≤ 7) && decide (j.Loads.length ≤ 8) && decide (j.Grades.length ≤ 8) && j.Loads.all shortLoad

theorem all_from {α : Type} (q : α → Bool) (l : List α) (k : Nat) (h : k < l.length) : (l.drop k).all q = (q l[k] && (l.drop (k + 1)).all q) := by
  rw [List.drop_eq_getElem_cons h, List.all_cons]

set_option maxHeartbeats 4000000 in
theorem law05_small (j : Job) (v0 : Value) (w : World) (hv : JobV w w.heap.size v0 j) :
    Calls Try.prog 21 #[v0] w fun e w' => e = .returned (.bool (smallJob j)) ∧ Below w.heap.size w w' := by
  obtain ⟨AE, cE, AL, cL, AG, cG, rfl, _, _, hL, _⟩ := hv
  have HL := Lib.hid hL
  have hR : Hid (smallJob j = (decide (j.Ends.length ≤ 7) && decide (j.Loads.length ≤ 8) && decide (j.Grades.length ≤ 8) && j.Loads.all shortLoad)) := rfl
  clear hL
  generalize smallJob j = res at *
  generalize j.Ends.length = nE at *
  generalize hnL : j.Loads.length = nL at *
  generalize j.Grades.length = nG at *
  have HNL := Lib.hid hnL
  clear hnL
  have HB := Lib.hid ((Below.refl w.heap.size w).alloc (Nat.le_refl _) (.cells #[.slice AE nE cE, .slice AL nL cL, .slice AG nG cG, .int .i64 j.Factor, .int .i64 j.Over] 36))
  have B0 := Lib.hid (Box.new w 36 #[.slice AE nE cE, .slice AL nL cL, .slice AG nG cG, .int .i64 j.Factor, .int .i64 j.Over] rfl)
  by_cases h1 : nE ≤ 7
  case neg =>
    have t1 : decide ((7 : Int) < (nE : Int)) = true := decide_eq_true (by omega)
    have t1' : decide (7 < nE) = true := decide_eq_true (by omega)
    have hf : Hid (false = res) := by unfold Hid; rw [hR.out, decide_eq_false h1]; rfl
    go_enter Try.func21, Try.ntmps21
    go_wp2_with fail
    go_ret
    exact ⟨ret_bool hf.out, HB.out⟩
  have t1 : decide ((7 : Int) < (nE : Int)) = false := decide_eq_false (by omega)
  have t1' : decide (7 < nE) = false := decide_eq_false (by omega)
  by_cases h2 : nL ≤ 8
  case neg =>
    have t2 : decide ((8 : Int) < (nL : Int)) = true := decide_eq_true (by omega)
    have t2' : decide (8 < nL) = true := decide_eq_true (by omega)
    have hf : Hid (false = res) := by unfold Hid; rw [hR.out, decide_eq_false h2]; simp
    go_enter Try.func21, Try.ntmps21
    go_wp2_with fail
    go_ret
    exact ⟨ret_bool hf.out, HB.out⟩
  have t2 : decide ((8 : Int) < (nL : Int)) = false := decide_eq_false (by omega)
  have t2' : decide (8 < nL) = false := decide_eq_false (by omega)
  by_cases h3 : nG ≤ 8
  case neg =>
    have t3 : decide ((8 : Int) < (nG : Int)) = true := decide_eq_true (by omega)
    have t3' : decide (8 < nG) = true := decide_eq_true (by omega)
    have hf : Hid (false = res) := by unfold Hid; rw [hR.out, decide_eq_false h3]; simp
    go_enter Try.func21, Try.ntmps21
    go_wp2_with fail
    go_ret
    exact ⟨ret_bool hf.out, HB.out⟩
  have t3 : decide ((8 : Int) < (nG : Int)) = false := decide_eq_false (by omega)
  have t3' : decide (8 < nG) = false := decide_eq_false (by omega)
  have hR2 : Hid (j.Loads.all shortLoad = res) := by unfold Hid; rw [hR.out, decide_eq_true h1, decide_eq_true h2, decide_eq_true h3]; rfl
  clear hR
  go_enter Try.func21, Try.ntmps21
  go_wp2_with fail
  clear t1 t2 t3 t1' t2' t3'
  obtain ⟨w1, hw1⟩ : ∃ w1, w.alloc (.cells #[.slice AE nE cE, .slice AL nL cL, .slice AG nG cG, .int .i64 j.Factor, .int .i64 j.Over] 36) = w1 := ⟨_, rfl⟩
  rw [hw1] at HB B0
  rw [hw1]
  clear hw1
  go_loopw [3] (fun s3 wr => ∃ k : Nat, k ≤ nL ∧ s3 = .int .i64 k ∧ Hid ((j.Loads.drop k).all shortLoad = res) ∧ Hid (Below w1.heap.size w1 wr)) (fun s3 _ => nL - (intOf s3).toNat)
  case atStart => exact ⟨0, Nat.zero_le _, rfl, hR2, Below.refl _ _⟩
  case round =>
    obtain ⟨k, hk, rfl, hr, BW⟩ := hrel
    have BB := Lib.hid (HB.out.trans (BW.out.mono HB.out.size))
    obtain ⟨_, p1, _, _, _⟩ := job_box (B0.out.under BW.out)
    by_cases hlt : k < nL
    · have t1 : decide (k < nL) = true := decide_eq_true hlt
      have hkl : k < j.Loads.length := by rw [HNL.out]; exact hlt
      obtain ⟨b, off, AI, AO, cI, cO, rfl, hb, hc⟩ := HL.out (by omega)
      obtain ⟨c0, c1, hk0, hk1⟩ := hc k hkl
      clear hc
      have d0 := oldCell BB.out hb c0
      have d1 := oldCell BB.out hb c1
      clear c0 c1
      have hstep := Lib.hid (all_from shortLoad j.Loads k hkl)
      have hld : ld j.Loads k = j.Loads[k] := by simp [ld, hkl]
      rw [← hld] at hstep
      have HSV : Hid (StressV w w.heap.size (.agg #[.slice (AI k) (ld j.Loads k).In.length (cI k), .slice (AO k) (ld j.Loads k).Out.length (cO k)]) (ld j.Loads k)) := ⟨AI k, cI k, AO k, cO k, rfl, hk0, hk1⟩
      clear hk0 hk1 hld hkl
      have HSH := Lib.hid (fun W (hW : Below w.heap.size w W) => law05_short (ld j.Loads k) _ W (HSV.out.below hW))
      clear HSV
      have hsd : Hid (shortLoad (ld j.Loads k) = (decide ((ld j.Loads k).In.length ≤ 26) && decide ((ld j.Loads k).Out.length ≤ 26))) := rfl
      rw [← hsd.out] at HSH
      clear hsd
      generalize (ld j.Loads k).In.length = n0 at *
      generalize (ld j.Loads k).Out.length = n1 at *
      cases hq : shortLoad (ld j.Loads k)
      · rw [hq] at HSH hstep
        clear hq
        have hf : Hid (false = res) := by unfold Hid; rw [← hr.out, hstep.out]; rfl
        go_wp2_with fail
        refine (HSH.out _ BB.out).mono ?_
        rintro e w5 ⟨rfl, hb5⟩
        go_wp2_with fail
        go_ret
        exact ⟨ret_bool hf.out, BB.out.trans (hb5.mono BB.out.size)⟩
      · rw [hq] at HSH hstep
        clear hq
        have hn : Hid ((j.Loads.drop (k + 1)).all shortLoad = res) := by unfold Hid; rw [← hr.out, hstep.out]; rfl
        go_wp2_with fail
        refine (HSH.out _ BB.out).mono ?_
        rintro e w5 ⟨rfl, hb5⟩
        go_wp2_with fail
        go_roundw
        case rel => exact ⟨k + 1, hlt, by go_num, hn, BW.out.trans (hb5.mono BW.out.size)⟩
        case measure => simp [intOf]; omega
    · have t1 : decide (k < nL) = false := decide_eq_false hlt
      have hf : Hid (true = res) := by unfold Hid; rw [← hr.out, List.drop_eq_nil_of_le (by rw [HNL.out]; omega)]; rfl
      go_wp2_with fail
      go_ret
      exact ⟨ret_bool hf.out, BB.out⟩

end Go.Proofs.Ytannipfohicpmaa
