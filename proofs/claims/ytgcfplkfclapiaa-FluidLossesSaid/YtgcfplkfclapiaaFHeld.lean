/- Walks of moonpoolkit: the volume of a column; two columns alike. -/
import Derived.Test.YtgcfplkfclapiaaFKitCol
import Derived.Test.YtgcfplkfclapiaaContains
import Derived.Deep.QuietTactic
import Derived.BigQuiet
namespace Mpl
instance : DecidableEq Slug := fun a b => decidable_of_iff (a.Weight = b.Weight ∧ a.Volume = b.Volume) (by cases a; cases b; simp)
theorem slug_step {x y : List Slug} {k : Nat} (hx : k < x.length) (hy : k < y.length) : (x.drop k = y.drop k) ↔ ((slg x k).Weight = (slg y k).Weight ∧ (slg x k).Volume = (slg y k).Volume ∧ x.drop (k + 1) = y.drop (k + 1)) := by
  have e1 : slg x k = x[k] := by simp [slg, hx]
  have e2 : slg y k = y[k] := by simp [slg, hy]
  rw [List.drop_eq_getElem_cons hx, List.drop_eq_getElem_cons hy, e1, e2, List.cons_eq_cons]
  have : ∀ a b : Slug, a = b ↔ a.Weight = b.Weight ∧ a.Volume = b.Volume := fun a b => by cases a; cases b; simp
  rw [this, and_assoc]
end Mpl
namespace Go.Proofs.Ytgcfplkfclapiaa
open Go.RowKit Go.Shelf Mpl

theorem run_neq_slug (x0 x1 y0 y1 : Int) (w : World) : (binOp .neq 39 (.agg #[.int .i64 x0, .int .i64 x1]) (.agg #[.int .i64 y0, .int .i64 y1])).run Try.prog w = .ok (.bool !(x0 == y0 && x1 == y1)) w := by
  have u3 := Try.underlying2
  have a3 := Try.isAgg2
  have z3 := Try.sizeOf2
  have hS : Try.prog.underlying 39 = some (.struct (Try.prog.fieldsOf 39)) := by kernel_rfl
  have hp : Try.prog.stoodInHeld 39 = false := by kernel_rfl
  rw [run_neq_struct, show (10000 : Nat) = 9999 + 1 from rfl, run_equalIn_agg w 9999 39 _ _ hS hp]
  simp only [Program.fieldsOf, Try.underlying39]
  go_simp
  by_cases h1 : x0 = y0 <;> by_cases h2 : x1 = y1 <;> simp [h1, h2]

set_option maxHeartbeats 4000000 in
theorem kit_Held (l : List Slug) (A : Option Addr) (c : Nat) (w : World) (hl : Slugs w w.heap.size A l) (hm : l.length ≤ 1000) (hb : ∀ k, k ≤ l.length → 0 ≤ heldUp l k ∧ heldUp l k ≤ 1099511627776) :
    Calls Try.prog 23 #[.slice A l.length c] w fun e w' => e = .returned (.int .i64 (heldUp l l.length)) ∧ w = w' := by
  have HL := Lib.hid hl
  have HB := Lib.hid hb
  clear hl hb
  generalize hn : l.length = n at *
  have HN := Lib.hid hn
  clear hn
  go_enter Try.func23, Try.ntmps23
  go_wp2_with fail
  go_loop [3, 4] (fun s3 s4 => ∃ (k : Nat), k ≤ n ∧ s4 = .int .i64 k ∧ s3 = .int .i64 (heldUp l k)) (fun _ s4 => n - (intOf s4).toNat)
  case atStart => exact ⟨0, Nat.zero_le _, rfl, rfl⟩
  case round =>
    obtain ⟨k, hk, rfl, rfl⟩ := hrel
    by_cases hlt : k < n
    · obtain ⟨b, off, rfl, hb, hc⟩ := HL.out (by rw [HN.out]; omega)
      obtain ⟨c0, c1⟩ := hc k (by rw [HN.out]; exact hlt)
      have t0 : decide (k < n) = true := decide_eq_true hlt
      have hst := Lib.hid (heldUp_step l k)
      obtain ⟨p0, p1⟩ := HB.out k (by omega)
      have hq := HB.out (k + 1) (by omega)
      rw [hst.out] at hq
      obtain ⟨p2, p3⟩ := hq
      clear hc
      generalize hS : heldUp l k = S at *
      generalize hS1 : heldUp l (k + 1) = S1 at *
      have HS1 := Lib.hid hS1
      clear hS hS1
      generalize (slg l k).Volume = z at *
      go_wp2_with fail
      go_round
      case rel => exact ⟨k + 1, hlt, by go_num, by rw [HS1.out, hst.out]⟩
      case measure => simp [intOf]; omega
    · obtain rfl : k = n := by omega
      have t0 : decide (k < k) = false := decide_eq_false hlt
      go_wp2_with fail
      go_ret
      exact ⟨rfl, rfl⟩

theorem slug_len {w : World} {B : Nat} {A : Option Addr} {l : List Slug} (h : Slugs w B A l) (h0 : 0 < l.length) : ∃ b off, A = some ⟨b, off, none⟩ ∧ b < B := by
  obtain ⟨b, off, h1, h2, _⟩ := h h0
  exact ⟨b, off, h1, h2⟩

set_option maxHeartbeats 4000000 in
theorem kit_SameSlugs (x y : List Slug) (A B : Option Addr) (c d : Nat) (w : World) (hx : Slugs w w.heap.size A x) (hy : Slugs w w.heap.size B y) (hnx : x.length ≤ 1000) (hny : y.length ≤ 1000) :
    Calls Try.prog 55 #[.slice A x.length c, .slice B y.length d] w fun e w' => e = .returned (.bool (decide (x = y))) ∧ Below w.heap.size w w' := by
  have HX := Lib.hid hx
  have HY := Lib.hid hy
  have hst := Lib.hid (fun k => slug_step (x := x) (y := y) (k := k))
  have hnq := run_neq_slug
  generalize hres : decide (x = y) = res
  have HR := Lib.hid hres
  clear hx hy hres
  generalize hn0 : x.length = n0 at *
  generalize hn1 : y.length = n1 at *
  have HN0 := Lib.hid hn0
  have HN1 := Lib.hid hn1
  clear hn0 hn1
  go_enter Try.func55, Try.ntmps55
  go_wp2_with fail
  go_loopw [5] (fun s5 wr => ∃ k : Nat, k ≤ n0 ∧ k ≤ n1 ∧ s5 = .int .i64 k ∧ Hid (decide (x.drop k = y.drop k) = res) ∧ Hid (Below w.heap.size w wr)) (fun s5 _ => n0 - (intOf s5).toNat)
  case atStart => exact ⟨0, Nat.zero_le _, Nat.zero_le _, rfl, HR, Below.refl _ _⟩
  case round =>
    obtain ⟨k, hk0, hk1, rfl, hr, BW⟩ := hrel
    by_cases h0 : k < n0
    · have t0 : decide (k < n0) = true := decide_eq_true h0
      by_cases h1 : k < n1
      · have t1 : decide (k < n1) = true := decide_eq_true h1
        have hs := Lib.hid (hst.out k h0 h1)
        obtain ⟨ab, ao, rfl, hab, hac⟩ := HX.out (by rw [HN0.out]; omega)
        obtain ⟨bb, bo, rfl, hbb, hbc⟩ := HY.out (by rw [HN1.out]; omega)
        obtain ⟨c0, c1⟩ := hac k (by rw [HN0.out]; exact h0)
        obtain ⟨e0, e1⟩ := hbc k (by rw [HN1.out]; exact h1)
        replace c0 := oldCell BW.out hab c0
        replace c1 := oldCell BW.out hab c1
        replace e0 := oldCell BW.out hbb e0
        replace e1 := oldCell BW.out hbb e1
        have z1 : (k : Int) < (n0 : Int) := by omega
        have z2 : (k : Int) < (n1 : Int) := by omega
        have z3 : (0 : Int) ≤ (k : Int) := by omega
        clear hac hbc
        generalize (slg x k).Weight = a0 at *
        generalize (slg x k).Volume = a1 at *
        generalize (slg y k).Weight = b0 at *
        generalize (slg y k).Volume = b1 at *
        by_cases hq : a0 = b0 ∧ a1 = b1
        · have hq' : (!(a0 == b0 && a1 == b1)) = false := by simp [hq]
          have hn : Hid (decide (x.drop (k + 1) = y.drop (k + 1)) = res) := by unfold Hid; rw [← hr.out]; exact decide_eq_decide.2 ⟨fun h => hs.out.2 ⟨hq.1, hq.2, h⟩, fun h => (hs.out.1 h).2.2⟩
          clear hq
          go_wp2_with fail
          go_quiet (fail)
          go_wp2_with fail
          go_roundw
          case rel => exact ⟨k + 1, h0, h1, by go_num, hn, belowDrewN BW.out _⟩
          case measure => simp [intOf]; omega
        · have hq' : (!(a0 == b0 && a1 == b1)) = true := by
            simp only [Bool.not_eq_true', Bool.and_eq_false_iff, beq_eq_false_iff_ne]
            omega
          have hf : Hid (false = res) := by unfold Hid; rw [← hr.out]; exact (decide_eq_false fun h => hq ⟨(hs.out.1 h).1, (hs.out.1 h).2.1⟩).symm
          clear hq
          go_wp2_with fail
          go_quiet (fail)
          go_wp2_with fail
          go_ret
          exact ⟨ret_bool hf.out, belowDrewN BW.out _⟩
      · obtain rfl : k = n1 := by omega
        have t1 : decide (k < k) = false := decide_eq_false h1
        have t2 : ((n0 : Int) == (k : Int)) = false := beq_eq_false_iff_ne.2 (by omega)
        have t2' : (n0 == k) = false := beq_eq_false_iff_ne.2 (by omega)
        have hf : Hid (false = res) := by
          unfold Hid; rw [← hr.out]
          refine (decide_eq_false fun h => ?_).symm
          have := congrArg List.length h
          simp [HN0.out, HN1.out] at this
          omega
        go_wp2_with fail
        go_ret
        exact ⟨ret_bool hf.out, BW.out⟩
    · obtain rfl : k = n0 := by omega
      have t0 : decide (k < k) = false := decide_eq_false h0
      by_cases h1 : k = n1
      · subst h1
        have hf : Hid (true = res) := by
          unfold Hid; rw [← hr.out, List.drop_eq_nil_of_le (by rw [HN0.out]; omega), List.drop_eq_nil_of_le (by rw [HN1.out]; omega)]; rfl
        go_wp2_with fail
        go_ret
        exact ⟨ret_bool hf.out, BW.out⟩
      · have t2 : ((k : Int) == (n1 : Int)) = false := beq_eq_false_iff_ne.2 (by omega)
        have t2' : (k == n1) = false := beq_eq_false_iff_ne.2 h1
        have hf : Hid (false = res) := by
          unfold Hid; rw [← hr.out]
          refine (decide_eq_false fun h => ?_).symm
          have := congrArg List.length h
          simp [HN0.out, HN1.out] at this
          omega
        go_wp2_with fail
        go_ret
        exact ⟨ret_bool hf.out, BW.out⟩

end Go.Proofs.Ytgcfplkfclapiaa
