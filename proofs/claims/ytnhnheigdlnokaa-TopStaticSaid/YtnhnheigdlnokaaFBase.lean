/- Walks of the package fluid: small functions of numbers. -/
import Derived.Test.YtnhnheigdlnokaaProven
import Derived.Test.YtnhnheigdlnokaaFFlow
import Derived.IntWalk
namespace Go.Proofs.Ytnhnheigdlnokaa
open Go.RowKit Go.Shelf Mpl

theorem fluid_within (n lo hi : Int) (w : World) :
    Calls Try.prog 12 #[.int .i64 n, .int .i64 lo, .int .i64 hi] w fun e w' => e = .returned (.bool (within n lo hi)) ∧ w = w' := by
  unfold within
  by_cases h1 : lo ≤ n
  · by_cases h2 : n ≤ hi
    · go_enter Try.func12, Try.ntmps12
      go_wp2
      go_ret
      simp [h1, h2]
    · go_enter Try.func12, Try.ntmps12
      go_wp2
      go_ret
      simp [h2]
  · go_enter Try.func12, Try.ntmps12
    go_wp2
    go_ret
    simp
    omega

def segV (s : Seg) : Value := .agg #[.int .i64 s.Long, .int .i64 s.Rise, .int .i64 s.Area, .int .i64 s.Gap]
def slugV (s : Slug) : Value := .agg #[.int .i64 s.Weight, .int .i64 s.Volume]
def gasV (g : Gas) : Value := .agg #[.int .i64 g.K, .int .i64 g.Power]
def mudV (g : Mud) : Value := .agg #[.int .i64 g.Yield, .int .i64 g.Visc]

set_option maxHeartbeats 1000000 in
theorem fluid_fair (s : Seg) (w : World) :
    Calls Try.prog 21 #[segV s] w fun e w' => e = .returned (.bool (fairSeg s)) ∧ Below w.heap.size w w' := by
  unfold segV
  by_cases h0 : 1 ≤ s.Long
  · cases h1 : within s.Rise 0 s.Long
    · have hs : Hid (fairSeg s = false) := by simp [fairSeg, h1, Hid]
      go_enter Try.func21, Try.ntmps21
      go_wp2_with (go_at_call 12; refine (fluid_within _ _ _ _).mono ?_; rintro e w' ⟨rfl, rfl⟩)
      go_ret
      exact ⟨by rw [hs.out]; rfl, (by repeat (first | exact Below.refl _ _ | assumption | refine Below.setCell ?_ (by first | (simp; done) | (simp; omega)) _ | refine belowDrewN ?_ _ | refine Below.drew ?_ | refine Below.alloc ?_ (by first | (simp; done) | (simp; omega)) _))⟩
    cases h2 : within s.Area 1 5000
    · have hs : Hid (fairSeg s = false) := by simp [fairSeg, h2, Hid]
      go_enter Try.func21, Try.ntmps21
      go_wp2_with (go_at_call 12; refine (fluid_within _ _ _ _).mono ?_; rintro e w' ⟨rfl, rfl⟩)
      go_ret
      exact ⟨by rw [hs.out]; rfl, (by repeat (first | exact Below.refl _ _ | assumption | refine Below.setCell ?_ (by first | (simp; done) | (simp; omega)) _ | refine belowDrewN ?_ _ | refine Below.drew ?_ | refine Below.alloc ?_ (by first | (simp; done) | (simp; omega)) _))⟩
    have hs : Hid (fairSeg s = within s.Gap 1 200) := by simp [fairSeg, h0, h1, h2, Hid]
    go_enter Try.func21, Try.ntmps21
    go_wp2_with (go_at_call 12; refine (fluid_within _ _ _ _).mono ?_; rintro e w' ⟨rfl, rfl⟩)
    go_ret
    exact ⟨by rw [hs.out]; rfl, (by repeat (first | exact Below.refl _ _ | assumption | refine Below.setCell ?_ (by first | (simp; done) | (simp; omega)) _ | refine belowDrewN ?_ _ | refine Below.drew ?_ | refine Below.alloc ?_ (by first | (simp; done) | (simp; omega)) _))⟩
  · have hs : Hid (fairSeg s = false) := by simp [fairSeg, h0, Hid]
    go_enter Try.func21, Try.ntmps21
    go_wp2_with fail
    go_ret
    exact ⟨by rw [hs.out]; rfl, (by repeat (first | exact Below.refl _ _ | assumption | refine Below.setCell ?_ (by first | (simp; done) | (simp; omega)) _ | refine belowDrewN ?_ _ | refine Below.drew ?_ | refine Below.alloc ?_ (by first | (simp; done) | (simp; omega)) _))⟩

theorem quiet_of {P : Program} {g : Nat} {args : Array Value} {w : World} {v : Value} (h : Calls P g args w fun e w' => e = .returned v ∧ w = w') : Calls P g args w fun e w' => e = .returned v ∧ w' = w := h.mono fun _ _ ⟨h1, h2⟩ => ⟨h1, h2.symm⟩

theorem load_rng {w : World} {g : Nat} {x y : Int} {t : Nat} (b : Box w g t #[.int .i64 x, .int .i64 y]) : (loadVar 30 ⟨g, 0, none⟩).run Try.prog w = .ok (.agg #[.int .i64 x, .int .i64 y]) w := by
  have q0 := b.cell 0
  have q1 := b.cell 1
  simp only [List.getElem?_toArray, List.getElem?_cons_zero, List.getElem?_cons_succ] at q0 q1
  simp [go_sem, q0, q1]

end Go.Proofs.Ytnhnheigdlnokaa
