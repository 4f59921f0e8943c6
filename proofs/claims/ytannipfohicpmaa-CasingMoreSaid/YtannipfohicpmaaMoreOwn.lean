/- A job's copy with loads or a grade more: the memory of the law CasingMore, and its plain facts. -/
import Derived.Test.YtannipfohicpmaaMoreMem
import Derived.Test.YtannipfohicpmaaMade
namespace Go.Proofs.Ytannipfohicpmaa
open Go.ChangeShapes Go.WideShapes Go.RowKit Go.Shelf Go.Deep Mpl

theorem okLine_few {ks : List Knot} (h : okLine ks = 0) : ks.length ≤ 1000 := by
  have := (checkLine_good h).1.few
  omega
theorem made_lens {j : Job} (h : Made j) : ∀ i, i < j.Loads.length → (ld j.Loads i).In.length ≤ 1000 ∧ (ld j.Loads i).Out.length ≤ 1000 := fun i hi =>
  ⟨okLine_few ((checkJob_good h.ok).loads i hi).1, okLine_few ((checkJob_good h.ok).loads i hi).2⟩
theorem chosen_any {w : World} {j : Job} {e : Ending} {w' : World} (hc : ChosenV w j e w') :
    (∃ (A : Option Addr) (n c : Nat) (b : Bool), e = .returned (.tuple #[.slice A n c, .bool b]) ∧ ((b = false ∧ chooseOf j = none) ∨ ∃ l, b = true ∧ chooseOf j = some l ∧ n = l.length ∧ Ints w' w'.heap.size A l)) ∧ Below w.heap.size w w' := by
  obtain ⟨h1, h2⟩ := hc
  refine ⟨?_, h2⟩
  cases hh : chooseOf j with
  | none =>
    rw [hh] at h1
    exact ⟨none, 0, 0, false, h1, .inl ⟨rfl, rfl⟩⟩
  | some l =>
    rw [hh] at h1
    obtain ⟨A, c, h3, h4⟩ := h1
    exact ⟨A, l.length, c, true, h3, .inr ⟨l, rfl, rfl, rfl, h4⟩⟩
theorem chosen_few {j : Job} {l : List Int} (h : chooseOf j = some l) : l.length ≤ 1000 := by
  by_cases hok : checkJob j = 0
  · obtain ⟨h1, _, _⟩ := choose_some hok h
    have := isChoice_chosen h1
    have h2 := this.few
    have h3 := this.same
    omega
  · rw [choose_bad hok] at h
    cases h

theorem own_box {W W' : World} {g t base e size n : Nat} {cs : Array Value} {v : Value} {xs : List Value} (hx : Box W g t cs) (h : W.ownsRow base e size v n xs) (hne : e ≠ t) (hg : W.grownBy W' v.ownBlock) : Box W' g t cs := by
  have hlt := hx.lt
  have key : some g ≠ v.ownBlock := by
    intro e'
    rcases h.2 with ⟨rfl, _⟩ | ⟨g', cap, cur, rfl, _, hh, _⟩
    · cases e'
    · have e2 : g = g' := by
        have e3 : (Value.slice (some ⟨g', 0, none⟩) n cap).ownBlock = some g' := rfl
        rw [e3] at e'
        injection e'
      subst e2
      unfold Box at hx
      rw [hh] at hx
      injection hx with hx
      injection hx with _ ht
      exact hne ht
  unfold Box at hx ⊢
  rw [← hx]
  exact hg.block g hlt key
theorem own_src {W : World} {base e size n c : Nat} {A : Option Addr} {xs : List Value} (h : W.ownsRow base e size (.slice A n c) n xs) : Src W A n size xs := by
  obtain ⟨A', c', hv, _, hc⟩ := own_form h
  injection hv with h1 _ h3
  subst h1 h3
  refine ⟨h.1, fun h0 => ?_⟩
  obtain ⟨g, rfl, _, _, hj⟩ := hc h0
  exact ⟨g, 0, rfl, fun j u hu => by simpa using hj j u hu⟩
theorem loadC_one (l : List LoadC) : ∀ u ∈ l.flatMap loadC, u.oneCell' = true := by
  intro u hu
  obtain ⟨t, _, hu⟩ := List.mem_flatMap.1 hu
  simp [loadC] at hu
  rcases hu with rfl | rfl <;> rfl

theorem more_loads {W : World} {B0 B nE nL nG mE mL mG eE eL eG fE fL fG : Nat} {aE aL aG bE bL bG : Option Addr} {F O F' O' : Int} {j k : Job}
    (hj : JobOwn W B (.agg #[.slice aE nE eE, .slice aL nL eL, .slice aG nG eG, .int .i64 F, .int .i64 O]) j) (hk : JobOwn W B0 (.agg #[.slice bE mE fE, .slice bL mL fL, .slice bG mG fG, .int .i64 F', .int .i64 O']) k) (hB : B0 ≤ B) (hW : B ≤ W.heap.size) :
    ∃ ls lk : List LoadC, W.ownsRow B 26 2 (.slice aL nL eL) nL (ls.flatMap loadC) ∧ Src W bL mL 2 (lk.flatMap loadC) ∧ (∀ u ∈ lk.flatMap loadC, u.oneCell' = true) ∧ nL = j.Loads.length ∧ mL = k.Loads.length ∧
      ∀ W' v', W'.ownsRow B 26 2 v' (nL + mL) (ls.flatMap loadC ++ lk.flatMap loadC) → W.grownBy W' (Value.slice aL nL eL).ownBlock →
        ∃ A c, v' = .slice A (nL + mL) c ∧ JobOwn W' B0 (.agg #[.slice aE nE eE, .slice A (nL + mL) c, .slice aG nG eG, .int .i64 F, .int .i64 O]) ⟨j.Ends, j.Loads ++ k.Loads, j.Grades, F, O⟩ ∧ (∀ g c, Box W g 36 c → Box W' g 36 c) ∧ Below B W W' := by
  obtain ⟨AE, cE, AL, cL, AG, cG, ls, e1, h1, h2, h3, h4, h5⟩ := hj
  obtain ⟨AE', cE', AL', cL', AG', cG', lk, e2, k1, k2, k3, k4, k5⟩ := hk
  simp only [Value.agg.injEq, Array.mk.injEq, List.cons.injEq, Value.slice.injEq, Value.int.injEq, and_true, true_and] at e1 e2
  obtain ⟨⟨rfl, rfl, rfl⟩, ⟨rfl, rfl, rfl⟩, ⟨rfl, rfl, rfl⟩, rfl, rfl⟩ := e1
  obtain ⟨⟨rfl, rfl, rfl⟩, ⟨rfl, rfl, rfl⟩, ⟨rfl, rfl, rfl⟩, rfl, rfl⟩ := e2
  refine ⟨ls, lk, h3, own_src k3, loadC_one lk, rfl, rfl, fun W' v' ho hg => ?_⟩
  obtain ⟨A, c, rfl, _, _⟩ := own_form ho
  refine ⟨A, c, rfl, ⟨aE, eE, A, c, aG, eG, ls ++ lk, by simp, by rw [List.map_append, h1, k1], own_le (own_other h2 h3 (by decide) hg) hB, ?_, ?_, own_le (own_other h5 h3 (by decide) hg) hB⟩, fun g c hx => own_box hx h3 (by decide) hg, below_grown (Below.refl _ _) h3 hg hW⟩
  · rw [List.flatMap_append]
    simpa using own_le ho hB
  · intro x hx
    rcases List.mem_append.1 hx with hx | hx
    · exact ⟨own_le (own_other (h4 x hx).1 h3 (by decide) hg) hB, own_le (own_other (h4 x hx).2 h3 (by decide) hg) hB⟩
    · exact ⟨own_other (k4 x hx).1 h3 (by decide) hg, own_other (k4 x hx).2 h3 (by decide) hg⟩

theorem more_grade {W : World} {B nE nL nG eE eL eG : Nat} {aE aL aG : Option Addr} {F O : Int} {j : Job}
    (hj : JobOwn W B (.agg #[.slice aE nE eE, .slice aL nL eL, .slice aG nG eG, .int .i64 F, .int .i64 O]) j) (hW : B ≤ W.heap.size) :
    W.ownsRow B 63 5 (.slice aG nG eG) nG (j.Grades.flatMap gradeC) ∧ nG = j.Grades.length ∧
      ∀ W' g cap y, W'.ownsRow B 63 5 (.slice g (nG + 1) cap) (nG + 1) (j.Grades.flatMap gradeC ++ gradeC y) → W.grownBy W' (Value.slice aG nG eG).ownBlock →
        JobOwn W' B (.agg #[.slice aE nE eE, .slice aL nL eL, .slice g (nG + 1) cap, .int .i64 F, .int .i64 O]) (easier j y) ∧ (∀ g c, Box W g 36 c → Box W' g 36 c) ∧ Below B W W' := by
  obtain ⟨AE, cE, AL, cL, AG, cG, ls, e1, h1, h2, h3, h4, h5⟩ := hj
  simp only [Value.agg.injEq, Array.mk.injEq, List.cons.injEq, Value.slice.injEq, Value.int.injEq, and_true, true_and] at e1
  obtain ⟨⟨rfl, rfl, rfl⟩, ⟨rfl, rfl, rfl⟩, ⟨rfl, rfl, rfl⟩, rfl, rfl⟩ := e1
  refine ⟨h5, rfl, fun W' g cap y ho hg => ⟨⟨aE, eE, aL, eL, g, cap, ls, by simp [easier], h1, own_other h2 h5 (by decide) hg, own_other h3 h5 (by decide) hg, fun x hx => ⟨own_other (h4 x hx).1 h5 (by decide) hg, own_other (h4 x hx).2 h5 (by decide) hg⟩, ?_⟩, fun g c hx => own_box hx h5 (by decide) hg, below_grown (Below.refl _ _) h5 hg hW⟩⟩
  show W'.ownsRow B 63 5 (.slice g (j.Grades ++ [y]).length cap) (j.Grades ++ [y]).length ((j.Grades ++ [y]).flatMap gradeC)
  rw [List.flatMap_append]
  simpa using ho

theorem JobOwn.nums {W : World} {B : Nat} {a b c : Value} {F O F' O' : Int} {j : Job} (h : JobOwn W B (.agg #[a, b, c, .int .i64 F, .int .i64 O]) j) : JobOwn W B (.agg #[a, b, c, .int .i64 F', .int .i64 O']) ⟨j.Ends, j.Loads, j.Grades, F', O'⟩ ∧ F = j.Factor ∧ O = j.Over := by
  obtain ⟨AE, cE, AL, cL, AG, cG, ls, e1, h⟩ := h
  simp only [Value.agg.injEq, Array.mk.injEq, List.cons.injEq, Value.int.injEq, and_true, true_and] at e1
  obtain ⟨rfl, rfl, rfl, rfl, rfl⟩ := e1
  exact ⟨⟨AE, cE, AL, cL, AG, cG, ls, rfl, h⟩, rfl, rfl⟩

theorem first_grade {W : World} {B nE nL nG eE eL eG : Nat} {aE aL aG : Option Addr} {F O : Int} {k : Job} (h : JobOwn W B (.agg #[.slice aE nE eE, .slice aL nL eL, .slice aG nG eG, .int .i64 F, .int .i64 O]) k) (h0 : 0 < k.Grades.length) :
    ∃ b off, aG = some ⟨b, off, none⟩ ∧ b < W.heap.size ∧ W.cell? ⟨b, off, none⟩ = some (.int .i64 (gd k.Grades 0).Burst) ∧ W.cell? ⟨b, off + 1, none⟩ = some (.int .i64 (gd k.Grades 0).Collapse) ∧ W.cell? ⟨b, off + 2, none⟩ = some (.int .i64 (gd k.Grades 0).Pull) ∧ W.cell? ⟨b, off + 3, none⟩ = some (.int .i64 (gd k.Grades 0).Weight) ∧ W.cell? ⟨b, off + 4, none⟩ = some (.int .i64 (gd k.Grades 0).Cost) := by
  obtain ⟨AE, cE, AL, cL, AG, cG, e1, _, _, _, hG⟩ := h.job
  simp only [Value.agg.injEq, Array.mk.injEq, List.cons.injEq, Value.slice.injEq, Value.int.injEq, and_true, true_and] at e1
  obtain ⟨⟨rfl, rfl, rfl⟩, ⟨rfl, rfl, rfl⟩, ⟨rfl, rfl, rfl⟩, rfl, rfl⟩ := e1
  obtain ⟨b, off, rfl, hb, hc⟩ := hG h0
  obtain ⟨c0, c1, c2, c3, c4⟩ := hc 0 h0
  simp only [Nat.zero_mul, Nat.add_zero] at c0 c1 c2 c3 c4
  exact ⟨b, off, rfl, hb, c0, c1, c2, c3, c4⟩

/-- both jobs of the law, each in its block -/
structure MoreS (w0 : World) (g4 g5 : Nat) (c4 c5 : Array Value) (j k : Job) (W : World) : Prop where
  ij : JobIs W w0.heap.size g4 c4 j
  ik : JobIs W w0.heap.size g5 c5 k
  low : Below w0.heap.size w0 W
theorem MoreS.under {w0 W W' : World} {g4 g5 : Nat} {c4 c5 : Array Value} {j k : Job} (h : MoreS w0 g4 g5 c4 c5 j k W) (hb : Below W.heap.size W W') : MoreS w0 g4 g5 c4 c5 j k W' := ⟨h.ij.under hb, h.ik.under hb, h.low.trans (hb.mono h.low.size)⟩

/-- the harder job -/
def hardOf (j k : Job) (f o : Int) : Job := ⟨j.Ends, j.Loads ++ k.Loads, j.Grades, j.Factor + f % 1000, j.Over + o % 1073741824⟩
theorem hard_harder {j k : Job} (hj : Made j) (f o : Int) : Harder j (hardOf j k f o) := by
  have G := checkJob_good hj.ok
  have h1 := G.factor
  have h2 := hj.factor
  exact ⟨rfl, rfl, fun l hl => by simp [hardOf, hl], h1.1, by simp only [hardOf]; omega, by simp only [hardOf]; omega, by simp only [hardOf]; omega⟩
theorem hard_said {j k : Job} (hj : Made j) (f o : Int) {b : List Int} (hc : chooseOf (hardOf j k f o) = some b) : ∃ a, chooseOf j = some a ∧ cost j a ≤ cost (hardOf j k f o) b := more_hard (hard_harder hj f o) hj.ok hc
theorem easy_said {j k : Job} (hj : Made j) (hk : Made k) {a : List Int} (ha : chooseOf j = some a) : ∃ c, chooseOf (easier j (gd k.Grades 0)) = some c ∧ cost (easier j (gd k.Grades 0)) c ≤ cost j a :=
  more_easy hj.ok (by have := hj.grades; omega) ((checkJob_good hk.ok).fair 0 (checkJob_good hk.ok).gpos) ha

end Go.Proofs.Ytannipfohicpmaa
