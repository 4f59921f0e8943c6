/- Walks of the package fluid: pumping. -/
import Derived.Test.YtkommjjpaklenaaFPlain
import Derived.Test.YtkommjjpaklenaaFVolume
import Derived.Deep.AppendLies
import Derived.Deep.DeepCutAuto
namespace Go.Proofs.Ytkommjjpaklenaa
open Go.RowKit Go.Shelf Mpl

theorem own_keep {W W' : World} {base : Nat} {e : TypeId} {size : Nat} {v : Value} {n : Nat} {xs : List Value} {row : Option Nat} (h : W.ownsRow base e size v n xs) (hg : W.grownBy W' row) (hne : v.ownBlock = none ∨ v.ownBlock ≠ row) : W'.ownsRow base e size v n xs := by
  obtain ⟨h1, h2⟩ := h
  refine ⟨h1, ?_⟩
  rcases h2 with h2 | ⟨g, cap, cur, hv, hgg, hh, r⟩
  · exact .inl h2
  · refine .inr ⟨g, cap, cur, hv, hgg, (hg.block g (Array.getElem?_eq_some_iff.1 hh).1 ?_).trans hh, r⟩
    rcases hne with h | h
    · rw [hv] at h; cases h
    · rw [hv] at h; exact h

/-- two columns of the call's own, in blocks apart -/
structure Rows2 (W : World) (base : Nat) (vn vo : Value) (na no : List Slug) : Prop where
  o1 : W.ownsRow base 39 2 vn na.length (na.flatMap slugC)
  o2 : W.ownsRow base 39 2 vo no.length (no.flatMap slugC)
  ne : vn.ownBlock = none ∨ vo.ownBlock = none ∨ vn.ownBlock ≠ vo.ownBlock
theorem Rows2.swap {W : World} {base : Nat} {vn vo : Value} {na no : List Slug} (h : Rows2 W base vn vo na no) : Rows2 W base vo vn no na := ⟨h.o2, h.o1, by rcases h.ne with h | h | h <;> simp_all [eq_comm]⟩
theorem Rows2.under {W W' : World} {base : Nat} {vn vo : Value} {na no : List Slug} (h : Rows2 W base vn vo na no) (hb : Below W.heap.size W W') : Rows2 W' base vn vo na no := ⟨own_under h.o1 hb, own_under h.o2 hb, h.ne⟩
theorem Rows2.far {W : World} {base : Nat} {vn vo : Value} {na no : List Slug} (h : Rows2 W base vn vo na no) {p : Addr} (hp : p.block < base) (u : Value) : Rows2 (W.setCell p u) base vn vo na no := ⟨own_far h.o1 hp u, own_far h.o2 hp u, h.ne⟩
theorem Rows2.push {W W' : World} {base g cap : Nat} {vn vo : Value} {na no : List Slug} {x : Slug} (h : Rows2 W base vn vo na no) (ho : W'.ownsRow base 39 2 (.slice (some ⟨g, 0, none⟩) (na.length + 1) cap) (na.length + 1) (na.flatMap slugC ++ slugC x)) (hg : W.grownBy W' vn.ownBlock) (hat : vn.ownBlock = some g ∨ g = W.heap.size) :
    Rows2 W' base (.slice (some ⟨g, 0, none⟩) (na.length + 1) cap) vo (na ++ [x]) no := by
  have hlt := own_lt h.o2
  refine ⟨by rw [List.flatMap_append, List.length_append]; simpa using ho, own_keep h.o2 hg ?_, ?_⟩
  · rcases h.ne with h1 | h1 | h1
    · by_cases h2 : vo.ownBlock = none
      · exact .inl h2
      · right; rw [h1]; exact h2
    · exact .inl h1
    · exact .inr fun e => h1 e.symm
  · right
    by_cases h2 : vo.ownBlock = none
    · exact .inl h2
    · right
      intro e
      have e' : vo.ownBlock = some g := e.symm
      rcases hat with h3 | h3
      · rcases h.ne with h4 | h4 | h4
        · rw [h3] at h4; cases h4
        · exact h2 h4
        · exact h4 (h3.trans e'.symm)
      · have := hlt g e'
        omega

set_option maxHeartbeats 4000000 in
set_option maxRecDepth 100000 in
theorem fluid_Pump1 (x : Slug) (gr : Nat) (room : Int) (vn vo : Value) (na no : List Slug) (base B : Nat) (W : World) (gn gO : Nat)
    (br : Box W gr 2 #[.int .i64 room]) (bn : Box W gn 30 #[vn]) (bo : Box W gO 30 #[vo]) (hR : Rows2 W base vn vo na no)
    (h1 : gn < base) (h2 : gO < base) (h3 : gr < base) (n1 : gn ≠ gO) (n2 : gn ≠ gr) (n3 : gO ≠ gr) (hB1 : B ≤ gn) (hB2 : B ≤ gO) (hB3 : B ≤ gr) (hbs : base ≤ W.heap.size)
    (r0 : 0 ≤ room) (r1 : room ≤ 1099511627776) (x0 : 0 ≤ x.Volume) (x1 : x.Volume ≤ 1099511627776) (hn1 : na.length ≤ 1000) (hn2 : no.length ≤ 1000) :
    Calls Try.prog 85 #[slugV x, .pointer (some ⟨gr, 0, none⟩), .pointer (some ⟨gn, 0, none⟩), .pointer (some ⟨gO, 0, none⟩)] W fun e W' => (∃ v, e = .returned v) ∧ ∃ vn' vo', Box W' gr 2 #[.int .i64 (room - min room x.Volume)] ∧ Box W' gn 30 #[vn'] ∧ Box W' gO 30 #[vo'] ∧
      Rows2 W' base vn' vo' (na ++ [⟨x.Weight, min room x.Volume⟩]) (no ++ [⟨x.Weight, x.Volume - min room x.Volume⟩]) ∧ Below B W W' ∧ base ≤ W'.heap.size := by
  obtain ⟨i0, hi0, hz0, hz1, hz2⟩ := info_parts info_Slug
  obtain ⟨mn, hmn⟩ : ∃ mn, (if x.Volume < room then x.Volume else room) = mn := ⟨_, rfl⟩
  have hmn2 : min room x.Volume = mn := by rw [← hmn]; split <;> omega
  rw [hmn2]
  have m0 : 0 ≤ mn := by omega
  have m1 : mn ≤ room := by omega
  have m2 : mn ≤ x.Volume := by omega
  unfold slugV
  clear hmn2
  generalize x.Weight = xw at *
  generalize x.Volume = xv at *
  have hv1 : Hid (vn.ownBlock ≠ some W.heap.size) := fun e => by have := own_lt hR.o1 _ e; omega
  have hv2 : Hid (vo.ownBlock ≠ some W.heap.size) := fun e => by have := own_lt hR.o2 _ e; omega
  have nb1 : Hid (∀ k, k < base → vn.ownBlock ≠ some k) := fun k hk he => by
    rcases hR.o1.2 with ⟨h, _⟩ | ⟨g', _, _, h, hg', _⟩
    · rw [h] at he; simp [Value.ownBlock] at he
    · rw [h] at he
      have : g' = k := by simpa [Value.ownBlock] using he
      omega
  have nb2 : Hid (∀ k, k < base → vo.ownBlock ≠ some k) := fun k hk he => by
    rcases hR.o2.2 with ⟨h, _⟩ | ⟨g', _, _, h, hg', _⟩
    · rw [h] at he; simp [Value.ownBlock] at he
    · rw [h] at he
      have : g' = k := by simpa [Value.ownBlock] using he
      omega
  obtain ⟨w0, hw0⟩ : ∃ w0, W.alloc (.cells #[.int .i64 xw, .int .i64 xv] 39) = w0 := ⟨_, rfl⟩
  have ha : Below W.heap.size W w0 := by rw [← hw0]; exact (Below.refl _ _).alloc (Nat.le_refl _) _
  have BX := Lib.hid (show Box w0 W.heap.size 39 #[.int .i64 xw, .int .i64 xv] by rw [← hw0]; exact Box.new _ _ _ rfl)
  have BR := Lib.hid (br.under ha)
  have BN := Lib.hid (bn.under ha)
  have BO := Lib.hid (bo.under ha)
  have RR := Lib.hid (hR.under ha)
  have HB := Lib.hid (ha.mono (show B ≤ W.heap.size by omega))
  have hs0 : w0.heap.size = W.heap.size + 1 := by rw [← hw0]; simp
  have HW0 := Lib.hid hw0
  have HS0 := Lib.hid hs0
  have hltr := br.lt
  have hltn := bn.lt
  have hlto := bo.lt
  clear hw0 ha hs0 br bn bo hR
  have q0 : w0.cell? ⟨gr, 0, none⟩ = some (.int .i64 room) := BR.out.cell 0
  have q1 : w0.cell? ⟨W.heap.size, 1, none⟩ = some (.int .i64 xv) := BX.out.cell 1
  have f0 := BR.out.frozen 0
  go_enter Try.func85, Try.ntmps85
  go_upto_region 1 with fail
  rw [HW0.out]
  go_upto_region 2 with fail
  obtain ⟨w1, hw1⟩ : ∃ w1, w0.setCell ⟨gr, 0, none⟩ (.int .i64 (room - mn)) = w1 := ⟨_, rfl⟩
  have ne0 : W.heap.size ≠ gr := by omega
  have BX1 := Lib.hid (show Box w1 W.heap.size 39 #[.int .i64 xw, .int .i64 xv] by rw [← hw1]; exact BX.out.far (by simpa using ne0) _)
  have BR1 := Lib.hid (show Box w1 gr 2 #[.int .i64 (room - mn)] by rw [← hw1]; simpa using BR.out.set_ 0 (.int .i64 (room - mn)))
  have BN1 := Lib.hid (show Box w1 gn 30 #[vn] by rw [← hw1]; exact BN.out.far (by simpa using n2) _)
  have BO1 := Lib.hid (show Box w1 gO 30 #[vo] by rw [← hw1]; exact BO.out.far (by simpa using n3) _)
  have RR1 := Lib.hid (show Rows2 w1 base vn vo na no by rw [← hw1]; exact RR.out.far (by simpa using h3) _)
  have HB1 := Lib.hid (show Below B W w1 by rw [← hw1]; exact HB.out.setCell (p := ⟨gr, 0, none⟩) (by simpa using hB3) _)
  have hs1 : w1.heap.size = W.heap.size + 1 := by rw [← hw1]; simpa using HS0.out
  have HW1 := Lib.hid hw1
  have HS1 := Lib.hid hs1
  clear hw1 BX BR BN BO RR HB HS0 HW0
  have y0 : w1.cell? ⟨gn, 0, none⟩ = some vn := BN1.out.cell 0
  have y1 : w1.cell? ⟨W.heap.size, 0, none⟩ = some (.int .i64 xw) := BX1.out.cell 0
  have l1 : W.heap.size < w1.heap.size := by omega
  clear hs1
  go_upto_region 3 with fail
  rw [HW1.out]
  clear q0 q1 f0
  go_wp2_with (at_builtin; refine wpList_append_lies _ rfl _ _ 30 rfl base 39 i0 (.agg #[.int .i64 0, .int .i64 0]) 2 16 Try.underlying30 hi0 hz0 hz1 hz2 rfl (by decide) vn na.length (na.flatMap slugC) rfl (RR1.out.o1.alloc _) ⟨w1.heap.size, 0, none⟩ 1 1 (slugC ⟨xw, mn⟩) rfl rfl ?_ ?_ ?_ ?_ ?_ ?_ (w1.heap.size + 1) ?_ ?_)
  · exact cells_new w1 (slugC ⟨xw, mn⟩) 39
  · simp [slugC, Value.oneCell']
  · omega
  · unfold maxLen; omega
  · omega
  · simp; omega
  · simp
  intro g cap w2 hown2 hg2 hat2 hlt2
  have hba : Below w1.heap.size w1 (w1.alloc (.cells #[.int .i64 xw, .int .i64 mn] 39)) := (Below.refl _ _).alloc (Nat.le_refl _) _
  have hs1 := HS1.out
  have hsa : (w1.alloc (.cells #[.int .i64 xw, .int .i64 mn] 39)).heap.size = w1.heap.size + 1 := by simp
  have RR2 := Lib.hid ((RR1.out.under hba).push hown2 hg2 (by rw [hsa]; exact hat2))
  have BX2 := Lib.hid ((BX1.out.under hba).grownRow hg2 hv1.out)
  have BR2 := Lib.hid ((BR1.out.under hba).grownRow hg2 (nb1.out _ h3))
  have BN2 := Lib.hid ((BN1.out.under hba).grownRow hg2 (nb1.out _ h1))
  have BO2 := Lib.hid ((BO1.out.under hba).grownRow hg2 (nb1.out _ h2))
  have HB2 := Lib.hid (below_grown (HB1.out.trans (hba.mono (by have := HB1.out.size; omega))) (own_le (RR1.out.under hba).o1 (show B ≤ base by omega)) hg2 (by simp; omega))
  have hs2 := hg2.size
  have HS2 := Lib.hid (show base ≤ w2.heap.size ∧ W.heap.size + 1 ≤ w2.heap.size by simp at hs2; omega)
  obtain ⟨w3, hw3⟩ : ∃ w3, w2.setCell ⟨gn, 0, none⟩ (.slice (some ⟨g, 0, none⟩) (na.length + 1) cap) = w3 := ⟨_, rfl⟩
  have neX : W.heap.size ≠ gn := by omega
  have BX3 := Lib.hid (show Box w3 W.heap.size 39 #[.int .i64 xw, .int .i64 xv] by rw [← hw3]; exact BX2.out.far (by simpa using neX) _)
  have BR3 := Lib.hid (show Box w3 gr 2 #[.int .i64 (room - mn)] by rw [← hw3]; exact BR2.out.far (by simpa using n2.symm) _)
  have BN3 := Lib.hid (show Box w3 gn 30 #[.slice (some ⟨g, 0, none⟩) (na.length + 1) cap] by rw [← hw3]; simpa using BN2.out.set_ 0 (.slice (some ⟨g, 0, none⟩) (na.length + 1) cap))
  have BO3 := Lib.hid (show Box w3 gO 30 #[vo] by rw [← hw3]; exact BO2.out.far (by simpa using n1.symm) _)
  have RR3 := Lib.hid (show Rows2 w3 base (.slice (some ⟨g, 0, none⟩) (na.length + 1) cap) vo (na ++ [⟨xw, mn⟩]) no by rw [← hw3]; exact RR2.out.far (by simpa using h1) _)
  have HB3' := Lib.hid (show Below B W w3 by rw [← hw3]; exact HB2.out.setCell (p := ⟨gn, 0, none⟩) (by simpa using hB1) _)
  have HS3 := Lib.hid (show base ≤ w3.heap.size ∧ W.heap.size + 1 ≤ w3.heap.size by rw [← hw3]; simpa using HS2.out)
  have HW3 := Lib.hid hw3
  have k0 := BN2.out.cell 0
  have k1 := BN2.out.frozen 0
  simp only [List.getElem?_toArray, List.getElem?_cons_zero] at k0
  clear hw3 hown2 hg2 hat2 hba hs1 hsa hs2 BX1 BR1 BN1 BO1 RR1 BX2 BR2 BN2 BO2 RR2 HB1 HB2 y0 y1 l1
  have y0 : w3.cell? ⟨gO, 0, none⟩ = some vo := BO3.out.cell 0
  have y1 : w3.cell? ⟨W.heap.size, 0, none⟩ = some (.int .i64 xw) := BX3.out.cell 0
  have y2 : w3.cell? ⟨W.heap.size, 1, none⟩ = some (.int .i64 xv) := BX3.out.cell 1
  have l1 : W.heap.size < w3.heap.size := by have := HS3.out.2; omega
  go_upto_region 4 with fail
  rw [HW3.out]
  clear k0 k1
  go_wp2_with (at_builtin; refine wpList_append_lies _ rfl _ _ 30 rfl base 39 i0 (.agg #[.int .i64 0, .int .i64 0]) 2 16 Try.underlying30 hi0 hz0 hz1 hz2 rfl (by decide) vo no.length (no.flatMap slugC) rfl (RR3.out.o2.alloc _) ⟨w3.heap.size, 0, none⟩ 1 1 (slugC ⟨xw, xv - mn⟩) rfl rfl ?_ ?_ ?_ ?_ ?_ ?_ (w3.heap.size + 1) ?_ ?_)
  · exact cells_new w3 (slugC ⟨xw, xv - mn⟩) 39
  · simp [slugC, Value.oneCell']
  · omega
  · unfold maxLen; omega
  · omega
  · have := HS3.out.1; simp; omega
  · simp
  intro g4 cap4 w4 hown4 hg4 hat4 hlt4
  have hba : Below w3.heap.size w3 (w3.alloc (.cells #[.int .i64 xw, .int .i64 (xv - mn)] 39)) := (Below.refl _ _).alloc (Nat.le_refl _) _
  have hsa : (w3.alloc (.cells #[.int .i64 xw, .int .i64 (xv - mn)] 39)).heap.size = w3.heap.size + 1 := by simp
  have RR4 := Lib.hid ((RR3.out.under hba).swap.push hown4 hg4 (by rw [hsa]; exact hat4)).swap
  have BR4 := Lib.hid ((BR3.out.under hba).grownRow hg4 (nb2.out _ h3))
  have BN4 := Lib.hid ((BN3.out.under hba).grownRow hg4 (nb2.out _ h1))
  have BO4 := Lib.hid ((BO3.out.under hba).grownRow hg4 (nb2.out _ h2))
  have hs3 := HS3.out
  have HB4 := Lib.hid (below_grown (HB3'.out.trans (hba.mono (by omega))) (own_le (RR3.out.under hba).o2 (show B ≤ base by omega)) hg4 (by simp; omega))
  have hs4 := hg4.size
  have HS4 := Lib.hid (show base ≤ w4.heap.size by simp at hs4; omega)
  have k0 := BO4.out.cell 0
  have k1 := BO4.out.frozen 0
  simp only [List.getElem?_toArray, List.getElem?_cons_zero] at k0
  clear hown4 hg4 hat4 hba hsa hs3 hs4 BX3 BR3 BN3 BO3 RR3 HB3' y0 y1 y2 l1
  go_wp2_with fail
  go_end0
  refine ⟨⟨_, rfl⟩, .slice (some ⟨g, 0, none⟩) (na.length + 1) cap, .slice (some ⟨g4, 0, none⟩) (no.length + 1) cap4, BR4.out.far (by simpa using n3.symm) _, BN4.out.far (by simpa using n1) _, ?_, RR4.out.far (by simpa using h2) _, HB4.out.setCell (p := ⟨gO, 0, none⟩) (by simpa using hB2) _, by simpa using HS4.out⟩
  simpa using BO4.out.set_ 0 (.slice (some ⟨g4, 0, none⟩) (no.length + 1) cap4)

end Go.Proofs.Ytkommjjpaklenaa
