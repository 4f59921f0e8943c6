/- Walks of the package fluid: which columns are valid. -/
import Derived.Test.YtnhnheigdlnokaaFHeight2
namespace Go.Proofs.Ytnhnheigdlnokaa
open Go.RowKit Go.Shelf Mpl

/-! ### slugs in memory -/
def slugC (s : Slug) : List Value := [.int .i64 s.Weight, .int .i64 s.Volume]
def Slugs (w : World) (B : Nat) (A : Option Addr) (l : List Slug) : Prop :=
  0 < l.length → ∃ b off, A = some ⟨b, off, none⟩ ∧ b < B ∧ ∀ i, i < l.length → w.cell? ⟨b, off + i * 2, none⟩ = some (.int .i64 (slg l i).Weight) ∧ w.cell? ⟨b, off + i * 2 + 1, none⟩ = some (.int .i64 (slg l i).Volume)
theorem Slugs.up {w w' : World} {B B' : Nat} {A : Option Addr} {l : List Slug} (h : Slugs w B A l) (hb : Below B w w') (hB : B ≤ B') : Slugs w' B' A l := fun h0 => by
  obtain ⟨b, off, rfl, hlt, hc⟩ := h h0
  exact ⟨b, off, rfl, Nat.lt_of_lt_of_le hlt hB, fun i hi => ⟨oldCell hb hlt (hc i hi).1, oldCell hb hlt (hc i hi).2⟩⟩
theorem Slugs.below {w w' : World} {A : Option Addr} {l : List Slug} (h : Slugs w w.heap.size A l) (hb : Below w.heap.size w w') : Slugs w' w'.heap.size A l := h.up hb hb.size
def SlugIn (s : Slug) : Prop := inI64 s.Weight ∧ inI64 s.Volume
def SlugsIn (l : List Slug) : Prop := ∀ i, SlugIn (slg l i)

theorem fill_step (l : List Slug) (left : Int) (k : Nat) (hk : k < l.length) : fill left (l.drop k) = if left < (slg l k).Volume then 5 else fill (left - (slg l k).Volume) (l.drop (k + 1)) := by
  rw [List.drop_eq_getElem_cons hk, fill]
  simp [slg, hk]
theorem slugs_bad (room : Int) (l : List Slug) (h0 : 0 < l.length) (h24 : l.length ≤ 24) {k : Nat} (hk : k < l.length) (h : fairSlug (slg l k) = false) : checkSlugs room l = 2 := by
  unfold checkSlugs
  rw [if_neg (by omega), if_neg (by omega), if_pos]
  rw [List.any_eq_true]
  exact ⟨l[k], List.getElem_mem hk, by simpa [slg, hk] using h⟩
theorem slugs_good (room : Int) (l : List Slug) (h0 : 0 < l.length) (h24 : l.length ≤ 24) (h : ∀ i, i < l.length → fairSlug (slg l i) = true) : checkSlugs room l = fill room l := by
  unfold checkSlugs
  rw [if_neg (by omega), if_neg (by omega), if_neg]
  rw [(any_slug l).2 fun i hi => by have := h i hi; simpa [fairSlug, within] using this]
  simp

set_option maxHeartbeats 4000000 in
set_option maxRecDepth 100000 in
theorem CheckColumn_walk (h : List Seg) (l : List Slug) (vh : Value) (b off c : Nat) (w : World) (hg : GoodHole h) (hb : b < w.heap.size)
    (hch : ∀ W, Below w.heap.size w W → Calls Try.prog 9 #[vh] W fun e W' => e = .returned (.int .i64 0) ∧ Below W.heap.size W W')
    (hvol : ∀ W, Below w.heap.size w W → Calls Try.prog 10 #[vh] W fun e W' => e = .returned (.int .i64 (sizeUp h h.length)) ∧ Below W.heap.size W W')
    (hc : ∀ i, i < l.length → w.cell? ⟨b, off + i * 2, none⟩ = some (.int .i64 (slg l i).Weight) ∧ w.cell? ⟨b, off + i * 2 + 1, none⟩ = some (.int .i64 (slg l i).Volume))
    (h0 : 0 < l.length) (h24 : l.length ≤ 24) (hin : SlugsIn l) (hvh : ∃ A n c', vh = .agg #[.slice A n c']) :
    Calls Try.prog 11 #[vh, .slice (some ⟨b, off, none⟩) l.length c] w fun e w' => e = .returned (.int .i64 (checkSlugs (sizeUp h h.length) l)) ∧ Below w.heap.size w w' := by
  obtain ⟨A, nh, ch, rfl⟩ := hvh
  have HC := Lib.hid hc
  have HCH := Lib.hid hch
  have HVO := Lib.hid hvol
  have HIN := Lib.hid hin
  have HBAD := Lib.hid (fun k hk hf => slugs_bad (sizeUp h h.length) l h0 h24 (k := k) hk hf)
  have HGOOD := Lib.hid (slugs_good (sizeUp h h.length) l h0 h24)
  have hr := hg.ups h.length (Nat.le_refl _)
  have hr0 : 0 ≤ sizeUp h h.length := by omega
  have hr1 : sizeUp h h.length ≤ 5242880000 := by omega
  clear hc hch hvol hin hr hg
  generalize sizeUp h h.length = room at *
  generalize hres : checkSlugs room l = res at *
  clear hres
  generalize hn : l.length = n at *
  have HN := Lib.hid hn
  clear hn
  have hz : ((n : Int) == 0) = false := beq_eq_false_iff_ne.2 (by omega)
  have hz2 : decide ((24 : Int) < (n : Int)) = false := decide_eq_false (by omega)
  have b0 : Box (w.alloc (.cells #[.slice A nh ch] 27)) w.heap.size 27 #[.slice A nh ch] := Box.new _ _ _ rfl
  have hB0 : Below w.heap.size w (w.alloc (.cells #[.slice A nh ch] 27)) := (Below.refl _ _).alloc (Nat.le_refl _) _
  have B0 := Lib.hid b0
  have HB0 := Lib.hid hB0
  clear b0 hB0
  go_enter Try.func11, Try.ntmps11
  go_wp2_with fail
  refine (HCH.out _ HB0.out).mono ?_
  rintro e w1 ⟨rfl, hb1⟩
  have B1 := Lib.hid (B0.out.under hb1)
  have HB1 := Lib.hid (HB0.out.trans (hb1.mono HB0.out.size))
  clear hb1
  go_wp2_with fail
  go_loopw [27] (fun s27 wr => ∃ k : Nat, k ≤ n ∧ s27 = .int .i64 k ∧ Hid (∀ i, i < k → fairSlug (slg l i) = true) ∧ Hid (Below w1.heap.size w1 wr)) (fun s27 _ => n - (intOf s27).toNat)
  case atStart => exact ⟨0, Nat.zero_le _, rfl, fun i hi => absurd hi (by omega), Below.refl _ _⟩
  case round =>
    obtain ⟨k, hk, rfl, hf, BW1⟩ := hrel
    have BW := Lib.hid (HB1.out.trans (BW1.out.mono HB1.out.size))
    have hsz := BW.out.size
    by_cases hlt : k < n
    · obtain ⟨c0, c1⟩ := HC.out k hlt
      have d0 := oldCell BW.out hb c0
      have d1 := oldCell BW.out hb c1
      clear c0 c1
      have hbad := Lib.hid (HBAD.out k hlt)
      have hx : Hid (fairSlug (slg l k) = true → (∀ i, i < k + 1 → fairSlug (slg l i) = true)) := fun h i hi => by
        by_cases e : i = k
        · rw [e]; exact h
        · exact hf.out i (by omega)
      have hfs : Hid (fairSlug (slg l k) = (within (slg l k).Weight 0 40000 && decide (1 ≤ (slg l k).Volume))) := rfl
      generalize slg l k = s at *
      cases h1 : within s.Weight 0 40000
      · have hr2 := Lib.hid (hbad.out (by rw [hfs.out, h1]; rfl))
        clear hx hfs hbad
        go_wp2_with (go_at_call 12; refine (fluid_within _ _ _ _).mono ?_; rintro e w' ⟨rfl, rfl⟩)
        go_ret
        exact ⟨ret_int hr2.out.symm, BW.out.alloc hsz _⟩
      · by_cases h2 : 1 ≤ s.Volume
        · have HX := Lib.hid (hx.out (by rw [hfs.out, h1, decide_eq_true h2]; rfl))
          have hd : decide (s.Volume < 1) = false := decide_eq_false (by omega)
          clear hx hfs hbad
          go_wp2_with (go_at_call 12; refine (fluid_within _ _ _ _).mono ?_; rintro e w' ⟨rfl, rfl⟩)
          go_roundw
          case rel => exact ⟨k + 1, hlt, by go_num, HX, BW1.out.alloc BW1.out.size _⟩
          case measure => simp [intOf]; omega
        · have hr2 := Lib.hid (hbad.out (by rw [hfs.out, h1, decide_eq_false h2]; rfl))
          have hd : decide (s.Volume < 1) = true := decide_eq_true (by omega)
          clear hx hfs hbad
          go_wp2_with (go_at_call 12; refine (fluid_within _ _ _ _).mono ?_; rintro e w' ⟨rfl, rfl⟩)
          go_ret
          exact ⟨ret_int hr2.out.symm, BW.out.alloc hsz _⟩
    · obtain rfl : k = n := by omega
      have hfill := Lib.hid (HGOOD.out hf.out)
      have q0 := hole_load (B1.out.under BW1.out)
      go_wp2_with fail
      refine (HVO.out _ BW.out).mono ?_
      rintro e w2 ⟨rfl, hb2⟩
      have HB2 := Lib.hid (BW.out.trans (hb2.mono BW.out.size))
      clear hb2 q0
      go_wp2_with fail
      go_loopw [9, 45] (fun s9 s45 wx => ∃ (t : Nat) (left : Int), t ≤ k ∧ s45 = .int .i64 t ∧ s9 = .int .i64 left ∧ Hid (0 ≤ left ∧ left ≤ 5242880000) ∧ Hid (fill left (l.drop t) = res) ∧ Hid (Below w.heap.size w wx)) (fun _ s45 _ => k - (intOf s45).toNat)
      case atStart => exact ⟨0, room, Nat.zero_le _, rfl, rfl, ⟨hr0, hr1⟩, by unfold Hid; rw [hfill.out, List.drop_zero], HB2⟩
      case round =>
        obtain ⟨t, left, ht, rfl, rfl, hl, hfl, BX⟩ := hrel
        have hsx := BX.out.size
        obtain ⟨hl0, hl1⟩ := hl.out
        by_cases hlt2 : t < k
        · obtain ⟨c0, c1⟩ := HC.out t hlt2
          have d0 := oldCell BX.out hb c0
          have d1 := oldCell BX.out hb c1
          have hst := Lib.hid (fill_step l left t (by rw [HN.out]; exact hlt2))
          have hv1 : 1 ≤ (slg l t).Volume := by
            have := hf.out t hlt2
            simp [fairSlug] at this
            exact this.2
          clear c0 c1
          generalize slg l t = s at *
          by_cases h1 : left < s.Volume
          · have hd : decide (left < s.Volume) = true := decide_eq_true h1
            have hr2 := Lib.hid (show res = 5 by rw [← hfl.out, hst.out, if_pos h1])
            go_wp2_with fail
            go_ret
            exact ⟨ret_int hr2.out.symm, BX.out.alloc hsx _⟩
          · have hd : decide (left < s.Volume) = false := decide_eq_false h1
            have hr2 := Lib.hid (show fill (left - s.Volume) (l.drop (t + 1)) = res by rw [← hfl.out, hst.out, if_neg h1])
            go_wp2_with fail
            go_roundw
            case rel => exact ⟨t + 1, left - s.Volume, hlt2, by go_num, rfl, ⟨by omega, by omega⟩, hr2, BX.out.alloc hsx _⟩
            case measure => simp [intOf]; omega
        · have hr2 := Lib.hid (show res = if 0 < left then 6 else 0 by rw [← hfl.out, List.drop_eq_nil_of_le (by rw [HN.out]; omega), fill])
          by_cases h1 : 0 < left
          · have hd : decide (0 < left) = true := decide_eq_true h1
            rw [if_pos h1] at hr2
            go_wp2_with fail
            go_ret
            exact ⟨ret_int hr2.out.symm, BX.out⟩
          · have hd : decide (0 < left) = false := decide_eq_false h1
            rw [if_neg h1] at hr2
            go_wp2_with fail
            go_ret
            exact ⟨ret_int hr2.out.symm, BX.out⟩

set_option maxHeartbeats 1000000 in
theorem fluid_CheckColumn (vh : Value) (h : List Seg) (l : List Slug) (A : Option Addr) (c : Nat) (w : World) (hv : HoleV w w.heap.size vh h) (hin : SegsIn h) (hm : h.length ≤ maxLen) (hl : Slugs w w.heap.size A l) (hlin : SlugsIn l) (hlm : l.length ≤ maxLen) :
    Calls Try.prog 11 #[vh, .slice A l.length c] w fun e w' => e = .returned (.int .i64 (checkColumn h l)) ∧ Below w.heap.size w w' := by
  have hvv := hv
  obtain ⟨AH, cH, rfl, hS⟩ := hv
  unfold maxLen at hlm
  have hdef : Hid (checkColumn h l = if checkHole h ≠ 0 then checkHole h else checkSlugs (sizeUp h h.length) l) := rfl
  have HCH := Lib.hid (fun W (hW : Below w.heap.size w W) => fluid_CheckHole _ h W (hvv.up hW hW.size) hin hm)
  by_cases h0 : checkHole h = 0
  · have hg := (checkHole_iff h).1 h0
    rw [if_neg (by simpa using h0)] at hdef
    rw [h0] at HCH
    by_cases h1 : l.length = 0
    · have hr : Hid (checkColumn h l = 6) := by unfold Hid; rw [hdef.out, checkSlugs, if_pos h1]
      rw [h1]
      have hz : (((0 : Nat) : Int) == 0) = true := by simp
      have hB := Lib.hid ((Below.refl w.heap.size w).alloc (Nat.le_refl _) (.cells #[.slice AH h.length cH] 27))
      clear h1 hdef h0 hg hvv hS hin hl hlin
      generalize h.length = n at *
      go_enter Try.func11, Try.ntmps11
      go_wp2_with fail
      refine (HCH.out _ hB.out).mono ?_
      rintro e w1 ⟨rfl, hb1⟩
      go_wp2_with fail
      go_ret
      exact ⟨ret_int hr.out.symm, hB.out.trans (hb1.mono hB.out.size)⟩
    · by_cases h2 : 24 < l.length
      · have hr : Hid (checkColumn h l = 8) := by unfold Hid; rw [hdef.out, checkSlugs, if_neg h1, if_pos h2]
        have hB := Lib.hid ((Below.refl w.heap.size w).alloc (Nat.le_refl _) (.cells #[.slice AH h.length cH] 27))
        clear hdef h0 hg hvv hS hin hl hlin
        generalize h.length = n at *
        generalize l.length = m at *
        have hz : ((m : Int) == 0) = false := beq_eq_false_iff_ne.2 (by omega)
        have hz2 : decide ((24 : Int) < (m : Int)) = true := decide_eq_true (by omega)
        go_enter Try.func11, Try.ntmps11
        go_wp2_with fail
        refine (HCH.out _ hB.out).mono ?_
        rintro e w1 ⟨rfl, hb1⟩
        go_wp2_with fail
        go_ret
        exact ⟨ret_int hr.out.symm, hB.out.trans (hb1.mono hB.out.size)⟩
      · obtain ⟨b, off, rfl, hb, hc⟩ := hl (by omega)
        have := CheckColumn_walk h l _ b off c w hg hb HCH.out (fun W hW => fluid_volume _ h W (hvv.up hW hW.size) hg) hc (by omega) (by omega) hlin ⟨_, _, _, rfl⟩
        rw [← hdef.out] at this
        exact this
  · rw [if_pos h0] at hdef
    have hz : (checkHole h != 0) = true := by simpa using h0
    have hB := Lib.hid ((Below.refl w.heap.size w).alloc (Nat.le_refl _) (.cells #[.slice AH h.length cH] 27))
    clear h0 hvv hS hin hl hlin
    generalize checkHole h = ch at *
    generalize h.length = n at *
    generalize l.length = m at *
    go_enter Try.func11, Try.ntmps11
    go_wp2_with fail
    refine (HCH.out _ hB.out).mono ?_
    rintro e w1 ⟨rfl, hb1⟩
    go_wp2_with fail
    go_ret
    exact ⟨ret_int hdef.out.symm, hB.out.trans (hb1.mono hB.out.size)⟩

end Go.Proofs.Ytnhnheigdlnokaa
