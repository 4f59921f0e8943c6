/- Walks of the package fluid: which holes are valid. -/
import Derived.Test.YtnhnheigdlnokaaFBase
namespace Go.Proofs.Ytnhnheigdlnokaa
open Go.RowKit Go.Shelf Mpl

/-! ### segments in memory -/
def segC (s : Seg) : List Value := [.int .i64 s.Long, .int .i64 s.Rise, .int .i64 s.Area, .int .i64 s.Gap]
def Segs (w : World) (B : Nat) (A : Option Addr) (l : List Seg) : Prop :=
  0 < l.length → ∃ b off, A = some ⟨b, off, none⟩ ∧ b < B ∧ ∀ i, i < l.length → w.cell? ⟨b, off + i * 4, none⟩ = some (.int .i64 (sg l i).Long) ∧ w.cell? ⟨b, off + i * 4 + 1, none⟩ = some (.int .i64 (sg l i).Rise) ∧
    w.cell? ⟨b, off + i * 4 + 2, none⟩ = some (.int .i64 (sg l i).Area) ∧ w.cell? ⟨b, off + i * 4 + 3, none⟩ = some (.int .i64 (sg l i).Gap)
theorem Segs.up {w w' : World} {B B' : Nat} {A : Option Addr} {l : List Seg} (h : Segs w B A l) (hb : Below B w w') (hB : B ≤ B') : Segs w' B' A l := fun h0 => by
  obtain ⟨b, off, rfl, hlt, hc⟩ := h h0
  exact ⟨b, off, rfl, Nat.lt_of_lt_of_le hlt hB, fun i hi => ⟨oldCell hb hlt (hc i hi).1, oldCell hb hlt (hc i hi).2.1, oldCell hb hlt (hc i hi).2.2.1, oldCell hb hlt (hc i hi).2.2.2⟩⟩
/-- a hole as a value -/
def HoleV (w : World) (B : Nat) (v : Value) (l : List Seg) : Prop := ∃ A c, v = .agg #[.slice A l.length c] ∧ Segs w B A l
theorem HoleV.up {w w' : World} {B B' : Nat} {v : Value} {l : List Seg} (h : HoleV w B v l) (hb : Below B w w') (hB : B ≤ B') : HoleV w' B' v l := by
  obtain ⟨A, c, rfl, h1⟩ := h
  exact ⟨A, c, rfl, h1.up hb hB⟩
theorem HoleV.below {w w' : World} {v : Value} {l : List Seg} (h : HoleV w w.heap.size v l) (hb : Below w.heap.size w w') : HoleV w' w'.heap.size v l := h.up hb hb.size
theorem Segs.below {w w' : World} {A : Option Addr} {l : List Seg} (h : Segs w w.heap.size A l) (hb : Below w.heap.size w w') : Segs w' w'.heap.size A l := h.up hb hb.size

def SegIn (s : Seg) : Prop := inI64 s.Long ∧ inI64 s.Rise ∧ inI64 s.Area ∧ inI64 s.Gap
def SegsIn (l : List Seg) : Prop := ∀ i, SegIn (sg l i)

/-- what is left of the room behind k segments: nothing more once it was too little -/
def roomUp (l : List Seg) (k : Nat) : Int × Bool :=
  match k with
  | 0 => (1048576, false)
  | k + 1 => if (roomUp l k).2 then roomUp l k else if (roomUp l k).1 < (sg l k).Long then ((roomUp l k).1, true) else ((roomUp l k).1 - (sg l k).Long, false)
theorem roomUp_spec (l : List Seg) (k : Nat) (h : ∀ i, i < k → GoodSeg (sg l i)) : 0 ≤ (roomUp l k).1 ∧ (roomUp l k).1 ≤ 1048576 ∧ ((roomUp l k).2 = false → (roomUp l k).1 = 1048576 - longUp l k) ∧ ((roomUp l k).2 = true → 1048576 < longUp l k) := by
  induction k with
  | zero => simp [roomUp, longUp, sumFrom]
  | succ k ih =>
    have ih := ih fun i hi => h i (by omega)
    have hl := (h k (by omega)).long
    rw [longUp_step, roomUp]
    cases hr : (roomUp l k).2 with
    | true =>
      rw [if_pos rfl]
      refine ⟨ih.1, ih.2.1, fun h => absurd h (by rw [hr]; simp), fun _ => ?_⟩
      have := ih.2.2.2 hr
      omega
    | false =>
      rw [if_neg (by simp)]
      have e := ih.2.2.1 hr
      split
      · exact ⟨ih.1, ih.2.1, fun h => by simp at h, fun _ => by omega⟩
      · exact ⟨by simp only; omega, by simp only; omega, fun _ => by simp only; omega, fun h => by simp at h⟩

theorem seg_box {w : World} {g : Nat} {a b c d : Value} (h : Box w g 24 #[a, b, c, d]) : w.cell? ⟨g, 0, none⟩ = some a ∧ w.cell? ⟨g, 1, none⟩ = some b ∧ w.cell? ⟨g, 2, none⟩ = some c ∧ w.cell? ⟨g, 3, none⟩ = some d := ⟨h.cell 0, h.cell 1, h.cell 2, h.cell 3⟩

set_option maxHeartbeats 4000000 in
set_option maxRecDepth 100000 in
theorem CheckHole_loop (l : List Seg) (b off c : Nat) (w : World) (hb : b < w.heap.size)
    (hc : ∀ i, i < l.length → w.cell? ⟨b, off + i * 4, none⟩ = some (.int .i64 (sg l i).Long) ∧ w.cell? ⟨b, off + i * 4 + 1, none⟩ = some (.int .i64 (sg l i).Rise) ∧ w.cell? ⟨b, off + i * 4 + 2, none⟩ = some (.int .i64 (sg l i).Area) ∧ w.cell? ⟨b, off + i * 4 + 3, none⟩ = some (.int .i64 (sg l i).Gap))
    (h0 : 0 < l.length) (h16 : l.length ≤ 16) (hin : SegsIn l) :
    Calls Try.prog 9 #[.agg #[.slice (some ⟨b, off, none⟩) l.length c]] w fun e w' => e = .returned (.int .i64 (checkHole l)) ∧ Below w.heap.size w w' := by
  have HC := Lib.hid hc
  have HIN := Lib.hid hin
  have hany : (∃ i, i < l.length ∧ fairSeg (sg l i) = false) → checkHole l = 2 := fun ⟨i, hi, hf⟩ => by
    unfold checkHole
    rw [if_neg (by omega), if_neg (by omega), if_pos]
    rw [List.any_eq_true]
    exact ⟨l[i], List.getElem_mem hi, by simpa [sg, hi] using hf⟩
  have hall : (∀ i, i < l.length → fairSeg (sg l i) = true) → checkHole l = if (roomUp l l.length).2 then 5 else 0 := fun h => by
    have hg : ∀ i, i < l.length → GoodSeg (sg l i) := fun i hi => (fairSeg_iff _).1 (h i hi)
    have hs := roomUp_spec l l.length hg
    have hr := hs.1
    unfold checkHole
    rw [if_neg (by omega), if_neg (by omega), if_neg (by rw [(any_seg l).2 hg]; simp)]
    cases hb : (roomUp l l.length).2 with
    | true => rw [if_pos (hs.2.2.2 hb), if_pos rfl]
    | false => have := hs.2.2.1 hb; rw [if_neg (by omega), if_neg (by simp)]
  have HANY := Lib.hid hany
  have HALL := Lib.hid hall
  clear hc hin hany hall
  generalize hn : l.length = n at *
  have HN := Lib.hid hn
  clear hn
  generalize hres : checkHole l = res at *
  clear hres
  have hz : ((n : Int) == 0) = false := beq_eq_false_iff_ne.2 (by omega)
  have hz2 : decide ((16 : Int) < (n : Int)) = false := decide_eq_false (by omega)
  have HF := Lib.hid (fun s w => fluid_fair s w)
  unfold segV at HF
  go_enter Try.func9, Try.ntmps9
  go_wp2_with fail
  go_loopw [4, 5, 20] (fun r o i wr => ∃ (k : Nat), k ≤ n ∧ i = .int .i64 k ∧ r = .int .i64 (roomUp l k).1 ∧ o = .bool (roomUp l k).2 ∧ Hid (∀ i, i < k → fairSeg (sg l i) = true) ∧ Hid (Below w.heap.size w wr)) (fun _ _ i _ => n - (intOf i).toNat)
  case atStart => exact ⟨0, Nat.zero_le _, rfl, rfl, rfl, fun i hi => absurd hi (by omega), (Below.refl _ _).alloc (Nat.le_refl _) _⟩
  case round =>
    obtain ⟨k, hk, rfl, rfl, rfl, hf, BW⟩ := hrel
    have hsz := BW.out.size
    by_cases hlt : k < n
    · obtain ⟨c0, c1, c2, c3⟩ := HC.out k hlt
      have d0 := oldCell BW.out hb c0
      have d1 := oldCell BW.out hb c1
      have d2 := oldCell BW.out hb c2
      have d3 := oldCell BW.out hb c3
      clear c0 c1 c2 c3
      have hst : Hid (roomUp l (k + 1) = if (roomUp l k).2 then roomUp l k else if (roomUp l k).1 < (sg l k).Long then ((roomUp l k).1, true) else ((roomUp l k).1 - (sg l k).Long, false)) := rfl
      have hone := Lib.hid (show fairSeg (sg l k) = false → res = 2 from fun h => HANY.out ⟨k, hlt, h⟩)
      have HFK := Lib.hid (fun w => HF.out (sg l k) w)
      have hx : Hid (fairSeg (sg l k) = true → (∀ i, i < k + 1 → fairSeg (sg l i) = true)) := fun h i hi => by
        by_cases e : i = k
        · rw [e]; exact h
        · exact hf.out i (by omega)
      have hIN := HIN.out k
      obtain ⟨⟨l0, l1⟩, _, _, _⟩ := hIN
      have hroom := roomUp_spec l k (fun i hi => (fairSeg_iff _).1 (hf.out i hi))
      replace hroom := And.intro hroom.1 hroom.2.1
      obtain ⟨r0, r1⟩ := hroom
      generalize sg l k = s at *
      cases hfs : fairSeg s
      · have hr2 := Lib.hid (hone.out hfs)
        clear hone hx
        rw [hfs] at HFK
        generalize roomUp l k = rk at *
        obtain ⟨room, long⟩ := rk
        simp only at *
        go_wp2_with fail
        refine (HFK.out _).mono ?_
        rintro e w' ⟨rfl, hb1⟩
        go_wp2_with fail
        go_ret
        exact ⟨ret_int hr2.out.symm, (BW.out.alloc hsz _).trans (hb1.mono (by simp; omega))⟩
      · rw [hfs] at HFK
        have HX := Lib.hid (hx.out hfs)
        have hl1 := ((fairSeg_iff s).1 hfs).long
        have bs : Box (wr.alloc (.cells #[.int .i64 s.Long, .int .i64 s.Rise, .int .i64 s.Area, .int .i64 s.Gap] 24)) wr.heap.size 24 #[.int .i64 s.Long, .int .i64 s.Rise, .int .i64 s.Area, .int .i64 s.Gap] := Box.new _ _ _ rfl
        have BS := Lib.hid bs
        clear hone hx hfs bs
        generalize roomUp l k = rk at *
        obtain ⟨room, long⟩ := rk
        simp only at *
        go_wp2_with fail
        refine (HFK.out _).mono ?_
        rintro e w' ⟨rfl, hb1⟩
        have q0 := (BS.out.under hb1).cell 0
        simp only [List.getElem?_toArray, List.getElem?_cons_zero] at q0
        have B1 := Lib.hid ((BW.out.alloc hsz _).trans (hb1.mono (by simp; omega)))
        clear hb1 d0 d1 d2 d3 BS HFK
        cases long
        · by_cases hroom : room < s.Long
          · have hd : decide (room < s.Long) = true := decide_eq_true hroom
            have HST := Lib.hid (show roomUp l (k + 1) = (room, true) by rw [hst.out, if_neg (by simp), if_pos hroom])
            clear hst hroom
            go_wp2_with fail
            go_roundw
            case rel => exact ⟨k + 1, hlt, by go_num, by rw [HST.out], by rw [HST.out], HX, B1⟩
            case measure => simp [intOf]; omega
          · have hd : decide (room < s.Long) = false := decide_eq_false hroom
            have HST := Lib.hid (show roomUp l (k + 1) = (room - s.Long, false) by rw [hst.out, if_neg (by simp), if_neg hroom])
            clear hst
            go_wp2_with fail
            go_roundw
            case rel => exact ⟨k + 1, hlt, by go_num, by rw [HST.out], by rw [HST.out], HX, B1⟩
            case measure => simp [intOf]; omega
        · have HST := Lib.hid (show roomUp l (k + 1) = (room, true) by rw [hst.out, if_pos rfl])
          clear hst
          go_wp2_with fail
          go_roundw
          case rel => exact ⟨k + 1, hlt, by go_num, by rw [HST.out], by rw [HST.out], HX, B1⟩
          case measure => simp [intOf]; omega
    · obtain rfl : k = n := by omega
      have hr := Lib.hid (HALL.out hf.out)
      cases hl : (roomUp l k).2
      · rw [hl] at hr
        go_wp2_with fail
        go_ret
        exact ⟨ret_int hr.out.symm, BW.out⟩
      · rw [hl] at hr
        go_wp2_with fail
        go_ret
        exact ⟨ret_int hr.out.symm, BW.out⟩

set_option maxHeartbeats 1000000 in
theorem fluid_CheckHole (v0 : Value) (l : List Seg) (w : World) (hv : HoleV w w.heap.size v0 l) (hin : SegsIn l) (hm : l.length ≤ maxLen) :
    Calls Try.prog 9 #[v0] w fun e w' => e = .returned (.int .i64 (checkHole l)) ∧ Below w.heap.size w w' := by
  obtain ⟨A, c, rfl, hk⟩ := hv
  unfold maxLen at hm
  by_cases h0 : l.length = 0
  · have hs : Hid (checkHole l = 6) := by simp [checkHole, h0, Hid]
    rw [h0]
    have hz : (((0 : Nat) : Int) == 0) = true := by simp
    clear h0 hk hm
    go_enter Try.func9, Try.ntmps9
    go_wp2_with fail
    go_ret
    exact ⟨ret_int hs.out.symm, (by repeat (first | exact Below.refl _ _ | assumption | refine Below.setCell ?_ (by first | (simp; done) | (simp; omega)) _ | refine belowDrewN ?_ _ | refine Below.drew ?_ | refine Below.alloc ?_ (by first | (simp; done) | (simp; omega)) _))⟩
  · by_cases h16 : 16 < l.length
    · have hs : Hid (checkHole l = 8) := by simp [checkHole, h0, h16, Hid]
      clear hk
      generalize l.length = n at *
      have hz : ((n : Int) == 0) = false := beq_eq_false_iff_ne.2 (by omega)
      have hz2 : decide ((16 : Int) < (n : Int)) = true := decide_eq_true (by omega)
      go_enter Try.func9, Try.ntmps9
      go_wp2_with fail
      go_ret
      exact ⟨ret_int hs.out.symm, (by repeat (first | exact Below.refl _ _ | assumption | refine Below.setCell ?_ (by first | (simp; done) | (simp; omega)) _ | refine belowDrewN ?_ _ | refine Below.drew ?_ | refine Below.alloc ?_ (by first | (simp; done) | (simp; omega)) _))⟩
    · obtain ⟨b, off, rfl, hb, hc⟩ := hk (by omega)
      exact CheckHole_loop l b off c w hb hc (by omega) (by omega) hin

end Go.Proofs.Ytnhnheigdlnokaa
