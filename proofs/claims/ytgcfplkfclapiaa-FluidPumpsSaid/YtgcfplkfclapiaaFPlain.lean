/- Walks of the package fluid: a plain column. -/
import Derived.Test.YtgcfplkfclapiaaFHeld
import Derived.Test.YtgcfplkfclapiaaFHeight
import Derived.BigRegion
namespace Mpl
theorem fold_step (l : List Slug) (k : Nat) (h : k < l.length) : (l.take (k + 1)).foldl plainAdd [] = plainAdd ((l.take k).foldl plainAdd []) (slg l k) := by
  rw [List.take_succ_eq_append_getElem h, List.foldl_append]
  simp [slg, h]
/-- the column so far -/
def plainTo (l : List Slug) (k : Nat) : List Slug := (l.take k).foldl plainAdd []
theorem plainTo_step (l : List Slug) (k : Nat) (h : k < l.length) : plainTo l (k + 1) = plainAdd (plainTo l k) (slg l k) := fold_step l k h
theorem plainTo_all (l : List Slug) : plainTo l l.length = plainOf l := by simp [plainTo, plainOf]
theorem plainTo_len (l : List Slug) (k : Nat) : (plainTo l k).length ≤ k := by
  have : ∀ (l out : List Slug), (l.foldl plainAdd out).length ≤ out.length + l.length := by
    intro l
    induction l with
    | nil => intro out; simp
    | cons s l ih => intro out; have h1 := ih (plainAdd out s); have h2 := plainAdd_length out s; simp only [List.foldl_cons, List.length_cons]; omega
  have h := this (l.take k) []
  have h2 : (l.take k).length ≤ k := by simp; omega
  unfold plainTo
  simp at h
  omega
theorem getLast_slg {l : List Slug} (h : 0 < l.length) : l.getLast? = some (slg l (l.length - 1)) := by
  rw [List.getLast?_eq_getElem?]
  simp [slg, show l.length - 1 < l.length by omega]
theorem add_skip {out : List Slug} {s : Slug} (h : within s.Volume 1 1099511627776 = false) : plainAdd out s = out := by unfold plainAdd; rw [h]; rfl
theorem add_first {s : Slug} (h : within s.Volume 1 1099511627776 = true) : plainAdd [] s = [s] := by unfold plainAdd; rw [h]; rfl
theorem add_new {out : List Slug} {s : Slug} (h : within s.Volume 1 1099511627776 = true) (h0 : 0 < out.length) (hw : (slg out (out.length - 1)).Weight ≠ s.Weight) : plainAdd out s = out ++ [s] := by
  unfold plainAdd
  rw [h, getLast_slg h0]
  simp [hw]
theorem add_more {out : List Slug} {s : Slug} (h : within s.Volume 1 1099511627776 = true) (h0 : 0 < out.length) (hw : (slg out (out.length - 1)).Weight = s.Weight) : plainAdd out s = out.dropLast ++ [⟨(slg out (out.length - 1)).Weight, (slg out (out.length - 1)).Volume + s.Volume⟩] := by
  unfold plainAdd
  rw [h, getLast_slg h0]
  simp [hw]
/-- no volume of the column so far is great -/
theorem plainTo_vol (l : List Slug) (k : Nat) : ∀ s ∈ plainTo l k, 1 ≤ s.Volume ∧ s.Volume ≤ 1099511627776 * k := by
  induction k with
  | zero => intro s hs; simp [plainTo] at hs
  | succ k ih =>
    by_cases hk : k < l.length
    · rw [plainTo_step l k hk]
      cases hv : within (slg l k).Volume 1 1099511627776
      · rw [add_skip hv]
        intro s hs
        have := ih s hs
        omega
      · have hb : 1 ≤ (slg l k).Volume ∧ (slg l k).Volume ≤ 1099511627776 := by simpa [within] using hv
        rcases Nat.eq_zero_or_pos (plainTo l k).length with h0 | h0
        · rw [List.eq_nil_of_length_eq_zero h0, add_first hv]
          intro s hs
          rw [List.mem_singleton.1 hs]
          omega
        · by_cases hw : (slg (plainTo l k) ((plainTo l k).length - 1)).Weight = (slg l k).Weight
          · rw [add_more hv h0 hw]
            intro s hs
            rcases List.mem_append.1 hs with hs | hs
            · have := ih s ((List.dropLast_sublist _).mem hs)
              omega
            · rw [List.mem_singleton.1 hs]
              have := ih _ (slg_mem (l := plainTo l k) (i := (plainTo l k).length - 1) (by omega))
              simp only
              omega
          · rw [add_new hv h0 hw]
            intro s hs
            rcases List.mem_append.1 hs with hs | hs
            · have := ih s hs
              omega
            · rw [List.mem_singleton.1 hs]
              omega
    · have : plainTo l (k + 1) = plainTo l k := by unfold plainTo; rw [List.take_of_length_le (by omega), List.take_of_length_le (by omega)]
      rw [this]
      intro s hs
      have := ih s hs
      omega
end Mpl
namespace Go.Proofs.Ytgcfplkfclapiaa
open Go.RowKit Go.Shelf Mpl

/-- the last slug of a row of the call's own, as cells that may be written -/
theorem own_last {w : World} {base : Nat} {v : Value} {n : Nat} {d : List Slug} {s : Slug} (ho : w.ownsRow base 39 2 v n ((d ++ [s]).flatMap slugC)) :
    ∃ g c, v = .slice (some ⟨g, 0, none⟩) (d.length + 1) c ∧ base ≤ g ∧ g < w.heap.size ∧ w.cell? ⟨g, d.length * 2, none⟩ = some (.int .i64 s.Weight) ∧ w.cell? ⟨g, d.length * 2 + 1, none⟩ = some (.int .i64 s.Volume) ∧ w.frozen? ⟨g, d.length * 2 + 1, none⟩ = false ∧
      ∀ x, (w.setCell ⟨g, d.length * 2 + 1, none⟩ (.int .i64 x)).ownsRow base 39 2 v n ((d ++ [(⟨s.Weight, x⟩ : Slug)]).flatMap slugC) := by
  have h1 := ho.1
  rw [flatC_len slugC 2 (fun _ => rfl), List.length_append, List.length_singleton] at h1
  have hn : n = d.length + 1 := by omega
  subst hn
  have e1 : (d ++ [s]).flatMap slugC = d.flatMap slugC ++ [.int .i64 s.Weight, .int .i64 s.Volume] := by rw [List.flatMap_append]; rfl
  have hl : (d.flatMap slugC).length = d.length * 2 := flatC_len slugC 2 (fun _ => rfl) d
  rcases ho.2 with ⟨_, h2⟩ | ⟨g, cap, cur, rfl, hg, hh, hnc, hcm, hsz, ht⟩
  · omega
  have hb : Box w g 39 cur := hh
  rw [e1] at ht
  have c0 : cur[d.length * 2]? = some (.int .i64 s.Weight) := by
    have := congrArg (fun l : List Value => l[d.length * 2]?) ht
    simp only [List.getElem?_take] at this
    rw [if_pos (by omega), List.getElem?_append_right (by omega), hl] at this
    simpa using this
  have c1 : cur[d.length * 2 + 1]? = some (.int .i64 s.Volume) := by
    have := congrArg (fun l : List Value => l[d.length * 2 + 1]?) ht
    simp only [List.getElem?_take] at this
    rw [if_pos (by omega), List.getElem?_append_right (by omega), hl] at this
    simpa using this
  refine ⟨g, cap, rfl, hg, hb.lt, (hb.cell _).trans c0, (hb.cell _).trans c1, hb.frozen _, fun x => ⟨?_, .inr ⟨g, cap, cur.setIfInBounds (d.length * 2 + 1) (.int .i64 x), rfl, hg, hb.set_ _ _, hnc, hcm, by simpa using hsz, ?_⟩⟩⟩
  · rw [flatC_len slugC 2 (fun _ => rfl), List.length_append, List.length_singleton]
  · rw [Array.toList_setIfInBounds, List.take_set, ht, List.flatMap_append, List.set_append_right _ _ (by omega), hl, Nat.add_sub_cancel_left]
    rfl

theorem fluid_last {out : List Slug} (h : 0 < out.length) : ∃ d s, out = d ++ [s] ∧ d = out.dropLast ∧ s = slg out (out.length - 1) ∧ d.length = out.length - 1 := by
  refine ⟨out.dropLast, slg out (out.length - 1), ?_, rfl, rfl, by simp⟩
  have := List.dropLast_concat_getLast (l := out) (by intro e; rw [e] at h; simp at h)
  have e : slg out (out.length - 1) = out.getLast (by intro e; rw [e] at h; simp at h) := by
    rw [List.getLast_eq_getElem]
    simp [slg, show out.length - 1 < out.length by omega]
  rw [e]
  exact this.symm

set_option maxHeartbeats 4000000 in
set_option maxRecDepth 100000 in
theorem fluid_Plain (l : List Slug) (A : Option Addr) (c : Nat) (w : World) (hl : Slugs w w.heap.size A l) (hm : l.length ≤ 1000) :
    Calls Try.prog 57 #[.slice A l.length c] w fun e w' => (∃ A' c', e = .returned (.slice A' (plainOf l).length c') ∧ w'.ownsRow w.heap.size 39 2 (.slice A' (plainOf l).length c') (plainOf l).length ((plainOf l).flatMap slugC)) ∧ Below w.heap.size w w' := by
  have HL := Lib.hid hl
  have HST := Lib.hid (fun k h => plainTo_step l k h)
  have HALL := Lib.hid (plainTo_all l)
  have HPL := Lib.hid (fun k => plainTo_len l k)
  have HV := Lib.hid (fun k => plainTo_vol l k)
  clear hl
  generalize plainOf l = res at *
  generalize hn : l.length = n at *
  have HN := Lib.hid hn
  clear hn
  obtain ⟨i0, hi0, hz0, hz1, hz2⟩ := info_parts info_Slug
  go_enter Try.func57, Try.ntmps57
  go_wp2_with fail
  go_loopw [3, 9] (fun s3 s9 wr => ∃ (k : Nat) (v : Value), k ≤ n ∧ v = s3 ∧ s9 = .int .i64 k ∧ Hid (wr.ownsRow w.heap.size 39 2 v (plainTo l k).length ((plainTo l k).flatMap slugC)) ∧ Hid (Below w.heap.size w wr)) (fun _ s9 _ => n - (intOf s9).toNat)
  case atStart => exact ⟨0, .slice none 0 0, Nat.zero_le _, rfl, rfl, World.ownsRow_nil _ _ _ _, Below.refl _ _⟩
  case round =>
    obtain ⟨k, v, hk, rfl, rfl, hown, BW⟩ := hrel
    have hsz := BW.out.size
    by_cases hlt : k < n
    · have t0 : decide (k < n) = true := decide_eq_true hlt
      obtain ⟨b, off, rfl, hb, hc⟩ := HL.out (by rw [HN.out]; omega)
      obtain ⟨c0, c1⟩ := hc k (by rw [HN.out]; exact hlt)
      have d0 := oldCell BW.out hb c0
      have d1 := oldCell BW.out hb c1
      have hbw : b < wr.heap.size := by omega
      have hst := Lib.hid (HST.out k hlt)
      have hpl := HPL.out k
      have hvol := Lib.hid (HV.out k)
      have b1 : (k : Int) < (n : Int) := by omega
      have b2 : (0 : Int) ≤ (k : Int) := by omega
      have BWA := Lib.hid (BW.out.alloc hsz (.cells #[.int .i64 (slg l k).Weight, .int .i64 (slg l k).Volume] 39))
      have OWA := Lib.hid (hown.out.alloc (.cells #[.int .i64 (slg l k).Weight, .int .i64 (slg l k).Volume] 39))
      clear hc c0 c1
      generalize hP1 : plainTo l (k + 1) = P1 at *
      have HP1 := Lib.hid hP1
      generalize plainTo l k = P at *
      generalize slg l k = s at *
      clear hP1
      cases hw : within s.Volume 1 1099511627776
      · have he := Lib.hid (hst.out.trans (add_skip hw))
        go_wp2_with (go_at_call 62; refine (fluid_within _ _ _ _).mono ?_; rintro e w' ⟨rfl, rfl⟩; rw [hw])
        go_roundw
        case rel => exact ⟨k + 1, v, hlt, rfl, by go_num, (by unfold Hid; rw [HP1.out, he.out]; exact OWA.out), BWA⟩
        case measure => simp [intOf]; omega
      · rcases Nat.eq_zero_or_pos P.length with h0 | h0
        · obtain rfl := List.eq_nil_of_length_eq_zero h0
          have he := Lib.hid (hst.out.trans (add_first hw))
          obtain ⟨A0, cc, rfl, _, _⟩ := own_form hown.out
          clear hpl hvol hst
          go_wp2_with (go_at_call 62; refine (fluid_within _ _ _ _).mono ?_; rintro e w' ⟨rfl, rfl⟩; rw [hw])
          go_quiet (fail)
          obtain ⟨wq, hwq⟩ : ∃ wq, (wr.alloc (.cells #[.int .i64 s.Weight, .int .i64 s.Volume] 39)).drewN nq = wq := ⟨_, rfl⟩
          have BWQ := Lib.hid (show Below w.heap.size w wq by rw [← hwq]; exact belowDrewN BWA.out nq)
          have OWQ := Lib.hid (show wq.ownsRow w.heap.size 39 2 (.slice A0 0 cc) 0 (([] : List Slug).flatMap slugC) by rw [← hwq]; exact OWA.out)
          have BXQ := Lib.hid (show Box wq wr.heap.size 39 #[.int .i64 s.Weight, .int .i64 s.Volume] by rw [← hwq]; exact (Box.new wr _ _ rfl).drewN nq)
          have x0 : wq.cell? ⟨wr.heap.size, 0, none⟩ = some (.int .i64 s.Weight) := BXQ.out.cell 0
          have x1 : wq.cell? ⟨wr.heap.size, 1, none⟩ = some (.int .i64 s.Volume) := BXQ.out.cell 1
          have HWQ := Lib.hid hwq
          rw [HWQ.out]
          clear hwq d0 d1
          go_wp2_with (at_builtin; refine wpList_append_own _ rfl _ _ 30 rfl w.heap.size 39 i0 (.agg #[.int .i64 0, .int .i64 0]) 2 16 Try.underlying30 hi0 hz0 hz1 hz2 rfl (by decide) (.slice A0 0 cc) 0 (([] : List Slug).flatMap slugC) rfl (OWQ.out.alloc _) ⟨wq.heap.size, 0, none⟩ 1 1 (slugC s) rfl rfl ?_ ?_ ?_ ?_ ?_ ?_)
          · exact cells_new wq (slugC s) 39
          · simp [slugC, Value.oneCell']
          · unfold maxLen; omega
          · omega
          · have := BWQ.out.size; simp; omega
          intro v' w2 hown1 hg1 _
          have hB1 := Lib.hid (below_grown (BWQ.out.alloc BWQ.out.size _) (OWQ.out.alloc _) hg1 (by have := BWQ.out.size; simp; omega))
          have HO1 := Lib.hid hown1
          clear hown1 hg1
          go_wp2_with fail
          go_roundw
          case rel => exact ⟨k + 1, v', hlt, rfl, by go_num, (by unfold Hid; rw [HP1.out, he.out]; have := HO1.out; simpa using this), hB1⟩
          case measure => simp [intOf]; omega
        · obtain ⟨d, t, hdt, hd, ht, hdl⟩ := fluid_last h0
          have hvt := hvol.out t (by rw [hdt]; simp)
          have hmore : t.Weight = s.Weight → P1 = d ++ [(⟨t.Weight, t.Volume + s.Volume⟩ : Slug)] := fun h => by
            rw [hst.out, add_more hw h0 (by rw [← ht]; exact h), ← hd, ← ht]
          have hnew : t.Weight ≠ s.Weight → P1 = P ++ [s] := fun h => by
            rw [hst.out, add_new hw h0 (by rw [← ht]; exact h)]
          have hsv : 1 ≤ s.Volume ∧ s.Volume ≤ 1099511627776 := by simpa [within] using hw
          clear hst hvol hd ht
          subst hdt
          have hlen : (d ++ [t]).length = d.length + 1 := by simp
          rw [hlen] at OWA hpl
          clear hlen h0 hdl hown
          obtain ⟨g, cc, rfl, hg, hglt, e0, e1, f1, _⟩ := own_last OWA.out
          generalize hmm : d.length = m at *
          have hml := Lib.hid hmm
          clear hmm
          have a1 : (m : Int) + 1 - 1 = (m : Int) := by omega
          have a2 : ((m + 1 : Nat) : Int) - 1 = (m : Int) := by omega
          have a3 : decide ((0 : Int) < ((m + 1 : Nat) : Int)) = true := decide_eq_true (by omega)
          have a4 : decide ((0 : Int) < (m : Int) + 1) = true := decide_eq_true (by omega)
          have a5 : (m : Int) < ((m + 1 : Nat) : Int) := by omega
          have a6 : (0 : Int) ≤ (m : Int) := by omega
          by_cases hq : t.Weight = s.Weight
          · have q1 : (t.Weight == s.Weight) = true := beq_iff_eq.2 hq
            have he := Lib.hid (hmore hq)
            clear hmore hnew hq
            go_wp2_with (go_at_call 62; refine (fluid_within _ _ _ _).mono ?_; rintro e w' ⟨rfl, rfl⟩; rw [hw])
            go_quiet (fail)
            obtain ⟨wq, hwq⟩ : ∃ wq, (wr.alloc (.cells #[.int .i64 s.Weight, .int .i64 s.Volume] 39)).drewN nq = wq := ⟨_, rfl⟩
            have BWQ := Lib.hid (show Below w.heap.size w wq by rw [← hwq]; exact belowDrewN BWA.out nq)
            have OWQ := Lib.hid (show wq.ownsRow w.heap.size 39 2 (.slice (some ⟨g, 0, none⟩) (m + 1) cc) (m + 1) ((d ++ [t]).flatMap slugC) by rw [← hwq]; exact OWA.out)
            have BXQ := Lib.hid (show Box wq wr.heap.size 39 #[.int .i64 s.Weight, .int .i64 s.Volume] by rw [← hwq]; exact (Box.new wr _ _ rfl).drewN nq)
            have x0 : wq.cell? ⟨wr.heap.size, 0, none⟩ = some (.int .i64 s.Weight) := BXQ.out.cell 0
            have x1 : wq.cell? ⟨wr.heap.size, 1, none⟩ = some (.int .i64 s.Volume) := BXQ.out.cell 1
            have HWQ := Lib.hid hwq
            rw [HWQ.out]
            clear hwq d0 d1 e0 e1 f1
            obtain ⟨g', cc', hv', hg', hglt', e0, e1, f1, hset⟩ := own_last OWQ.out
            rw [hml.out] at e0 e1 f1 hset
            injection hv' with hv1 hv2 hv3
            injection hv1 with hv1
            injection hv1 with hv1 hv4 hv5
            subst hv1
            subst hv3
            clear hv2 hv4 hv5
            have HSET := Lib.hid hset
            clear hset
            have hwr : IntKind.i64.wrap (t.Volume + s.Volume) = t.Volume + s.Volume := IntWalk.i64_in _ (by omega)
            go_wp2_with fail
            go_region
            go_wp2_with fail
            go_roundw
            case rel =>
              refine ⟨k + 1, .slice (some ⟨g, 0, none⟩) (m + 1) cc, hlt, rfl, by go_num, ?_, (BWQ.out.setCell (p := ⟨g, m * 2 + 1, none⟩) (by simpa using hg) _).drew⟩
              unfold Hid
              rw [HP1.out, he.out]
              have h9 := HSET.out (t.Volume + s.Volume)
              have hll : (d ++ [(⟨t.Weight, t.Volume + s.Volume⟩ : Slug)]).length = m + 1 := by simp [hml.out]
              rw [hll]
              exact h9
            case measure => simp [intOf]; omega
          · have q1 : (t.Weight == s.Weight) = false := beq_eq_false_iff_ne.2 hq
            have he := Lib.hid (hnew hq)
            clear hmore hnew hq
            go_wp2_with (go_at_call 62; refine (fluid_within _ _ _ _).mono ?_; rintro e w' ⟨rfl, rfl⟩; rw [hw])
            go_quiet (fail)
            obtain ⟨wq, hwq⟩ : ∃ wq, (wr.alloc (.cells #[.int .i64 s.Weight, .int .i64 s.Volume] 39)).drewN nq = wq := ⟨_, rfl⟩
            have BWQ := Lib.hid (show Below w.heap.size w wq by rw [← hwq]; exact belowDrewN BWA.out nq)
            have OWQ := Lib.hid (show wq.ownsRow w.heap.size 39 2 (.slice (some ⟨g, 0, none⟩) (m + 1) cc) (m + 1) ((d ++ [t]).flatMap slugC) by rw [← hwq]; exact OWA.out)
            have BXQ := Lib.hid (show Box wq wr.heap.size 39 #[.int .i64 s.Weight, .int .i64 s.Volume] by rw [← hwq]; exact (Box.new wr _ _ rfl).drewN nq)
            have x0 : wq.cell? ⟨wr.heap.size, 0, none⟩ = some (.int .i64 s.Weight) := BXQ.out.cell 0
            have x1 : wq.cell? ⟨wr.heap.size, 1, none⟩ = some (.int .i64 s.Volume) := BXQ.out.cell 1
            have HWQ := Lib.hid hwq
            rw [HWQ.out]
            clear hwq d0 d1 e0 e1 f1
            go_wp2_with (at_builtin; refine wpList_append_own _ rfl _ _ 30 rfl w.heap.size 39 i0 (.agg #[.int .i64 0, .int .i64 0]) 2 16 Try.underlying30 hi0 hz0 hz1 hz2 rfl (by decide) (.slice (some ⟨g, 0, none⟩) (m + 1) cc) (m + 1) ((d ++ [t]).flatMap slugC) rfl (OWQ.out.alloc _) ⟨wq.heap.size, 0, none⟩ 1 1 (slugC s) rfl rfl ?_ ?_ ?_ ?_ ?_ ?_)
            · exact cells_new wq (slugC s) 39
            · simp [slugC, Value.oneCell']
            · unfold maxLen; omega
            · omega
            · have := BWQ.out.size; simp; omega
            intro v' w2 hown1 hg1 _
            have hB1 := Lib.hid (below_grown (BWQ.out.alloc BWQ.out.size _) (OWQ.out.alloc _) hg1 (by have := BWQ.out.size; simp; omega))
            have HO1 := Lib.hid hown1
            clear hown1 hg1
            go_wp2_with fail
            go_roundw
            case rel => exact ⟨k + 1, v', hlt, rfl, by go_num, (by
              unfold Hid
              rw [HP1.out, he.out]
              have h9 := HO1.out
              have hll : (d ++ [t] ++ [s]).length = m + 1 + 1 := by simp [hml.out]
              rw [hll]
              simpa using h9), hB1⟩
            case measure => simp [intOf]; omega
    · obtain rfl : k = n := by omega
      have t0 : decide (k < k) = false := decide_eq_false hlt
      have he : plainTo l k = res := HALL.out
      have HO := hown.out
      rw [he] at HO
      obtain ⟨A', c', rfl, _, _⟩ := own_form HO
      have HO' := Lib.hid HO
      clear HO he
      go_wp2_with fail
      go_ret
      exact ⟨⟨A', c', rfl, HO'.out⟩, BW.out⟩

end Go.Proofs.Ytgcfplkfclapiaa
