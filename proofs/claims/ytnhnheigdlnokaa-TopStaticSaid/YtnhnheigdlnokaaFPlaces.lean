/- Walks of the package fluid: the iterator over the segments of a hole; the volume. -/
import Derived.Test.YtnhnheigdlnokaaFCheckHole
import Derived.Test.YtnhnheigdlnokaaStill
import Derived.Test.YtnhnheigdlnokaaIter2
namespace Go.Proofs.Ytnhnheigdlnokaa
open Go.RowKit Go.Shelf Mpl
attribute [local go_sem] Oper.semAt_some

theorem fluid_size (s : Seg) (w : World) (hs : GoodSeg s) (hl : s.Long ≤ 1048576) :
    Calls Try.prog 23 #[segV s] w fun e w' => e = .returned (.int .i64 (segSize s)) ∧ Below w.heap.size w w' := by
  have h1 := seg_size hs
  obtain ⟨a1, a2, a3, a4, a5, a6, a7⟩ := hs
  have hd : Hid (segSize s = s.Long * s.Area) := rfl
  rw [hd.out] at h1
  obtain ⟨b1, b2⟩ := h1
  unfold segV
  go_enter Try.func23, Try.ntmps23
  go_wp2_with fail
  go_ret
  exact ⟨by rw [hd.out]; rfl, (by repeat (first | exact Below.refl _ _ | assumption | refine Below.setCell ?_ (by first | (simp; done) | (simp; omega)) _ | refine belowDrewN ?_ _ | refine Below.drew ?_ | refine Below.alloc ?_ (by first | (simp; done) | (simp; omega)) _))⟩

theorem fluid_places (c0 : Value) (w : World) :
    Calls Try.prog 22 #[.agg #[c0]] w fun e w' => e = .returned (.func (.func 28) #[] #[.pointer (some ⟨w.heap.size, 0, none⟩)]) ∧ w.alloc (.cells #[c0] 27) = w' := by
  go_enter Try.func22, Try.ntmps22
  go_wp2
  go_ret
  exact ⟨rfl, rfl⟩

/-- the segments can be read -/
def SegsRead (bj B : Nat) (A : Option Addr) (n c : Nat) (l : List Seg) (W : World) : Prop :=
  W.cell? ⟨bj, 0, none⟩ = some (.slice A n c) ∧ Segs W B A l
theorem SegsRead.calm {bj B B' : Nat} {A : Option Addr} {n c : Nat} {l : List Seg} {W W' : World} (h : SegsRead bj B A n c l W) (hc : Calm B' W W') : SegsRead bj B A n c l W' :=
  ⟨cell_calm h.1 hc, fun h0 => by
    obtain ⟨b, off, rfl, hb, hx⟩ := h.2 h0
    exact ⟨b, off, rfl, hb, fun i hi => ⟨cell_calm (hx i hi).1 hc, cell_calm (hx i hi).2.1 hc, cell_calm (hx i hi).2.2.1 hc, cell_calm (hx i hi).2.2.2 hc⟩⟩⟩
theorem SegsRead.set_ {bj B : Nat} {A : Option Addr} {n c : Nat} {l : List Seg} {W : World} (h : SegsRead bj B A n c l W) {p : Addr} (hp : B ≤ p.block) (hne : bj ≠ p.block) (u : Value) : SegsRead bj B A n c l (W.setCell p u) :=
  ⟨(World.cell?_setCell_other W p ⟨bj, 0, none⟩ u (fun e => hne (by rw [e]))).trans h.1, h.2.up ((Below.refl B W).setCell hp u) (Nat.le_refl _)⟩
theorem SegsRead.drew {bj B : Nat} {A : Option Addr} {n c : Nat} {l : List Seg} {W : World} (h : SegsRead bj B A n c l W) : SegsRead bj B A n c l W.drew := h
theorem SegsRead.under {bj B : Nat} {A : Option Addr} {n c : Nat} {l : List Seg} {W W' : World} (h : SegsRead bj B A n c l W) (hb : Below W.heap.size W W') : SegsRead bj B A n c l W' := h.calm (Calm.below hb (Nat.le_refl _))

def segEnc (l : List Seg) (k : Nat) : Array Value := #[.int .i64 (sizeUp l k), segV (sg l k)]

set_option maxHeartbeats 1000000 in
set_option maxRecDepth 100000 in
theorem places_iter (n bj B : Nat) (A : Option Addr) (c : Nat) (l : List Seg) (hg : GoodHole l) (hn1 : 1 ≤ n) :
    Iter2 Fence.wide n Try.prog 28 #[.pointer (some ⟨bj, 0, none⟩)] (segEnc l) l.length (SegsRead bj B A l.length c l) := by
  intro L J Jx W hR hJ hY h0
  refine callsIn_of_wp Try.func28 rfl trivial ?_ rfl
  simp only [Try.ntmps28, List.size_toArray, List.length_cons, List.length_nil, Nat.reduceAdd, Nat.reduceSub, Array.replicate_succ, Array.replicate_zero, List.push_toArray, List.append_toArray, List.nil_append, List.cons_append]
  have HY := Lib.hid hY
  have HJ := Lib.hid hJ
  have HR := Lib.hid hR
  have HG := Lib.hid hg
  obtain ⟨d0, _⟩ := hR
  have hfew := hg.few
  clear hY hJ hg
  generalize hn : l.length = N at *
  have HN := Lib.hid hn
  clear hn
  gi_wp2
  gi_loopw [3, 9] (fun s3 s9 wr => ∃ k : Nat, k ≤ N ∧ s9 = .int .i64 k ∧ s3 = .int .i64 (sizeUp l k) ∧ Hid (SegsRead bj B A N c l wr) ∧ Hid (J k wr)) (fun _ s9 _ => N - (intOf s9).toNat)
  case atStart => exact ⟨0, Nat.zero_le _, rfl, rfl, HR, h0⟩
  case round =>
    obtain ⟨k, hk, rfl, rfl, hr, hj⟩ := hrel
    by_cases hlt : k < N
    · obtain ⟨b, off, rfl, hb, hc⟩ := hr.out.2 (by rw [HN.out]; omega)
      obtain ⟨e0, e1, e2, e3⟩ := hc k (by rw [HN.out]; omega)
      clear hc
      have HSZ := Lib.hid (fun w => (callsIn_wide (n := n - 1)).2 (fluid_size (sg l k) w (HG.out.fair k (by rw [HN.out]; exact hlt)) (HG.out.seg (k := k) (by rw [HN.out]; exact hlt)).1))
      have hst := Lib.hid (sizeUp_step l k)
      have hu := HG.out.ups k (by rw [HN.out]; omega)
      have hu2 := HG.out.seg (k := k) (by rw [HN.out]; omega)
      have hu3 : 0 ≤ sizeUp l k ∧ sizeUp l k ≤ 5242880000 := by omega
      have hu4 := hu2.2
      obtain ⟨hu5, hu6⟩ := hu3
      obtain ⟨hu7, hu8⟩ := hu4
      clear hu hu2
      have hsw : wr.heap.size ≤ wr.heap.size := Nat.le_refl _
      have bs : Box (wr.alloc (.cells #[.int .i64 (sg l k).Long, .int .i64 (sg l k).Rise, .int .i64 (sg l k).Area, .int .i64 (sg l k).Gap] 24)) wr.heap.size 24 #[.int .i64 (sg l k).Long, .int .i64 (sg l k).Rise, .int .i64 (sg l k).Area, .int .i64 (sg l k).Gap] := Box.new _ _ _ rfl
      have hba : Below wr.heap.size wr (wr.alloc (.cells #[.int .i64 (sg l k).Long, .int .i64 (sg l k).Rise, .int .i64 (sg l k).Area, .int .i64 (sg l k).Gap] 24)) := (Below.refl _ _).alloc (Nat.le_refl _) _
      have hr' := Lib.hid (hr.out.under hba)
      have BS := Lib.hid bs
      have HBA := Lib.hid hba
      clear bs hba hr
      unfold segV at HSZ
      generalize hwa : wr.alloc (.cells #[.int .i64 (sg l k).Long, .int .i64 (sg l k).Rise, .int .i64 (sg l k).Area, .int .i64 (sg l k).Gap] 24) = wa at *
      have HWA := Lib.hid hwa
      clear hwa
      obtain ⟨fn, tmps, assign, body, hy, hRd⟩ := HY.out k wr wa hlt hj.out HBA.out hr'.out
      simp only [segEnc, segV] at hy
      have HRd := Lib.hid hRd
      obtain ⟨q0, q1, q2, q3⟩ := seg_box BS.out
      clear hRd
      generalize sg l k = s at *
      generalize sizeUp l k = sz at *
      gi_wp2_with (rw [HWA.out])
      refine HRd.out.mono ?_
      rintro e W3 (⟨rfl, hJ3, hk3, hm3⟩ | ⟨rfl, hJx3⟩)
      · have HJ3 := Lib.hid hJ3
        have HK3 := Lib.hid hk3
        have BS3 := BS.out.mid hm3 (Nat.le_refl _)
        clear hJ3 hk3 hm3 q0 q1 q2 q3
        obtain ⟨q0, q1, q2, q3⟩ := seg_box BS3
        clear BS3
        have hfs : Fence.wide.fn 23 := trivial
        gi_wp2
        refine (HSZ.out _).mono ?_
        rintro e w' ⟨rfl, hb3⟩
        have HJ4 := Lib.hid (HJ.out _ _ _ HJ3.out hb3)
        have HR4 := Lib.hid (HK3.out.under hb3)
        clear q0 q1 q2 q3 hb3 HJ3 HK3 hfs
        gi_wp2
        go_roundw
        case rel => exact ⟨k + 1, hlt, by go_num, by rw [hst.out], HR4, HJ4⟩
        case measure => simp [intOf]; omega
      · have HJ3 := Lib.hid hJx3
        clear hJx3
        gi_wp2
        refine bodyPost_ret (results_none rfl _ _ _) rfl ?_
        exact ⟨⟨_, rfl⟩, .inr ⟨k, hlt, HJ3.out⟩⟩
    · obtain rfl : k = N := by omega
      gi_wp2
      go_end0
      exact ⟨⟨_, rfl⟩, .inl hj.out⟩

end Go.Proofs.Ytnhnheigdlnokaa
