/- Walks of the package fluid: the height line of a hole. -/
import Derived.Test.YtnhnheigdlnokaaFVolume
import Derived.Test.YtnhnheigdlnokaaKit
import Derived.Deep.AppendLies
namespace Go.Proofs.Ytnhnheigdlnokaa
open Go.RowKit Go.Shelf Mpl
attribute [local go_sem] Oper.semAt_some

/-- append under a name of its own: the walk does not open it -/
def appSem (ats : Array TypeId) (ty : TypeId) (args : Array Value) : Sem Value := Builtin.append_ ats ty args
theorem builtin_append_veiled {ats : Array TypeId} {ty : TypeId} {cs : Array Bool} {args : Array Value} : builtin .append ats ty cs args = (do pure (.value (← appSem ats ty args))) := rfl
attribute [local go_sem ↓ high] builtin_append_veiled

theorem own_box {W : World} {base : Nat} {e : TypeId} {size : Nat} {v : Value} {n : Nat} {xs : List Value} {g : Nat} {t : TypeId} {cs : Array Value} (h : W.ownsRow base e size v n xs) (b : Box W g t cs) (hne : e ≠ t) : v.ownBlock ≠ some g := by
  rcases h.2 with ⟨rfl, _⟩ | ⟨g', cap, cur, rfl, _, hh, _⟩
  · simp [Value.ownBlock]
  · intro he
    have : g' = g := by simpa [Value.ownBlock] using he
    subst this
    unfold Box at b
    rw [hh] at b
    injection b with b
    injection b with _ ht
    exact hne ht
theorem own_set {W : World} {base : Nat} {e : TypeId} {size : Nat} {v : Value} {n : Nat} {xs : List Value} (h : W.ownsRow base e size v n xs) {p : Addr} (hne : v.ownBlock ≠ some p.block) (u : Value) : (W.setCell p u).ownsRow base e size v n xs := by
  obtain ⟨h1, h2⟩ := h
  refine ⟨h1, ?_⟩
  rcases h2 with h2 | ⟨g, cap, cur, hv, hg, hh, r⟩
  · exact .inl h2
  · refine .inr ⟨g, cap, cur, hv, hg, (Below.heap_setCell W p u g ?_).trans hh, r⟩
    rintro rfl
    rw [hv] at hne
    exact hne rfl
theorem Box.grownRow {w w' : World} {g : Nat} {t : TypeId} {cs : Array Value} {row : Option Nat} (h : Box w g t cs) (hb : w.grownBy w' row) (hg : row ≠ some g) : Box w' g t cs := (hb.block g h.lt (fun e => hg e.symm)).trans h

theorem keeps_grown {B : Nat} {W W' : World} {base : Nat} {e : TypeId} {size : Nat} {v : Value} {n : Nat} {xs : List Value} (h : W.ownsRow base e size v n xs) (hg : W.grownBy W' v.ownBlock) : KeepsFrom B W W' :=
  ⟨hg.size, fun k o _ ho hc => by
    refine (hg.block k (Array.getElem?_eq_some_iff.1 ho).1 fun he => ?_).trans ho
    rcases h.2 with ⟨rfl, _⟩ | ⟨g', cap, cur, rfl, _, hh, _⟩
    · simp [Value.ownBlock] at he
    · have : k = g' := by simpa [Value.ownBlock] using he
      subst this
      rw [hh] at ho
      cases ho
      cases hc⟩

/-- what holds behind k segments -/
def HSt (w : World) (M : Nat) (A : Option Addr) (n c : Nat) (l : List Seg) (k : Nat) (W : World) : Prop :=
  ∃ v, Box W (w.heap.size + 1) 62 #[.slice none 0 0] ∧ Box W (M + 1) 49 #[v] ∧ Box W (M + 1 + 1) 2 #[.int .i64 (riseUp l k)] ∧ Box W (M + 1 + 1 + 1) 27 #[.slice A n c] ∧ W.ownsRow M 81 2 v (k + 1) ((heightKnots l k).flatMap knotC) ∧ Below w.heap.size w W ∧ M + 1 + 1 + 1 + 1 ≤ W.heap.size

theorem height_round {w W0 W W2 w' w7 : World} {M B5 n c k g7 cap7 : Nat} {A : Option Addr} {l : List Seg} {v : Value} {su ru : Int} (hM : w.heap.size + 1 < M) (hk2 : heightKnots l (k + 1) = heightKnots l k ++ [⟨su, ru⟩]) (hru : riseUp l (k + 1) = ru) (hS : Segs w w.heap.size A l) (hn : n = l.length)
    (h0 : HSt w M A n c l k W0) (hB5 : M + 1 + 1 + 1 + 1 ≤ W0.heap.size) (hca : Calm B5 W0 W) (hv : Box W (M + 1) 49 #[v])
    (C1 : Box W2 (M + 1) 49 #[v]) (C2 : Box W2 (M + 1 + 1) 2 #[.int .i64 ru]) (CR : Box W2 (w.heap.size + 1) 62 #[.slice none 0 0]) (CH : Box W2 (M + 1 + 1 + 1) 27 #[.slice A n c]) (OWN : W2.ownsRow M 81 2 v (k + 1) ((heightKnots l k).flatMap knotC)) (HB2 : Below w.heap.size w W2) (HM2 : Mid W0.heap.size W W2) (HK2 : KeepsFrom B5 W W2)
    (hbb : Below W2.heap.size W2 w') {o : Obj} (hown7 : w7.ownsRow M 81 2 (.slice (some ⟨g7, 0, none⟩) (k + 1 + 1) cap7) (k + 1 + 1) ((heightKnots l k).flatMap knotC ++ knotC ⟨su, ru⟩)) (hg7 : (w'.alloc o).grownBy w7 v.ownBlock) :
    KeepsFrom B5 W (w7.setCell ⟨M + 1, 0, none⟩ (.slice (some ⟨g7, 0, none⟩) (k + 1 + 1) cap7)) ∧ HSt w M A n c l (k + 1) (w7.setCell ⟨M + 1, 0, none⟩ (.slice (some ⟨g7, 0, none⟩) (k + 1 + 1) cap7)) ∧ SegsRead (M + 1 + 1 + 1) w.heap.size A l.length c l (w7.setCell ⟨M + 1, 0, none⟩ (.slice (some ⟨g7, 0, none⟩) (k + 1 + 1) cap7)) ∧ Mid W0.heap.size W (w7.setCell ⟨M + 1, 0, none⟩ (.slice (some ⟨g7, 0, none⟩) (k + 1 + 1) cap7)) := by
  obtain ⟨v0, _, c10, _, _, hown0, _, _⟩ := h0
  have hv0 : v0 = v := by
    have := c10.calm hca
    unfold Box at this hv
    rw [hv] at this
    simpa using this.symm
  subst hv0
  have hlt0 := own_lt hown0
  have hba : Below W2.heap.size W2 (w'.alloc o) := hbb.alloc hbb.size _
  have D1 := C1.under hba
  have D2 := C2.under hba
  have DR := CR.under hba
  have DH := CH.under hba
  have DO := own_under OWN hba
  have n1 := own_box DO D1 (by decide)
  have n2 := own_box DO D2 (by decide)
  have n3 := own_box DO DR (by decide)
  have n4 := own_box DO DH (by decide)
  have E1 := D1.grownRow hg7 n1
  have E2 := D2.grownRow hg7 n2
  have ER := DR.grownRow hg7 n3
  have EH := DH.grownRow hg7 n4
  have hBl : Below w.heap.size w w7 := HB2.trans ⟨hg7.os.trans hba.os, hg7.tape.trans hba.tape, hg7.output.trans hba.output, Nat.le_trans hba.size hg7.size, fun i hi => by
    have hs := HB2.size
    refine (hg7.block i (by have := hba.size; omega) fun he => ?_).trans (hba.block i (by omega))
    rcases DO.2 with ⟨h, _⟩ | ⟨g', cap, cur, h, hgg, _, _⟩
    · rw [h] at he; simp [Value.ownBlock] at he
    · rw [h] at he
      have : i = g' := by simpa [Value.ownBlock] using he
      omega⟩
  have hBf := hBl.setCell (p := ⟨M + 1, 0, none⟩) (by simp; omega) (.slice (some ⟨g7, 0, none⟩) (k + 1 + 1) cap7)
  have hne7 : (Value.slice (some ⟨g7, 0, none⟩) (k + 1 + 1) cap7).ownBlock ≠ some (M + 1) := own_box hown7 E1 (by decide)
  have hsz : M + 1 + 1 + 1 + 1 ≤ w7.heap.size := by have := EH.lt; omega
  refine ⟨keeps_trans (keeps_trans HK2 (keeps_trans (keeps_below hba) (keeps_grown DO hg7))) (keeps_set w7 _ _), ⟨_, ER.far (by simp; omega) _, by simpa using E1.set_ 0 _, by rw [hru]; exact E2.far (by simp) _, EH.far (by simp; omega) _, ?_, hBf, by simpa using hsz⟩, ⟨by rw [← hn]; exact (EH.far (p := ⟨M + 1, 0, none⟩) (by simp; omega) _).cell 0, hS.up hBf (Nat.le_refl _)⟩, ?_⟩
  · have := own_set (p := ⟨M + 1, 0, none⟩) hown7 hne7 (.slice (some ⟨g7, 0, none⟩) (k + 1 + 1) cap7)
    rw [hk2, List.flatMap_append]
    simpa using this
  · exact (HM2.trans ((Mid.below hba).trans (Mid.grown hg7 hlt0))).set (by simp; omega) _

set_option maxHeartbeats 8000000 in
set_option maxRecDepth 100000 in
theorem height_walk (l : List Seg) (A : Option Addr) (c n : Nat) (w : World) (hn : n = l.length) (hS : Segs w w.heap.size A l) (hg : GoodHole l)
    (hch : ∀ W, Below w.heap.size w W → Calls Try.prog 9 #[.agg #[.slice A n c]] W fun e W' => e = .returned (.int .i64 0) ∧ Below W.heap.size W W') :
    Calls Try.prog 13 #[.agg #[.slice A n c]] w fun e w' => (∃ A' c', e = .returned (.agg #[.slice A' (heightKnots l n).length c']) ∧ w'.ownsRow w.heap.size 81 2 (.slice A' (heightKnots l n).length c') (heightKnots l n).length ((heightKnots l n).flatMap knotC)) ∧ Below w.heap.size w w' := by
  have HS := Lib.hid hS
  have HG := Lib.hid hg
  have hfew := hg.few
  have HN := Lib.hid hn
  have HCH := Lib.hid hch
  rw [← hn] at hfew
  clear hS hg hn hch
  have hfs : Fence.wide.fn 22 := trivial
  have hfc : Fence.wide.fn 9 := trivial
  refine (callsIn_wide (n := 10)).1 ?_
  refine callsIn_of_wp_marks Try.func13 rfl trivial ?_ rfl
  simp only [Try.ntmps13, List.size_toArray, List.length_cons, List.length_nil, Nat.reduceAdd, Nat.reduceSub, Array.replicate_succ, Array.replicate_zero, List.push_toArray, List.append_toArray, List.nil_append, List.cons_append]
  gi_wp2_with fail
  refine (callsIn_wide.2 (HCH.out _ (((Below.refl w.heap.size w).alloc (Nat.le_refl _) _).alloc (by simp) _))).mono ?_
  rintro e w1 ⟨rfl, hb1⟩
  have b0 : Box w1 w.heap.size 27 #[.slice A n c] := ((Box.new w _ _ rfl).alloc _).under hb1
  have br : Box w1 (w.heap.size + 1) 62 #[.slice none 0 0] := (Box.new _ _ _ (by simp)).under hb1
  have hB1 : Below w.heap.size w w1 := (((Below.refl w.heap.size w).alloc (Nat.le_refl _) (.cells #[.slice A n c] 27)).alloc (by simp) (.cells #[.slice none 0 0] 62)).trans (hb1.mono (by simp; omega))
  have hlt1 := br.lt
  have hlt0 := b0.lt
  have e1 : w.heap.size < w1.heap.size + 1 := by omega
  have e2 : w.heap.size < w1.heap.size + 1 + 1 := by omega
  have q0 := b0.cell 0
  simp only [List.getElem?_toArray, List.getElem?_cons_zero] at q0
  obtain ⟨w5, hw5⟩ : ∃ w5, ((((w1.alloc (.cells #[.int .i64 0, .int .i64 0] 81)).alloc (.cells #[.slice (some ⟨w1.heap.size, 0, none⟩) 1 1] 49)).alloc (.cells #[.int .i64 0] 2)).alloc (.cells #[.slice A n c] 27)) = w5 := ⟨_, rfl⟩
  have k0 : Box w5 w1.heap.size 81 #[.int .i64 0, .int .i64 0] := by rw [← hw5]; exact (((Box.new w1 _ _ rfl).alloc _).alloc _).alloc _
  have k1 : Box w5 (w1.heap.size + 1) 49 #[.slice (some ⟨w1.heap.size, 0, none⟩) 1 1] := by rw [← hw5]; exact ((Box.new _ _ _ (by simp)).alloc _).alloc _
  have k2 : Box w5 (w1.heap.size + 1 + 1) 2 #[.int .i64 0] := by rw [← hw5]; exact (Box.new _ _ _ (by simp)).alloc _
  have k3 : Box w5 (w1.heap.size + 1 + 1 + 1) 27 #[.slice A n c] := by rw [← hw5]; exact Box.new _ _ _ (by simp)
  have hB15 : Below w1.heap.size w1 w5 := by rw [← hw5]; exact (by repeat (first | exact Below.refl _ _ | assumption | refine Below.setCell ?_ (by first | (simp; done) | (simp; omega)) _ | refine belowDrewN ?_ _ | refine Below.drew ?_ | refine Below.alloc ?_ (by first | (simp; done) | (simp; omega)) _))
  have hs5 : w5.heap.size = w1.heap.size + 1 + 1 + 1 + 1 := by rw [← hw5]; simp
  have HW5 := Lib.hid hw5
  have HS5 := Lib.hid hs5
  have HB1 := Lib.hid hB1
  have HBR := Lib.hid (br.under hB15)
  clear hw5 hs5 hb1 b0 br hB1
  gi_wp2_with fail
  refine (callsIn_wide.2 (fluid_places _ _)).mono ?_
  rintro e w' ⟨rfl, rfl⟩
  rw [HW5.out]
  gi_wp2_with fail
  have hfs1 : Fence.wide.fn 28 := trivial
  obtain ⟨i0, hi0, hz0, hz1, hz2⟩ := info_parts info_Knot
  have HOWN : Hid (w5.ownsRow w1.heap.size 81 2 (.slice (some ⟨w1.heap.size, 0, none⟩) 1 1) 1 [.int .i64 0, .int .i64 0]) := by
    unfold Hid
    rw [← HW5.out]
    exact ((((World.ownsRow_lit (base := w1.heap.size) (e := 81) (size := 2) w1 #[.int .i64 0, .int .i64 0] 1 (Nat.le_refl _) (by unfold maxLen; omega) rfl).alloc _).alloc _).alloc _)
  have hk0 : Hid ((heightKnots l 0).flatMap knotC = [.int .i64 0, .int .i64 0]) := by simp [Hid, heightKnots, knotC, sizeUp, riseUp, sumFrom]
  have HB15 := Lib.hid hB15
  clear hB15 e1 e2
  refine range_idx2 rfl (by omega) (gf := 28) (lb := #[.pointer (some ⟨w1.heap.size + 1 + 1 + 1, 0, none⟩)]) rfl trivial enters_places1
    (places_iter 9 (w1.heap.size + 1 + 1 + 1) w.heap.size A c l HG.out (by omega)) (fun _ => rfl)
    ?rd ?rdc
    (fun k W => HSt w w1.heap.size A n c l k W)
    (fun _ _ _ => False) ?ic ?ixc ?i0
    (fun k a' W => ∃ bs, w1.heap.size + 1 + 1 + 1 < bs ∧ Box W bs 24 #[.int .i64 (sg l k).Long, .int .i64 (sg l k).Rise, .int .i64 (sg l k).Area, .int .i64 (sg l k).Gap] ∧ a' = { tmps := #[.agg #[.slice A n c], .pointer (some ⟨w.heap.size, 0, none⟩), .pointer (some ⟨w.heap.size + 1, 0, none⟩), .pointer (some ⟨w1.heap.size + 1, 0, none⟩), .pointer (some ⟨w1.heap.size + 1 + 1, 0, none⟩), .int .i64 (sizeUp l k), .pointer (some ⟨bs, 0, none⟩), .agg #[.slice A n c], .int .i64 0, .bool false, undef, .agg #[.int .i64 0, .int .i64 0], .slice (some ⟨w1.heap.size, 0, none⟩) 1 1, .agg #[.slice A n c], .func (.func 28) #[] #[.pointer (some ⟨w1.heap.size + 1 + 1 + 1, 0, none⟩)], .int .i64 (sizeUp l k), segV (sg l k), undef, undef, undef, undef, undef, undef, undef, undef, undef, undef, undef, undef, undef, undef, undef], defers := [] })
    ?axc ?assign ?body ?done ?stop
  case rd => exact ⟨by have := k3.cell 0; rw [← HN.out]; exact this, HS.out.up (HB1.out.trans (HB15.out.mono HB1.out.size)) (Nat.le_refl _)⟩
  case rdc => exact fun W W' h hc => h.calm hc
  case ic =>
    rintro k W W' ⟨v, h0, h1, h2, h2', h3, h4, h5⟩ hc
    exact ⟨v, h0.calm hc, h1.calm hc, h2.calm hc, h2'.calm hc, own_calm h3 hc, below_calm h4 hc (by rw [HS5.out]; omega), Nat.le_trans h5 hc.size⟩
  case ixc => exact fun _ _ _ _ h _ => h
  case i0 =>
    refine ⟨_, HBR.out, k1, k2, k3, ?_, HB1.out.trans (HB15.out.mono HB1.out.size), by rw [HS5.out]; exact Nat.le_refl _⟩
    rw [hk0.out]
    exact HOWN.out
  case axc =>
    rintro k a' W W' ⟨bs, h1, h2, h3⟩ hc
    exact ⟨bs, h1, h2.calm hc, h3⟩
  case assign =>
    rintro L k W K hk hi hr hsz hK
    rw [HS5.out] at hsz
    have HKK := Lib.hid hK
    clear hK hi hr
    simp only [segEnc, segV]
    gi_wp2_with fail
    refine HKK.out _ _ ((Below.refl _ _).alloc (Nat.le_refl _) _) ⟨W.heap.size, by omega, Box.new _ _ _ rfl, rfl⟩
  case body =>
    rintro L k a' W0 W hk hi0' hlt0' hca ⟨v, cr, c1, c2, ch, hown, hB, hsW⟩ hr ⟨bs, hbs, cs, rfl⟩ hsz
    have HI0 := Lib.hid hi0'
    have HCA := Lib.hid hca
    have HCV := Lib.hid c1
    have CH := Lib.hid ch
    clear hi0' ch
    have hmix : Try.prog.follows .mixedOrders = true := by kernel_rfl
    have hfz : Fence.wide.fn 23 := trivial
    have hkn : k < n := by rw [HN.out]; exact hk
    have HSZ := Lib.hid (fun m w => (callsIn_wide (n := m)).2 (fluid_size (sg l k) w (HG.out.fair k hk) (HG.out.seg (k := k) hk).1))
    have hst := Lib.hid (sizeUp_step l k)
    have hrs := Lib.hid (riseUp_step l k)
    have hu := HG.out.ups k (by omega)
    have hu2 := HG.out.seg (k := k) hk
    have hu9 := HG.out.fair k hk
    have hu3 : 0 ≤ sizeUp l k ∧ sizeUp l k ≤ 5242880000 := by omega
    have hu4 : 0 ≤ riseUp l k ∧ riseUp l k ≤ 1048576 := by omega
    have hu10 : 0 ≤ (sg l k).Rise ∧ (sg l k).Rise ≤ 1048576 := ⟨hu9.rise0, by have := hu9.rise1; omega⟩
    obtain ⟨hu5, hu6⟩ := hu3
    obtain ⟨_, hu7, hu8⟩ := hu2
    obtain ⟨r0, r1⟩ := hu4
    obtain ⟨r2, r3⟩ := hu10
    have hk2 := Lib.hid (hk_succ l k)
    have HR := Lib.hid hr
    have HB := Lib.hid hB
    have OWN := Lib.hid hown
    have hne1 := Lib.hid (own_box hown c1 (by decide))
    have hne2 := Lib.hid (own_box hown c2 (by decide))
    have hbl := c2.lt
    have q20 := c2.cell 0
    have q21 := c2.frozen 0
    obtain ⟨q4, q5, q6, q7⟩ := seg_box cs
    simp only [List.getElem?_toArray, List.getElem?_cons_zero] at q20
    have C1 := Lib.hid c1
    have C2 := Lib.hid c2
    have CR := Lib.hid cr
    have CS := Lib.hid cs
    clear hu hr cs hk c1 c2 cr hB hu9 hown hca k0 k1 k2 k3 q0
    unfold segV at *
    generalize hsu : sizeUp l (k + 1) = su1 at *
    generalize hru : riseUp l (k + 1) = ru1 at *
    have HSU := Lib.hid hsu
    have HRU := Lib.hid hru
    clear hsu hru
    generalize sizeUp l k = su at *
    generalize riseUp l k = ru at *
    generalize sg l k = s at *
    have hsw : IntKind.i64.wrap (su + segSize s) = su + segSize s := IntWalk.i64_in _ (by omega)
    gi_wp2_with fail
    obtain ⟨W2, hW2⟩ : ∃ W2, W.setCell ⟨w1.heap.size + 1 + 1, 0, none⟩ (.int .i64 (ru + s.Rise)) = W2 := ⟨_, rfl⟩
    have c2 : Box W2 (w1.heap.size + 1 + 1) 2 #[.int .i64 (ru + s.Rise)] := by rw [← hW2]; simpa using C2.out.set_ 0 (.int .i64 (ru + s.Rise))
    have c1 : Box W2 (w1.heap.size + 1) 49 #[v] := by rw [← hW2]; exact C1.out.far (by simp) _
    have cr : Box W2 (w.heap.size + 1) 62 #[.slice none 0 0] := by rw [← hW2]; exact CR.out.far (by simp; omega) _
    have cs : Box W2 bs 24 #[.int .i64 s.Long, .int .i64 s.Rise, .int .i64 s.Area, .int .i64 s.Gap] := by rw [← hW2]; exact CS.out.far (by simp; omega) _
    have hown : W2.ownsRow w1.heap.size 81 2 v (k + 1) ((heightKnots l k).flatMap knotC) := by rw [← hW2]; exact own_set OWN.out hne2.out _
    have ch2 : Box W2 (w1.heap.size + 1 + 1 + 1) 27 #[.slice A n c] := by rw [← hW2]; exact CH.out.far (by simp) _
    have hB2 : Below w.heap.size w W2 := by rw [← hW2]; exact HB.out.setCell (by simp; omega) _
    have hM2 : Mid W0.heap.size W W2 := by rw [← hW2]; exact (Mid.refl _ _).set (by rw [HS5.out] at hlt0'; simp; omega) _
    have hK2 : KeepsFrom w5.heap.size W W2 := by rw [← hW2]; exact keeps_set W _ _
    have hsz2 : W2.heap.size = W.heap.size := by rw [← hW2]; simp
    rw [hW2]
    clear hW2 q20 q21 q4 q5 q6 q7 C1 C2 CR CS OWN HR HB
    have q20 := c2.cell 0
    have q10 := c1.cell 0
    have q11 := c1.frozen 0
    obtain ⟨q4, q5, q6, q7⟩ := seg_box cs
    simp only [List.getElem?_toArray, List.getElem?_cons_zero] at q20 q10
    have l1 := c1.lt
    have l2 := c2.lt
    have C1 := Lib.hid c1
    have C2 := Lib.hid c2
    have CR := Lib.hid cr
    have OWN := Lib.hid hown
    have CH2 := Lib.hid ch2
    have HB2 := Lib.hid hB2
    have HM2 := Lib.hid hM2
    have HK2 := Lib.hid hK2
    have HSZ2 := Lib.hid hsz2
    clear c1 c2 cr cs hown ch2 hB2 hM2 hK2 hsz2
    refine wpIn_region_any hmix ?_
    refine wpAnyIn_round (by kernel_rfl) _ _ _ _ ?_
    change wpAnyIn _ _ _ _ _ _ _ _ _ (World.drew _)
    (refine wpAnyIn_take (i := 1) (v := .int .i64 su) rfl rfl (by decide +kernel) (by decide +kernel) (by decide +kernel) (fun _ _ _ h => h) ⟨Or.inl ⟨by rfl, fun w => by go_simp⟩, fun _ => rfl⟩ ?_)
    repeat' (first
      | with_reducible exact AllReadyIn.nil
      | (with_reducible refine AllReadyIn.cons rfl (fun K hK => ?_) ?_)
      | ((with_reducible refine wpAnyIn_done ?_ ?_ _); focus (decide +kernel))
      | ((with_reducible refine any_gate ?_); refine wpAnyIn_take (i := 4) (v := .int .i64 (su + segSize s)) rfl rfl (by decide +kernel) (by decide +kernel) (by decide +kernel) (fun _ _ _ h => h) ⟨Or.inl ⟨by rfl, fun w => by go_simp⟩, fun _ => rfl⟩ ?_)
      | ((with_reducible refine any_gate ?_); refine wpAnyIn_take (i := 6) (v := .agg #[.int .i64 (su + segSize s), .int .i64 (ru + s.Rise)]) rfl rfl (by decide +kernel) (by decide +kernel) (by decide +kernel) (fun _ _ _ h => h) ⟨Or.inl ⟨by rfl, fun w => by go_simp⟩, fun _ => rfl⟩ ?_)
      | ((with_reducible refine any_gate ?_); refine wpAnyIn_ready (rs := [0, 2, 5]) ?_ (by simp) ?_; focus (decide +kernel))
      | ((with_reducible refine any_gate ?_); refine wpAnyIn_ready (rs := [2, 5]) ?_ (by simp) ?_; focus (decide +kernel))
      | ((with_reducible refine any_gate ?_); refine wpAnyIn_ready (rs := [0, 3, 5]) ?_ (by simp) ?_; focus (decide +kernel))
      | ((with_reducible refine any_gate ?_); refine wpAnyIn_ready (rs := [0, 2]) ?_ (by simp) ?_; focus (decide +kernel))
      | ((with_reducible refine any_gate ?_); refine wpAnyIn_ready (rs := [3, 5]) ?_ (by simp) ?_; focus (decide +kernel))
      | ((with_reducible refine any_gate ?_); refine wpAnyIn_ready (rs := [2]) ?_ (by simp) ?_; focus (decide +kernel))
      | ((with_reducible refine any_gate ?_); refine wpAnyIn_ready (rs := [0, 3]) ?_ (by simp) ?_; focus (decide +kernel))
      | ((with_reducible refine any_gate ?_); refine wpAnyIn_ready (rs := [0, 5]) ?_ (by simp) ?_; focus (decide +kernel))
      | ((with_reducible refine any_gate ?_); refine wpAnyIn_ready (rs := [5]) ?_ (by simp) ?_; focus (decide +kernel))
      | ((with_reducible refine any_gate ?_); refine wpAnyIn_ready (rs := [0, 7]) ?_ (by simp) ?_; focus (decide +kernel))
      | ((with_reducible refine any_gate ?_); refine wpAnyIn_ready (rs := [3]) ?_ (by simp) ?_; focus (decide +kernel))
      | ((with_reducible refine any_gate ?_); refine wpAnyIn_ready (rs := [0]) ?_ (by simp) ?_; focus (decide +kernel))
      | ((with_reducible refine any_gate ?_); refine wpAnyIn_ready (rs := [7]) ?_ (by simp) ?_; focus (decide +kernel))
      | ((with_reducible refine any_gate ?_); refine wpAnyIn_ready (rs := [8]) ?_ (by simp) ?_; focus (decide +kernel))
      | ((with_reducible refine any_gate ?_); refine wpAnyIn_ready (rs := [9]) ?_ (by simp) ?_; focus (decide +kernel))
      | (refine step_pos (by simp [Region.wanted]) ?_; go_simp; (with_reducible refine hK _ _ ?_); clear hK K)
      | (refine step_pos (by simp [Region.wanted]) ?_; gi_wp2_with fail; refine (HSZ.out _ _).mono ?_; rintro e w' ⟨rfl, hb3⟩; have z1 : w1.heap.size + 1 < w'.heap.size := (by have := hb3.size; simp at this; omega); have z2 : w1.heap.size + 1 + 1 < w'.heap.size := (by have := hb3.size; simp at this; omega); have x0 := (C1.out.drew.under hb3).cell 0; have x1 := (C2.out.drew.under hb3).cell 0; have x2 := ((C1.out.drew.under hb3).alloc (.cells #[.int .i64 (su + segSize s), .int .i64 (ru + s.Rise)] 81)).frozen 0; simp only [List.getElem?_toArray, List.getElem?_cons_zero] at x0 x1; have OW3 := Lib.hid ((own_under OWN.out (show Below W2.heap.size W2 w' from (Below.refl _ W2).drew.trans hb3)).alloc (.cells #[.int .i64 (su + segSize s), .int .i64 (ru + s.Rise)] 81)); obtain ⟨g7, cap7, w7, hrun, hown7, hg7, hat7, hlt7⟩ := run_append_lies (P := Try.prog) (w'.alloc (.cells #[.int .i64 (su + segSize s), .int .i64 (ru + s.Rise)] 81)) 49 49 w1.heap.size 81 i0 (.agg #[.int .i64 0, .int .i64 0]) 2 16 Try.underlying49 hi0 hz0 hz1 hz2 rfl (by decide) v (k + 1) ((heightKnots l k).flatMap knotC) OW3.out ⟨w'.heap.size, 0, none⟩ 1 1 (knotC ⟨su + segSize s, ru + s.Rise⟩) rfl (cells_new w' (knotC ⟨su + segSize s, ru + s.Rise⟩) 81) (by simp [knotC, Value.oneCell']) (by omega) (by unfold maxLen; omega) (by omega) (by have := hb3.size; simp at this; simp; omega) (w'.heap.size + 1) (by simp); have hrun2 : (appSem #[49, 49] 49 #[v, .slice (some ⟨w'.heap.size, 0, none⟩) 1 1]).run Try.prog (w'.alloc (.cells #[.int .i64 (su + segSize s), .int .i64 (ru + s.Rise)] 81)) = .ok (.slice (some ⟨g7, 0, none⟩) (k + 1 + 1) cap7) w7 := hrun; have y1 := (((C1.out.drew.under hb3).alloc (.cells #[.int .i64 (su + segSize s), .int .i64 (ru + s.Rise)] 81)).grownRow hg7 hne1.out).cell 0; have y2 := (((C1.out.drew.under hb3).alloc (.cells #[.int .i64 (su + segSize s), .int .i64 (ru + s.Rise)] 81)).grownRow hg7 hne1.out).frozen 0; simp only [List.getElem?_toArray, List.getElem?_cons_zero] at y1; clear hrun; (with_reducible refine hK _ _ ?_); clear hK K))
    all_goals
      clear hsw
      gi_wp2_with fail
      obtain ⟨r1', r2', r3', r4'⟩ := height_round (B5 := w5.heap.size) (by omega) (by rw [hk2.out, hst.out, hrs.out]) (by rw [HRU.out, hrs.out]) HS.out HN.out HI0.out (by rw [HS5.out] at hlt0'; omega) HCA.out HCV.out C1.out C2.out CR.out CH2.out OWN.out HB2.out HM2.out HK2.out ((Below.refl _ W2).drew.trans hb3) hown7 hg7
      exact ⟨r1', r2', r3', r4'⟩
  case done =>
    rintro W ⟨v, cr, c1, c2, ch, hown, hB, hsW⟩ hK
    obtain ⟨A', c', rfl, _, _⟩ := own_form hown
    have g0 := c1.cell 0
    have g2 := cr.cell 0
    have g3 := cr.frozen 0
    simp only [List.getElem?_toArray, List.getElem?_cons_zero] at g0 g2
    have CR := Lib.hid cr
    have HB := Lib.hid hB
    have OWN := Lib.hid hown
    have HKD := Lib.hid hK
    clear cr hB hown c1 c2 ch
    gi_wp2_with fail
    have hK' : (W.setCell ⟨w.heap.size + 1, 0, none⟩ (.slice A' (l.length + 1) c')).heap[w5.heap.size]? = some (.deferred (some [])) := (Below.heap_setCell W ⟨w.heap.size + 1, 0, none⟩ _ _ (by rw [HS5.out]; simp; omega)).trans HKD.out
    refine ⟨by simp, .inl ⟨_, _, rfl, run_takeDeferred hK', ?_⟩⟩
    have BX := (CR.out.set_ 0 (.slice A' (l.length + 1) c')).calm (Calm.put (.deferred none) (Nat.le_refl _) hK' rfl)
    refine ⟨_, results_cell1 rfl _ _ _ (w.heap.size + 1) _ rfl (load_line (t := 62) (by simpa using BX)), ⟨A', c', ?_, ?_⟩, ?_⟩
    · rw [hk_len, HN.out]
    · have := own_le (own_calm (own_far (p := ⟨w.heap.size + 1, 0, none⟩) OWN.out (by simp; omega) (.slice A' (l.length + 1) c')) (Calm.put (.deferred none) (Nat.le_refl _) hK' rfl)) (show w.heap.size ≤ w1.heap.size by omega)
      rw [hk_len, HN.out]
      exact this
    · exact (HB.out.setCell (p := ⟨w.heap.size + 1, 0, none⟩) (by simp) _).trans (belowK_b (w := w) (Nat.le_refl _) _ w5.heap.size _ _ (by rw [HS5.out]; omega) hK' rfl rfl)
  case stop =>
    rintro c k W _ h _
    exact h.elim

end Go.Proofs.Ytnhnheigdlnokaa
