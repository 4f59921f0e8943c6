/- Walks of the package fluid: the least gradient of a flow. -/
import Derived.Test.YtgcfplkfclapiaaFFlows2
import Derived.Test.YtgcfplkfclapiaaContains
namespace Go.Proofs.Ytgcfplkfclapiaa
open Go.RowKit Go.Shelf Mpl

theorem bsearch_step (f : Int → Bool) (n : Nat) (lo hi : Int) (h : lo < hi) : bsearch f (n + 1) lo hi = if f ((lo + hi) / 2) then bsearch f n lo ((lo + hi) / 2) else bsearch f n ((lo + hi) / 2 + 1) hi := by
  rw [bsearch, if_pos h]
theorem bsearch_end (f : Int → Bool) (n : Nat) (lo hi : Int) (h : ¬ lo < hi) : bsearch f n lo hi = lo := by
  cases n with
  | zero => rfl
  | succ n => rw [bsearch, if_neg h]

set_option maxHeartbeats 2000000 in
theorem fluid_first (g : Nat) (lb : Array Value) (eg : ∀ args w, (callFunc g args).run Try.prog w = .ok (.enter g args) w) (f : Int → Bool) (w : World)
    (hp : ∀ x, 0 ≤ x → x ≤ 20000 → ∀ W, Below w.heap.size w W → Calls Try.prog g (#[.int .i64 x] ++ lb) W fun e W' => e = .returned (.bool (f x)) ∧ Below W.heap.size W W') :
    Calls Try.prog 77 #[.int .i64 0, .int .i64 20000, .func (.func g) #[] lb] w fun e w' => e = .returned (.int .i64 (bsearch f 20000 0 20000)) ∧ Below w.heap.size w w' := by
  generalize hres : bsearch f 20000 0 20000 = res
  have HR := Lib.hid hres
  clear hres
  have HP := Lib.hid hp
  clear hp
  have HS := Lib.hid (fun n lo hi h => bsearch_step f n lo hi h)
  have HE := Lib.hid (fun n lo hi h => bsearch_end f n lo hi h)
  go_enter Try.func77, Try.ntmps77
  go_wp2_with fail
  go_loopw [0, 1] (fun s0 s1 wr => ∃ (n : Nat) (lo hi : Int), s0 = .int .i64 lo ∧ s1 = .int .i64 hi ∧ 0 ≤ lo ∧ lo ≤ hi ∧ hi ≤ 20000 ∧ hi - lo ≤ n ∧ Hid (bsearch f n lo hi = res) ∧ Hid (Below w.heap.size w wr)) (fun s0 s1 _ => (intOf s1 - intOf s0).toNat)
  case atStart => exact ⟨20000, 0, 20000, rfl, rfl, by omega, by omega, by omega, by omega, HR, Below.refl _ _⟩
  case round =>
    obtain ⟨n, lo, hi, rfl, rfl, h0, h1, h2, h3, hr, BW⟩ := hrel
    by_cases hlt : lo < hi
    · have t0 : decide (lo < hi) = true := decide_eq_true hlt
      obtain ⟨m, rfl⟩ : ∃ m, n = m + 1 := ⟨n - 1, by omega⟩
      have hs := Lib.hid (HS.out m lo hi hlt)
      have HC := Lib.hid (HP.out ((lo + hi) / 2) (by omega) (by omega) _ BW.out)
      have k1 : lo ≤ (lo + hi) / 2 := by omega
      have k2 : (lo + hi) / 2 < hi := by omega
      cases hq : f ((lo + hi) / 2)
      · rw [hq] at HC hs
        have hn : Hid (bsearch f m ((lo + hi) / 2 + 1) hi = res) := by unfold Hid; rw [← hr.out, hs.out]; rfl
        go_wp2_with (go_at_fn g; refine HC.out.mono ?_; rintro e w' ⟨rfl, hb'⟩)
        go_roundw
        case rel => exact ⟨m, _, _, rfl, rfl, by omega, by omega, by omega, by omega, hn, BW.out.trans (hb'.mono BW.out.size)⟩
        case measure => simp [intOf]; omega
      · rw [hq] at HC hs
        have hn : Hid (bsearch f m lo ((lo + hi) / 2) = res) := by unfold Hid; rw [← hr.out, hs.out]; rfl
        go_wp2_with (go_at_fn g; refine HC.out.mono ?_; rintro e w' ⟨rfl, hb'⟩)
        go_roundw
        case rel => exact ⟨m, _, _, rfl, rfl, by omega, by omega, by omega, by omega, hn, BW.out.trans (hb'.mono BW.out.size)⟩
        case measure => simp [intOf]; omega
    · have t0 : decide (lo < hi) = false := decide_eq_false hlt
      have he := Lib.hid (HE.out n lo hi (by omega))
      go_wp2_with fail
      go_ret
      exact ⟨ret_int (by rw [← hr.out, he.out]), BW.out⟩

theorem enters_Gradient1 : ∀ args w, (callFunc 78 args).run Try.prog w = .ok (.enter 78 args) w := enters_of Try.func78 (by kernel_rfl) rfl

set_option maxHeartbeats 1000000 in
set_option maxRecDepth 100000 in
theorem fluid_Gradient1 (s : Seg) (m : Mud) (g flow : Int) (gs gm gf : Nat) (w : World) (hs : Box w gs 29 #[.int .i64 s.Long, .int .i64 s.Rise, .int .i64 s.Area, .int .i64 s.Gap]) (hm : Box w gm 47 #[.int .i64 m.Yield, .int .i64 m.Visc]) (hf : Box w gf 2 #[.int .i64 flow])
    (hg : GoodSeg s) (hmu : MudIn m flow) (h0 : 0 ≤ g) (h1 : g ≤ 20000) :
    Calls Try.prog 78 #[.int .i64 g, .pointer (some ⟨gs, 0, none⟩), .pointer (some ⟨gm, 0, none⟩), .pointer (some ⟨gf, 0, none⟩)] w fun e w' => e = .returned (.bool (flowsG s m g flow)) ∧ Below w.heap.size w w' := by
  have HF := Lib.hid (fluid_flows s m g flow w hg hmu h0 h1)
  obtain ⟨c0, c1, c2, c3⟩ := load_agg4 hs
  obtain ⟨q4, q5⟩ := mud_box hm
  have q6 := (show w.cell? ⟨gf, 0, none⟩ = some (.int .i64 flow) from hf.cell 0)
  have l1 := hs.lt
  have l2 := hm.lt
  have l3 := hf.lt
  unfold segV mudV at *
  clear hs hm hf hg hmu
  go_enter Try.func78, Try.ntmps78
  go_wp2_with fail
  refine HF.out.mono ?_
  rintro e w1 ⟨rfl, hb⟩
  go_wp2_with fail
  go_ret
  exact ⟨rfl, hb⟩

set_option maxHeartbeats 1000000 in
set_option maxRecDepth 100000 in
theorem fluid_Gradient (s : Seg) (m : Mud) (flow : Int) (w : World) :
    Calls Try.prog 37 #[segV s, mudV m, .int .i64 flow] w fun e w' => e = .returned (.tuple #[.int .i64 (gradient s m flow).1, .bool (gradient s m flow).2]) ∧ Below w.heap.size w w' := by
  have HF := Lib.hid (fun W => fluid_Flows s m 20000 flow W)
  have hd : Hid (gradient s m flow = if possible s m flow && flowsG s m 20000 flow then (bsearch (fun g => flowsG s m g flow) 20000 0 20000, true) else (0, false)) := rfl
  have hfl : flows s m 20000 flow = (possible s m flow && flowsG s m 20000 flow) := by unfold flows; simp [within]
  obtain ⟨w0, hw0⟩ : ∃ w0, ((w.alloc (.cells #[.int .i64 s.Long, .int .i64 s.Rise, .int .i64 s.Area, .int .i64 s.Gap] 29)).alloc (.cells #[.int .i64 m.Yield, .int .i64 m.Visc] 47)).alloc (.cells #[.int .i64 flow] 2) = w0 := ⟨_, rfl⟩
  have bs : Box w0 w.heap.size 29 #[.int .i64 s.Long, .int .i64 s.Rise, .int .i64 s.Area, .int .i64 s.Gap] := by rw [← hw0]; exact ((Box.new w _ _ rfl).alloc _).alloc _
  have bm : Box w0 (w.heap.size + 1) 47 #[.int .i64 m.Yield, .int .i64 m.Visc] := by rw [← hw0]; exact (Box.new _ _ _ (by simp)).alloc _
  have bf : Box w0 (w.heap.size + 1 + 1) 2 #[.int .i64 flow] := by rw [← hw0]; exact Box.new _ _ _ (by simp)
  have hB0 : Below w.heap.size w w0 := by rw [← hw0]; exact (by repeat (first | exact Below.refl _ _ | assumption | refine Below.setCell ?_ (by first | (simp; done) | (simp; omega)) _ | refine belowDrewN ?_ _ | refine Below.drew ?_ | refine Below.alloc ?_ (by first | (simp; done) | (simp; omega)) _))
  have HW0 := Lib.hid hw0
  have BS := Lib.hid bs
  have BM := Lib.hid bm
  have BF := Lib.hid bf
  have HB0 := Lib.hid hB0
  obtain ⟨c0, c1, c2, c3⟩ := load_agg4 bs
  obtain ⟨q4, q5⟩ := mud_box bm
  have q6 := (show w0.cell? ⟨w.heap.size + 1 + 1, 0, none⟩ = some (.int .i64 flow) from bf.cell 0)
  clear hw0 bs bm bf hB0
  cases hp : flows s m 20000 flow
  · have hs : Hid (gradient s m flow = (0, false)) := by unfold Hid; rw [hd.out, ← hfl, hp]; rfl
    rw [hp] at HF
    clear hd hfl hp
    unfold segV mudV at *
    generalize gradient s m flow = res at *
    go_enter Try.func37, Try.ntmps37
    go_wp2_with fail
    rw [HW0.out]
    go_wp2_with fail
    refine (HF.out _).mono ?_
    rintro e w1 ⟨rfl, hb1⟩
    go_wp2_with fail
    go_ret2
    exact ⟨by rw [hs.out]; rfl, HB0.out.trans (hb1.mono HB0.out.size)⟩
  · have hs : Hid (gradient s m flow = (bsearch (fun g => flowsG s m g flow) 20000 0 20000, true)) := by unfold Hid; rw [hd.out, ← hfl, hp]; rfl
    rw [hp] at hfl
    have hpos : possible s m flow = true := by revert hfl; cases possible s m flow <;> simp
    have hpi := (possible_iff s m flow).1 hpos
    have HG := Lib.hid hpi.1.1
    have HM := Lib.hid hpi.2
    rw [hp] at HF
    have HC := Lib.hid (fun W (hW : Below w0.heap.size w0 W) => fluid_first 78 #[.pointer (some ⟨w.heap.size, 0, none⟩), .pointer (some ⟨w.heap.size + 1, 0, none⟩), .pointer (some ⟨w.heap.size + 1 + 1, 0, none⟩)] enters_Gradient1 (fun g => flowsG s m g flow) W
      (fun x h0 h1 W' hW' => fluid_Gradient1 s m x flow _ _ _ W' ((BS.out.under hW).under hW') ((BM.out.under hW).under hW') ((BF.out.under hW).under hW') HG.out HM.out h0 h1))
    clear hd hfl hp hpi hpos
    unfold segV mudV at *
    generalize gradient s m flow = res at *
    generalize bsearch (fun g => flowsG s m g flow) 20000 0 20000 = bb at *
    go_enter Try.func37, Try.ntmps37
    go_wp2_with fail
    rw [HW0.out]
    go_wp2_with fail
    refine (HF.out _).mono ?_
    rintro e w1 ⟨rfl, hb1⟩
    have HC1 := Lib.hid (HC.out w1 hb1)
    go_wp2_with fail
    refine HC1.out.mono ?_
    rintro e w2 ⟨rfl, hb2⟩
    go_wp2_with fail
    go_ret2
    have h1 := HB0.out.trans (hb1.mono HB0.out.size)
    exact ⟨by rw [hs.out]; rfl, h1.trans (hb2.mono h1.size)⟩

end Go.Proofs.Ytgcfplkfclapiaa
