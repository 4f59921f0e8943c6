/- Walks of the package casing: the iterator over the sections of a job. -/
import Derived.Test.YtannipfohicpmaaExtreme
import Derived.Test.YtannipfohicpmaaIter
import Derived.Test.YtannipfohicpmaaJobs
namespace Go.Proofs.Ytannipfohicpmaa
open Go.RowKit Go.Shelf Mpl
attribute [local go_sem] Oper.semAt_some

theorem casing_sections (c0 c1 c2 c3 c4 : Value) (w : World) :
    Calls Try.prog 88 #[.agg #[c0, c1, c2, c3, c4]] w fun e w' => e = .returned (.func (.func 106) #[] #[.pointer (some ⟨w.heap.size, 0, none⟩)]) ∧ w.alloc (.cells #[c0, c1, c2, c3, c4] 36) = w' := by
  go_enter Try.func88, Try.ntmps88
  go_wp2
  go_ret
  exact ⟨rfl, rfl⟩

/-- the ends of the sections can be read -/
def EndsRead (bj B : Nat) (A : Option Addr) (n c : Nat) (l : List Int) (W : World) : Prop :=
  W.cell? ⟨bj, 0, none⟩ = some (.slice A n c) ∧ Ints W B A l
theorem EndsRead.calm {bj B B' : Nat} {A : Option Addr} {n c : Nat} {l : List Int} {W W' : World} (h : EndsRead bj B A n c l W) (hc : Calm B' W W') : EndsRead bj B A n c l W' :=
  ⟨cell_calm h.1 hc, fun h0 => by
    obtain ⟨b, off, rfl, hb, hx⟩ := h.2 h0
    exact ⟨b, off, rfl, hb, fun i hi => cell_calm (hx i hi) hc⟩⟩
theorem EndsRead.set_ {bj B : Nat} {A : Option Addr} {n c : Nat} {l : List Int} {W : World} (h : EndsRead bj B A n c l W) {p : Addr} (hp : B ≤ p.block) (hne : bj ≠ p.block) (u : Value) : EndsRead bj B A n c l (W.setCell p u) :=
  ⟨(World.cell?_setCell_other W p ⟨bj, 0, none⟩ u (fun e => hne (by rw [e]))).trans h.1, h.2.up ((Below.refl B W).setCell hp u) (Nat.le_refl _)⟩

theorem EndsRead.drew {bj B : Nat} {A : Option Addr} {n c : Nat} {l : List Int} {W : World} (h : EndsRead bj B A n c l W) : EndsRead bj B A n c l W.drew := h

def secEnc (l : List Int) (k : Nat) : Array Value := #[.int .i64 k, .agg #[.int .i64 (topOf l k), .int .i64 (pick l k)]]

set_option maxHeartbeats 1000000 in
set_option maxRecDepth 100000 in
theorem sections_iter (n bj B : Nat) (A : Option Addr) (c : Nat) (l : List Int) (hl : l.length ≤ 5) (hn1 : 1 ≤ n) :
    Iter Fence.wide n Try.prog 106 #[.pointer (some ⟨bj, 0, none⟩)] (secEnc l) l.length (EndsRead bj B A l.length c l) := by
  intro L J Jx W hR hJ hY h0
  refine callsIn_of_wp Try.func106 rfl trivial ?_ rfl
  simp only [Try.ntmps106, List.size_toArray, List.length_cons, List.length_nil, Nat.reduceAdd, Nat.reduceSub, Array.replicate_succ, Array.replicate_zero, List.push_toArray, List.append_toArray, List.nil_append, List.cons_append]
  have HY := Lib.hid hY
  have HJ := Lib.hid hJ
  have HR := Lib.hid hR
  obtain ⟨d0, _⟩ := hR
  clear hY hJ
  generalize hn : l.length = N at *
  have HN := Lib.hid hn
  clear hn
  gi_wp2
  gi_loopw [3, 9] (fun s3 s9 wr => ∃ k : Nat, k ≤ N ∧ s9 = .int .i64 k ∧ s3 = .int .i64 (topOf l k) ∧ Hid (EndsRead bj B A N c l wr) ∧ Hid (J k wr)) (fun _ s9 _ => N - (intOf s9).toNat)
  case atStart => exact ⟨0, Nat.zero_le _, rfl, rfl, HR, h0⟩
  case round =>
    obtain ⟨k, hk, rfl, rfl, hr, hj⟩ := hrel
    by_cases hlt : k < N
    · obtain ⟨b, off, rfl, hb, hc⟩ := hr.out.2 (by rw [HN.out]; omega)
      have e0 := hc k (by rw [HN.out]; omega)
      clear hc
      obtain ⟨fn, tmps, assign, body, hy, hRd⟩ := HY.out k wr hlt hj.out hr.out
      simp only [secEnc] at hy
      have HRd := Lib.hid hRd
      clear hRd
      gi_wp2
      refine HRd.out.mono ?_
      rintro e W3 (⟨rfl, hJ3, hk3⟩ | ⟨rfl, hJx3⟩)
      · have HJ3 := Lib.hid hJ3
        have HK3 := Lib.hid hk3
        clear hJ3 hk3
        gi_wp2
        go_roundw
        case rel => exact ⟨k + 1, hlt, by go_num, by simp [topOf], HK3, HJ3⟩
        case measure => simp [intOf]; omega
      · have HJ3 := Lib.hid hJx3
        clear hJx3
        gi_wp2
        refine bodyPost_ret (results_none rfl _ _ _) rfl ?_
        exact ⟨⟨_, rfl⟩, .inr ⟨k, hlt, HJ3.out⟩⟩
    · obtain rfl : k = N := by omega
      gi_wp2
      go_end0
      exact ⟨⟨_, rfl⟩, .inl hj.out⟩

theorem enters_sections1 : ∀ args w, (callFunc 106 args).run Try.prog w = .ok (.enter 106 args) w := enters_of Try.func106 (by kernel_rfl) rfl

end Go.Proofs.Ytannipfohicpmaa
