/- slices.IndexFunc and slices.ContainsFunc at the element types of this program, for whatever closure. Written by gen_contains.py. -/
import Derived.Test.YtannipfohicpmaaBase
import Derived.Shelf.Abstract
namespace Go.Proofs.Ytannipfohicpmaa
open Go.RowKit Go.Shelf Mpl

/-- the first i of n for which p holds, or -1 -/
def idxFrom (p : Nat → Bool) : Nat → Nat → Int
  | _, 0 => -1
  | i, m + 1 => if p i then (i : Int) else idxFrom p (i + 1) m
theorem idxFrom_any (p : Nat → Bool) (i m : Nat) : decide (0 ≤ idxFrom p i m) = (List.range' i m).any p := by
  induction m generalizing i with
  | zero => simp [idxFrom]
  | succ m ih =>
    rw [idxFrom, List.range'_succ, List.any_cons, ← ih (i + 1)]
    cases p i <;> simp
theorem any_get {α : Type} (q : α → Bool) (l : List α) (f : Nat → Bool) (hf : ∀ i (h : i < l.length), f i = q l[i]) : decide (0 ≤ idxFrom f 0 l.length) = l.any q := by
  rw [idxFrom_any]
  induction l generalizing f with
  | nil => rfl
  | cons a l ih =>
    rw [List.length_cons, List.range'_succ, List.any_cons, List.any_cons, hf 0 (by simp)]
    have : (List.range' (0 + 1) l.length).any f = (List.range' 0 l.length).any (fun i => f (i + 1)) := by
      have h1 : List.range' (0 + 1) l.length = (List.range' 0 l.length).map (1 + ·) := by rw [List.map_add_range']
      rw [h1, List.any_map]
      congr 1
      funext x
      simp [Nat.add_comm]
    rw [this, ih (fun i => f (i + 1)) (fun i h => by rw [hf (i + 1) (by simp; omega)]; simp)]
    simp

/-- what a closure over an element says -/
def Says (P : Program) (g : Nat) (lb : Array Value) (elt : Nat → Value) (p : Nat → Bool) (n : Nat) (w : World) : Prop :=
  ∀ i, i < n → ∀ W, Below w.heap.size w W → Calls P g (#[elt i] ++ lb) W fun e W' => e = .returned (.bool (p i)) ∧ Below W.heap.size W W'

set_option maxHeartbeats 1000000 in
theorem idx_line (g : Nat) (lb : Array Value) (eg : ∀ args w, (callFunc g args).run Try.prog w = .ok (.enter g args) w) (p : Nat → Bool) (c0 : Nat → Value) (A : Option Addr) (n c : Nat) (w : World) (hn : n ≤ 4611686018427387904)
    (hc : 0 < n → ∃ b off, A = some ⟨b, off, none⟩ ∧ b < w.heap.size ∧ ∀ i, i < n → w.cell? ⟨b, off + i, none⟩ = some (c0 i))
    (hp : Says Try.prog g lb (fun i => .agg #[c0 i]) p n w) :
    Calls Try.prog 107 #[.slice A n c, .func (.func g) #[] lb] w fun e w' => e = .returned (.int .i64 (idxFrom p 0 n)) ∧ Below w.heap.size w w' := by
  generalize hres : idxFrom p 0 n = res
  have HR := Lib.hid hres
  clear hres
  have HC := Lib.hid hc
  clear hc
  have HP := Lib.hid hp
  clear hp
  go_enter Try.func107, Try.ntmps107
  go_wp2
  go_loopw [8] (fun s8 wr => ∃ kk : Nat, kk ≤ n ∧ s8 = .int .i64 kk ∧ Hid (idxFrom p kk (n - kk) = res) ∧ Hid (Below w.heap.size w wr)) (fun s8 _ => n - (intOf s8).toNat)
  case atStart => exact ⟨0, Nat.zero_le _, rfl, HR, Below.refl _ w⟩
  case round =>
    obtain ⟨kk, hkk, rfl, hr, BW⟩ := hrel
    by_cases hlt : kk < n
    · obtain ⟨b, off, rfl, hb, hcell⟩ := HC.out (by omega)
      have hcall := HP.out kk hlt wr BW.out
      have d0 : wr.cell? ⟨b, off + kk, none⟩ = some (c0 kk) := (BW.out.cell (p := ⟨b, off + kk, none⟩) hb).trans (hcell kk hlt)
      clear hcell
      have hs : idxFrom p kk (n - kk) = if p kk then (kk : Int) else idxFrom p (kk + 1) (n - (kk + 1)) := by
        rw [show n - kk = (n - (kk + 1)) + 1 by omega, idxFrom]
      have HS := Lib.hid hs
      clear hs
      cases hq : p kk with
      | true =>
        rw [hq] at hcall HS
        have HCL := Lib.hid hcall
        clear hcall
        go_wp2_with (go_at_fn g; refine HCL.out.mono ?_; rintro e w' ⟨rfl, hb'⟩)
        go_ret
        refine ⟨by rw [← hr.out, HS.out]; rfl, BW.out.trans (hb'.mono BW.out.size)⟩
      | false =>
        rw [hq] at hcall HS
        have HCL := Lib.hid hcall
        clear hcall
        go_wp2_with (go_at_fn g; refine HCL.out.mono ?_; rintro e w' ⟨rfl, hb'⟩)
        go_roundw
        case rel => exact ⟨kk + 1, hlt, by go_num, by unfold Hid; rw [← hr.out, HS.out]; rfl, BW.out.trans (hb'.mono BW.out.size)⟩
        case measure => simp [intOf]; omega
    · go_wp2
      go_ret
      exact ⟨by rw [← hr.out, show n - kk = 0 by omega]; rfl, BW.out⟩

set_option maxHeartbeats 1000000 in
theorem contains_line (g : Nat) (lb : Array Value) (eg : ∀ args w, (callFunc g args).run Try.prog w = .ok (.enter g args) w) (p : Nat → Bool) (c0 : Nat → Value) (A : Option Addr) (n c : Nat) (w : World) (hn : n ≤ 4611686018427387904)
    (hc : 0 < n → ∃ b off, A = some ⟨b, off, none⟩ ∧ b < w.heap.size ∧ ∀ i, i < n → w.cell? ⟨b, off + i, none⟩ = some (c0 i))
    (hp : Says Try.prog g lb (fun i => .agg #[c0 i]) p n w) :
    Calls Try.prog 93 #[.slice A n c, .func (.func g) #[] lb] w fun e w' => e = .returned (.bool (decide (0 ≤ idxFrom p 0 n))) ∧ Below w.heap.size w w' := by
  have hi := Lib.hid (idx_line g lb eg p c0 A n c w hn hc hp)
  clear hc hp eg
  generalize idxFrom p 0 n = res at *
  go_enter Try.func93, Try.ntmps93
  go_wp2_with (go_at_call 107; refine hi.out.mono ?_; rintro e w' ⟨rfl, hb'⟩)
  go_ret
  exact ⟨rfl, hb'⟩

set_option maxHeartbeats 1000000 in
theorem idx_int64 (g : Nat) (lb : Array Value) (eg : ∀ args w, (callFunc g args).run Try.prog w = .ok (.enter g args) w) (p : Nat → Bool) (c0 : Nat → Value) (A : Option Addr) (n c : Nat) (w : World) (hn : n ≤ 4611686018427387904)
    (hc : 0 < n → ∃ b off, A = some ⟨b, off, none⟩ ∧ b < w.heap.size ∧ ∀ i, i < n → w.cell? ⟨b, off + i, none⟩ = some (c0 i))
    (hp : Says Try.prog g lb (fun i => c0 i) p n w) :
    Calls Try.prog 113 #[.slice A n c, .func (.func g) #[] lb] w fun e w' => e = .returned (.int .i64 (idxFrom p 0 n)) ∧ Below w.heap.size w w' := by
  generalize hres : idxFrom p 0 n = res
  have HR := Lib.hid hres
  clear hres
  have HC := Lib.hid hc
  clear hc
  have HP := Lib.hid hp
  clear hp
  go_enter Try.func113, Try.ntmps113
  go_wp2
  go_loopw [8] (fun s8 wr => ∃ kk : Nat, kk ≤ n ∧ s8 = .int .i64 kk ∧ Hid (idxFrom p kk (n - kk) = res) ∧ Hid (Below w.heap.size w wr)) (fun s8 _ => n - (intOf s8).toNat)
  case atStart => exact ⟨0, Nat.zero_le _, rfl, HR, Below.refl _ w⟩
  case round =>
    obtain ⟨kk, hkk, rfl, hr, BW⟩ := hrel
    by_cases hlt : kk < n
    · obtain ⟨b, off, rfl, hb, hcell⟩ := HC.out (by omega)
      have hcall := HP.out kk hlt wr BW.out
      have d0 : wr.cell? ⟨b, off + kk, none⟩ = some (c0 kk) := (BW.out.cell (p := ⟨b, off + kk, none⟩) hb).trans (hcell kk hlt)
      clear hcell
      have hs : idxFrom p kk (n - kk) = if p kk then (kk : Int) else idxFrom p (kk + 1) (n - (kk + 1)) := by
        rw [show n - kk = (n - (kk + 1)) + 1 by omega, idxFrom]
      have HS := Lib.hid hs
      clear hs
      cases hq : p kk with
      | true =>
        rw [hq] at hcall HS
        have HCL := Lib.hid hcall
        clear hcall
        go_wp2_with (go_at_fn g; refine HCL.out.mono ?_; rintro e w' ⟨rfl, hb'⟩)
        go_ret
        refine ⟨by rw [← hr.out, HS.out]; rfl, BW.out.trans (hb'.mono BW.out.size)⟩
      | false =>
        rw [hq] at hcall HS
        have HCL := Lib.hid hcall
        clear hcall
        go_wp2_with (go_at_fn g; refine HCL.out.mono ?_; rintro e w' ⟨rfl, hb'⟩)
        go_roundw
        case rel => exact ⟨kk + 1, hlt, by go_num, by unfold Hid; rw [← hr.out, HS.out]; rfl, BW.out.trans (hb'.mono BW.out.size)⟩
        case measure => simp [intOf]; omega
    · go_wp2
      go_ret
      exact ⟨by rw [← hr.out, show n - kk = 0 by omega]; rfl, BW.out⟩

set_option maxHeartbeats 1000000 in
theorem contains_int64 (g : Nat) (lb : Array Value) (eg : ∀ args w, (callFunc g args).run Try.prog w = .ok (.enter g args) w) (p : Nat → Bool) (c0 : Nat → Value) (A : Option Addr) (n c : Nat) (w : World) (hn : n ≤ 4611686018427387904)
    (hc : 0 < n → ∃ b off, A = some ⟨b, off, none⟩ ∧ b < w.heap.size ∧ ∀ i, i < n → w.cell? ⟨b, off + i, none⟩ = some (c0 i))
    (hp : Says Try.prog g lb (fun i => c0 i) p n w) :
    Calls Try.prog 98 #[.slice A n c, .func (.func g) #[] lb] w fun e w' => e = .returned (.bool (decide (0 ≤ idxFrom p 0 n))) ∧ Below w.heap.size w w' := by
  have hi := Lib.hid (idx_int64 g lb eg p c0 A n c w hn hc hp)
  clear hc hp eg
  generalize idxFrom p 0 n = res at *
  go_enter Try.func98, Try.ntmps98
  go_wp2_with (go_at_call 113; refine hi.out.mono ?_; rintro e w' ⟨rfl, hb'⟩)
  go_ret
  exact ⟨rfl, hb'⟩

set_option maxHeartbeats 1000000 in
theorem idx_int (g : Nat) (lb : Array Value) (eg : ∀ args w, (callFunc g args).run Try.prog w = .ok (.enter g args) w) (p : Nat → Bool) (c0 : Nat → Value) (A : Option Addr) (n c : Nat) (w : World) (hn : n ≤ 4611686018427387904)
    (hc : 0 < n → ∃ b off, A = some ⟨b, off, none⟩ ∧ b < w.heap.size ∧ ∀ i, i < n → w.cell? ⟨b, off + i, none⟩ = some (c0 i))
    (hp : Says Try.prog g lb (fun i => c0 i) p n w) :
    Calls Try.prog 105 #[.slice A n c, .func (.func g) #[] lb] w fun e w' => e = .returned (.int .i64 (idxFrom p 0 n)) ∧ Below w.heap.size w w' := by
  generalize hres : idxFrom p 0 n = res
  have HR := Lib.hid hres
  clear hres
  have HC := Lib.hid hc
  clear hc
  have HP := Lib.hid hp
  clear hp
  go_enter Try.func105, Try.ntmps105
  go_wp2
  go_loopw [8] (fun s8 wr => ∃ kk : Nat, kk ≤ n ∧ s8 = .int .i64 kk ∧ Hid (idxFrom p kk (n - kk) = res) ∧ Hid (Below w.heap.size w wr)) (fun s8 _ => n - (intOf s8).toNat)
  case atStart => exact ⟨0, Nat.zero_le _, rfl, HR, Below.refl _ w⟩
  case round =>
    obtain ⟨kk, hkk, rfl, hr, BW⟩ := hrel
    by_cases hlt : kk < n
    · obtain ⟨b, off, rfl, hb, hcell⟩ := HC.out (by omega)
      have hcall := HP.out kk hlt wr BW.out
      have d0 : wr.cell? ⟨b, off + kk, none⟩ = some (c0 kk) := (BW.out.cell (p := ⟨b, off + kk, none⟩) hb).trans (hcell kk hlt)
      clear hcell
      have hs : idxFrom p kk (n - kk) = if p kk then (kk : Int) else idxFrom p (kk + 1) (n - (kk + 1)) := by
        rw [show n - kk = (n - (kk + 1)) + 1 by omega, idxFrom]
      have HS := Lib.hid hs
      clear hs
      cases hq : p kk with
      | true =>
        rw [hq] at hcall HS
        have HCL := Lib.hid hcall
        clear hcall
        go_wp2_with (go_at_fn g; refine HCL.out.mono ?_; rintro e w' ⟨rfl, hb'⟩)
        go_ret
        refine ⟨by rw [← hr.out, HS.out]; rfl, BW.out.trans (hb'.mono BW.out.size)⟩
      | false =>
        rw [hq] at hcall HS
        have HCL := Lib.hid hcall
        clear hcall
        go_wp2_with (go_at_fn g; refine HCL.out.mono ?_; rintro e w' ⟨rfl, hb'⟩)
        go_roundw
        case rel => exact ⟨kk + 1, hlt, by go_num, by unfold Hid; rw [← hr.out, HS.out]; rfl, BW.out.trans (hb'.mono BW.out.size)⟩
        case measure => simp [intOf]; omega
    · go_wp2
      go_ret
      exact ⟨by rw [← hr.out, show n - kk = 0 by omega]; rfl, BW.out⟩

set_option maxHeartbeats 1000000 in
theorem contains_int (g : Nat) (lb : Array Value) (eg : ∀ args w, (callFunc g args).run Try.prog w = .ok (.enter g args) w) (p : Nat → Bool) (c0 : Nat → Value) (A : Option Addr) (n c : Nat) (w : World) (hn : n ≤ 4611686018427387904)
    (hc : 0 < n → ∃ b off, A = some ⟨b, off, none⟩ ∧ b < w.heap.size ∧ ∀ i, i < n → w.cell? ⟨b, off + i, none⟩ = some (c0 i))
    (hp : Says Try.prog g lb (fun i => c0 i) p n w) :
    Calls Try.prog 87 #[.slice A n c, .func (.func g) #[] lb] w fun e w' => e = .returned (.bool (decide (0 ≤ idxFrom p 0 n))) ∧ Below w.heap.size w w' := by
  have hi := Lib.hid (idx_int g lb eg p c0 A n c w hn hc hp)
  clear hc hp eg
  generalize idxFrom p 0 n = res at *
  go_enter Try.func87, Try.ntmps87
  go_wp2_with (go_at_call 105; refine hi.out.mono ?_; rintro e w' ⟨rfl, hb'⟩)
  go_ret
  exact ⟨rfl, hb'⟩

set_option maxHeartbeats 1000000 in
theorem idx_test (g : Nat) (lb : Array Value) (eg : ∀ args w, (callFunc g args).run Try.prog w = .ok (.enter g args) w) (p : Nat → Bool) (c0 c1 c2 : Nat → Value) (A : Option Addr) (n c : Nat) (w : World) (hn : n ≤ 4611686018427387904)
    (hc : 0 < n → ∃ b off, A = some ⟨b, off, none⟩ ∧ b < w.heap.size ∧ ∀ i, i < n → w.cell? ⟨b, off + i * 3, none⟩ = some (c0 i) ∧ w.cell? ⟨b, off + i * 3 + 1, none⟩ = some (c1 i) ∧ w.cell? ⟨b, off + i * 3 + 2, none⟩ = some (c2 i))
    (hp : Says Try.prog g lb (fun i => .agg #[c0 i, c1 i, c2 i]) p n w) :
    Calls Try.prog 90 #[.slice A n c, .func (.func g) #[] lb] w fun e w' => e = .returned (.int .i64 (idxFrom p 0 n)) ∧ Below w.heap.size w w' := by
  generalize hres : idxFrom p 0 n = res
  have HR := Lib.hid hres
  clear hres
  have HC := Lib.hid hc
  clear hc
  have HP := Lib.hid hp
  clear hp
  go_enter Try.func90, Try.ntmps90
  go_wp2
  go_loopw [8] (fun s8 wr => ∃ kk : Nat, kk ≤ n ∧ s8 = .int .i64 kk ∧ Hid (idxFrom p kk (n - kk) = res) ∧ Hid (Below w.heap.size w wr)) (fun s8 _ => n - (intOf s8).toNat)
  case atStart => exact ⟨0, Nat.zero_le _, rfl, HR, Below.refl _ w⟩
  case round =>
    obtain ⟨kk, hkk, rfl, hr, BW⟩ := hrel
    by_cases hlt : kk < n
    · obtain ⟨b, off, rfl, hb, hcell⟩ := HC.out (by omega)
      have hcall := HP.out kk hlt wr BW.out
      have d0 : wr.cell? ⟨b, off + kk * 3, none⟩ = some (c0 kk) := (BW.out.cell (p := ⟨b, off + kk * 3, none⟩) hb).trans (hcell kk hlt).1
      have d1 : wr.cell? ⟨b, off + kk * 3 + 1, none⟩ = some (c1 kk) := (BW.out.cell (p := ⟨b, off + kk * 3 + 1, none⟩) hb).trans (hcell kk hlt).2.1
      have d2 : wr.cell? ⟨b, off + kk * 3 + 2, none⟩ = some (c2 kk) := (BW.out.cell (p := ⟨b, off + kk * 3 + 2, none⟩) hb).trans (hcell kk hlt).2.2
      clear hcell
      have hs : idxFrom p kk (n - kk) = if p kk then (kk : Int) else idxFrom p (kk + 1) (n - (kk + 1)) := by
        rw [show n - kk = (n - (kk + 1)) + 1 by omega, idxFrom]
      have HS := Lib.hid hs
      clear hs
      cases hq : p kk with
      | true =>
        rw [hq] at hcall HS
        have HCL := Lib.hid hcall
        clear hcall
        go_wp2_with (go_at_fn g; refine HCL.out.mono ?_; rintro e w' ⟨rfl, hb'⟩)
        go_ret
        refine ⟨by rw [← hr.out, HS.out]; rfl, BW.out.trans (hb'.mono BW.out.size)⟩
      | false =>
        rw [hq] at hcall HS
        have HCL := Lib.hid hcall
        clear hcall
        go_wp2_with (go_at_fn g; refine HCL.out.mono ?_; rintro e w' ⟨rfl, hb'⟩)
        go_roundw
        case rel => exact ⟨kk + 1, hlt, by go_num, by unfold Hid; rw [← hr.out, HS.out]; rfl, BW.out.trans (hb'.mono BW.out.size)⟩
        case measure => simp [intOf]; omega
    · go_wp2
      go_ret
      exact ⟨by rw [← hr.out, show n - kk = 0 by omega]; rfl, BW.out⟩

set_option maxHeartbeats 1000000 in
theorem contains_test (g : Nat) (lb : Array Value) (eg : ∀ args w, (callFunc g args).run Try.prog w = .ok (.enter g args) w) (p : Nat → Bool) (c0 c1 c2 : Nat → Value) (A : Option Addr) (n c : Nat) (w : World) (hn : n ≤ 4611686018427387904)
    (hc : 0 < n → ∃ b off, A = some ⟨b, off, none⟩ ∧ b < w.heap.size ∧ ∀ i, i < n → w.cell? ⟨b, off + i * 3, none⟩ = some (c0 i) ∧ w.cell? ⟨b, off + i * 3 + 1, none⟩ = some (c1 i) ∧ w.cell? ⟨b, off + i * 3 + 2, none⟩ = some (c2 i))
    (hp : Says Try.prog g lb (fun i => .agg #[c0 i, c1 i, c2 i]) p n w) :
    Calls Try.prog 58 #[.slice A n c, .func (.func g) #[] lb] w fun e w' => e = .returned (.bool (decide (0 ≤ idxFrom p 0 n))) ∧ Below w.heap.size w w' := by
  have hi := Lib.hid (idx_test g lb eg p c0 c1 c2 A n c w hn hc hp)
  clear hc hp eg
  generalize idxFrom p 0 n = res at *
  go_enter Try.func58, Try.ntmps58
  go_wp2_with (go_at_call 90; refine hi.out.mono ?_; rintro e w' ⟨rfl, hb'⟩)
  go_ret
  exact ⟨rfl, hb'⟩

set_option maxHeartbeats 1000000 in
theorem idx_grade (g : Nat) (lb : Array Value) (eg : ∀ args w, (callFunc g args).run Try.prog w = .ok (.enter g args) w) (p : Nat → Bool) (c0 c1 c2 c3 c4 : Nat → Value) (A : Option Addr) (n c : Nat) (w : World) (hn : n ≤ 4611686018427387904)
    (hc : 0 < n → ∃ b off, A = some ⟨b, off, none⟩ ∧ b < w.heap.size ∧ ∀ i, i < n → w.cell? ⟨b, off + i * 5, none⟩ = some (c0 i) ∧ w.cell? ⟨b, off + i * 5 + 1, none⟩ = some (c1 i) ∧ w.cell? ⟨b, off + i * 5 + 2, none⟩ = some (c2 i) ∧ w.cell? ⟨b, off + i * 5 + 3, none⟩ = some (c3 i) ∧ w.cell? ⟨b, off + i * 5 + 4, none⟩ = some (c4 i))
    (hp : Says Try.prog g lb (fun i => .agg #[c0 i, c1 i, c2 i, c3 i, c4 i]) p n w) :
    Calls Try.prog 100 #[.slice A n c, .func (.func g) #[] lb] w fun e w' => e = .returned (.int .i64 (idxFrom p 0 n)) ∧ Below w.heap.size w w' := by
  generalize hres : idxFrom p 0 n = res
  have HR := Lib.hid hres
  clear hres
  have HC := Lib.hid hc
  clear hc
  have HP := Lib.hid hp
  clear hp
  go_enter Try.func100, Try.ntmps100
  go_wp2
  go_loopw [8] (fun s8 wr => ∃ kk : Nat, kk ≤ n ∧ s8 = .int .i64 kk ∧ Hid (idxFrom p kk (n - kk) = res) ∧ Hid (Below w.heap.size w wr)) (fun s8 _ => n - (intOf s8).toNat)
  case atStart => exact ⟨0, Nat.zero_le _, rfl, HR, Below.refl _ w⟩
  case round =>
    obtain ⟨kk, hkk, rfl, hr, BW⟩ := hrel
    by_cases hlt : kk < n
    · obtain ⟨b, off, rfl, hb, hcell⟩ := HC.out (by omega)
      have hcall := HP.out kk hlt wr BW.out
      have d0 : wr.cell? ⟨b, off + kk * 5, none⟩ = some (c0 kk) := (BW.out.cell (p := ⟨b, off + kk * 5, none⟩) hb).trans (hcell kk hlt).1
      have d1 : wr.cell? ⟨b, off + kk * 5 + 1, none⟩ = some (c1 kk) := (BW.out.cell (p := ⟨b, off + kk * 5 + 1, none⟩) hb).trans (hcell kk hlt).2.1
      have d2 : wr.cell? ⟨b, off + kk * 5 + 2, none⟩ = some (c2 kk) := (BW.out.cell (p := ⟨b, off + kk * 5 + 2, none⟩) hb).trans (hcell kk hlt).2.2.1
      have d3 : wr.cell? ⟨b, off + kk * 5 + 3, none⟩ = some (c3 kk) := (BW.out.cell (p := ⟨b, off + kk * 5 + 3, none⟩) hb).trans (hcell kk hlt).2.2.2.1
      have d4 : wr.cell? ⟨b, off + kk * 5 + 4, none⟩ = some (c4 kk) := (BW.out.cell (p := ⟨b, off + kk * 5 + 4, none⟩) hb).trans (hcell kk hlt).2.2.2.2
      clear hcell
      have hs : idxFrom p kk (n - kk) = if p kk then (kk : Int) else idxFrom p (kk + 1) (n - (kk + 1)) := by
        rw [show n - kk = (n - (kk + 1)) + 1 by omega, idxFrom]
      have HS := Lib.hid hs
      clear hs
      cases hq : p kk with
      | true =>
        rw [hq] at hcall HS
        have HCL := Lib.hid hcall
        clear hcall
        go_wp2_with (go_at_fn g; refine HCL.out.mono ?_; rintro e w' ⟨rfl, hb'⟩)
        go_ret
        refine ⟨by rw [← hr.out, HS.out]; rfl, BW.out.trans (hb'.mono BW.out.size)⟩
      | false =>
        rw [hq] at hcall HS
        have HCL := Lib.hid hcall
        clear hcall
        go_wp2_with (go_at_fn g; refine HCL.out.mono ?_; rintro e w' ⟨rfl, hb'⟩)
        go_roundw
        case rel => exact ⟨kk + 1, hlt, by go_num, by unfold Hid; rw [← hr.out, HS.out]; rfl, BW.out.trans (hb'.mono BW.out.size)⟩
        case measure => simp [intOf]; omega
    · go_wp2
      go_ret
      exact ⟨by rw [← hr.out, show n - kk = 0 by omega]; rfl, BW.out⟩

set_option maxHeartbeats 1000000 in
theorem contains_grade (g : Nat) (lb : Array Value) (eg : ∀ args w, (callFunc g args).run Try.prog w = .ok (.enter g args) w) (p : Nat → Bool) (c0 c1 c2 c3 c4 : Nat → Value) (A : Option Addr) (n c : Nat) (w : World) (hn : n ≤ 4611686018427387904)
    (hc : 0 < n → ∃ b off, A = some ⟨b, off, none⟩ ∧ b < w.heap.size ∧ ∀ i, i < n → w.cell? ⟨b, off + i * 5, none⟩ = some (c0 i) ∧ w.cell? ⟨b, off + i * 5 + 1, none⟩ = some (c1 i) ∧ w.cell? ⟨b, off + i * 5 + 2, none⟩ = some (c2 i) ∧ w.cell? ⟨b, off + i * 5 + 3, none⟩ = some (c3 i) ∧ w.cell? ⟨b, off + i * 5 + 4, none⟩ = some (c4 i))
    (hp : Says Try.prog g lb (fun i => .agg #[c0 i, c1 i, c2 i, c3 i, c4 i]) p n w) :
    Calls Try.prog 75 #[.slice A n c, .func (.func g) #[] lb] w fun e w' => e = .returned (.bool (decide (0 ≤ idxFrom p 0 n))) ∧ Below w.heap.size w w' := by
  have hi := Lib.hid (idx_grade g lb eg p c0 c1 c2 c3 c4 A n c w hn hc hp)
  clear hc hp eg
  generalize idxFrom p 0 n = res at *
  go_enter Try.func75, Try.ntmps75
  go_wp2_with (go_at_call 100; refine hi.out.mono ?_; rintro e w' ⟨rfl, hb'⟩)
  go_ret
  exact ⟨rfl, hb'⟩

end Go.Proofs.Ytannipfohicpmaa
