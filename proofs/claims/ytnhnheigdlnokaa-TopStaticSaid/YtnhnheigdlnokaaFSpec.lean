/- The plain meaning of the layer fluid: functions on lists and integers, with no Go in sight. -/
import Derived.Test.YtnhnheigdlnokaaSpec
namespace Mpl

structure Seg where
  Long : Int
  Rise : Int
  Area : Int
  Gap : Int
structure Slug where
  Weight : Int
  Volume : Int
structure Mud where
  Yield : Int
  Visc : Int
structure Gas where
  K : Int
  Power : Int

def sg (l : List Seg) (i : Nat) : Seg := l[i]?.getD ⟨0, 0, 0, 0⟩
def slg (l : List Slug) (i : Nat) : Slug := l[i]?.getD ⟨0, 0⟩

/-! ### holes -/
def fairSeg (s : Seg) : Bool := decide (1 ≤ s.Long) && within s.Rise 0 s.Long && within s.Area 1 5000 && within s.Gap 1 200
def goodSeg (s : Seg) : Bool := fairSeg s && decide (s.Long ≤ 1048576)
def segSize (s : Seg) : Int := s.Long * s.Area
def sizeAt (l : List Seg) (i : Nat) : Int := segSize (sg l i)
def longAt (l : List Seg) (i : Nat) : Int := (sg l i).Long
def riseAt (l : List Seg) (i : Nat) : Int := (sg l i).Rise
def longUp (l : List Seg) (k : Nat) : Int := sumFrom (longAt l) 0 k
def sizeUp (l : List Seg) (k : Nat) : Int := sumFrom (sizeAt l) 0 k
def riseUp (l : List Seg) (k : Nat) : Int := sumFrom (riseAt l) 0 k

def checkHole (l : List Seg) : Int :=
  if l.length = 0 then 6
  else if 16 < l.length then 8
  else if l.any (fun s => !fairSeg s) then 2
  else if 1048576 < longUp l l.length then 5
  else 0
def volumeOf (l : List Seg) : Int := if checkHole l = 0 then sizeUp l l.length else 0
def heightKnots (l : List Seg) (k : Nat) : List Knot := (List.range (k + 1)).map fun i => ⟨sizeUp l i, riseUp l i⟩
def heightOf (l : List Seg) : List Knot := if checkHole l = 0 then heightKnots l l.length else []

/-- the first number from i on, of m, at which a segment begins behind u -/
def passed (l : List Seg) (u : Int) : Nat → Nat → Nat
  | i, 0 => i
  | i, m + 1 => if u < sizeUp l i then i else passed l u (i + 1) m
def inHole (l : List Seg) (u : Int) : Bool := decide (checkHole l = 0) && within u 0 (sizeUp l l.length)
def whereOf (l : List Seg) (u : Int) : Int := if inHole l u then (passed l u 0 l.length : Int) - 1 else -1

/-! ### columns -/
def fill : Int → List Slug → Int
  | left, [] => if 0 < left then 6 else 0
  | left, s :: l => if left < s.Volume then 5 else fill (left - s.Volume) l
def fairSlug (s : Slug) : Bool := within s.Weight 0 40000 && decide (1 ≤ s.Volume)
def checkSlugs (room : Int) (l : List Slug) : Int :=
  if l.length = 0 then 6
  else if 24 < l.length then 8
  else if l.any (fun s => !fairSlug s) then 2
  else fill room l
def checkColumn (h : List Seg) (l : List Slug) : Int := if checkHole h ≠ 0 then checkHole h else checkSlugs (sizeUp h h.length) l

def volAt (l : List Slug) (i : Nat) : Int := (slg l i).Volume
def heldUp (l : List Slug) (k : Nat) : Int := sumFrom (volAt l) 0 k

def addR (p : Rng) (w : Int) (h : Rng) : Rng := ⟨p.Lo + min (w * h.Lo) (w * h.Hi), p.Hi + max (w * h.Lo) (w * h.Hi)⟩
/-- the number of the slug so far, and the pressure so far, behind k slugs -/
def pressUp (h : List Seg) (l : List Slug) (top u : Int) : Nat → Nat × Rng
  | 0 => (l.length - 1, addR ⟨top, top⟩ (slg l (l.length - 1)).Weight ⟨riseUp h h.length, riseUp h h.length⟩)
  | k + 1 => if u < heldUp l (k + 1) then (min (pressUp h l top u k).1 k, addR (pressUp h l top u k).2 ((slg l k).Weight - (slg l (k + 1)).Weight) (At (heightOf h) (heldUp l (k + 1)))) else pressUp h l top u k
def pressAt (h : List Seg) (l : List Slug) (top u : Int) : Rng :=
  addR (pressUp h l top u (l.length - 1)).2 (-(slg l (pressUp h l top u (l.length - 1)).1).Weight) (At (heightOf h) u)
def press (h : List Seg) (l : List Slug) (top u : Int) : Rng × Int :=
  if checkColumn h l ≠ 0 then (⟨0, 0⟩, checkColumn h l)
  else if within top 0 68719476736 && within u 0 (sizeUp h h.length) then (pressAt h l top u, 0)
  else (⟨0, 0⟩, 2)

/-! ### what is pumped -/
def plainAdd (out : List Slug) (s : Slug) : List Slug :=
  if within s.Volume 1 1099511627776 then
    match out.getLast? with
    | none => [s]
    | some t => if t.Weight = s.Weight then out.dropLast ++ [⟨t.Weight, t.Volume + s.Volume⟩] else out ++ [s]
  else out
def plainOf (l : List Slug) : List Slug := l.foldl plainAdd []
def stays : Int → List Slug → List Slug
  | _, [] => []
  | room, s :: l => ⟨s.Weight, min room s.Volume⟩ :: stays (room - min room s.Volume) l
def goes : Int → List Slug → List Slug
  | _, [] => []
  | room, s :: l => ⟨s.Weight, s.Volume - min room s.Volume⟩ :: goes (room - min room s.Volume) l
def pump (h : List Seg) (l : List Slug) (s : Slug) : List Slug × List Slug × Int :=
  if checkColumn h l ≠ 0 then ([], [], checkColumn h l)
  else if within s.Weight 0 40000 && within s.Volume 1 (sizeUp h h.length) then
    if 24 < (plainOf (stays (sizeUp h h.length) (s :: l))).length then ([], [], 8)
    else (plainOf (stays (sizeUp h h.length) (s :: l)), plainOf (goes (sizeUp h h.length) (s :: l)), 0)
  else ([], [], 2)

/-! ### flow -/
def possible (s : Seg) (m : Mud) (flow : Int) : Bool := goodSeg s && within m.Yield 0 1000000 && within m.Visc 1 1000000 && within flow 0 1000000
def flowsG (s : Seg) (m : Mud) (g flow : Int) : Bool :=
  if flow = 0 then true
  else if g * s.Gap ≤ m.Yield then false
  else decide (3 * m.Yield * (g * s.Gap) * (g * s.Gap) * s.Gap * s.Area + flow * m.Visc * (g * s.Gap) * (g * s.Gap) ≤ 2 * (g * s.Gap) * (g * s.Gap) * (g * s.Gap) * s.Gap * s.Area + m.Yield * m.Yield * m.Yield * s.Gap * s.Area)
def flows (s : Seg) (m : Mud) (g flow : Int) : Bool := possible s m flow && within g 0 20000 && flowsG s m g flow

/-! ### gas and cuttings -/
def upDiv (a b : Int) : Int := (a + b - 1) / b
def gasOk (g : Gas) : Bool := within g.K 0 1152921504606846976 && within g.Power 0 1099511627776
def free (g : Gas) (p : Int) : Int := if gasOk g && within p 1 68719476736 then max 0 (g.K - g.Power * (p / 1048576)) else 0
def space (g : Gas) (p : Int) : Rng := if free g p = 0 then ⟨0, 0⟩ else ⟨free g p / p, upDiv (free g p) p⟩
def bubble (g : Gas) : Int × Bool :=
  if !gasOk g then (0, false)
  else if g.K = 0 then (1, true)
  else if g.Power = 0 then (0, false)
  else if 65536 < upDiv g.K g.Power then (0, false)
  else (upDiv g.K g.Power * 1048576, true)
def load (s : Seg) (feed flow slip : Int) : Int × Bool :=
  if goodSeg s && within feed 0 1000000 && within flow 0 1000000 && within slip 0 1000 then
    if flow - slip * s.Area ≤ 0 then (0, false) else (min 1000 (upDiv (1000 * feed) (flow - slip * s.Area)), true)
  else (0, false)
def mixed (weight rock load : Int) : Int :=
  if within weight 0 40000 && within rock 0 40000 && within load 0 1000 then upDiv (weight * (1000 - load) + rock * load) 1000 else 0

end Mpl
