/- The plain meaning of the layers earth, fluid and casing: functions on lists and integers, with no Go in sight. -/
namespace Mpl

structure Knot where
  At : Int
  V : Int
structure Rng where
  Lo : Int
  Hi : Int
structure Grade where
  Burst : Int
  Collapse : Int
  Pull : Int
  Weight : Int
  Cost : Int
structure Stress where
  In : List Knot
  Out : List Knot
structure Job where
  Ends : List Int
  Loads : List Stress
  Grades : List Grade
  Factor : Int
  Over : Int
structure Test where
  P : Int
  Held : Bool
  Tick : Int

/-! ### earth -/
def within (n lo hi : Int) : Bool := decide (lo ≤ n ∧ n ≤ hi)

def checkKnots (at_ v : Int) : Int → List Knot → Int
  | _, [] => 0
  | last, k :: ks => if within k.At 0 at_ && within k.V 0 v then (if k.At ≤ last then 11 else checkKnots at_ v k.At ks) else 2

def checkLine (ks : List Knot) (at_ v : Int) : Int :=
  if !(within at_ 0 1099511627776 && within v 0 68719476736) then 2
  else if ks.length = 0 then 6
  else if 24 < ks.length then 8
  else checkKnots at_ v (-1) ks

def right (ks : List Knot) : Bool := decide (checkLine ks 1048576 68719476736 = 0) || decide (checkLine ks 1099511627776 1048576 = 0)

/-- how many knots lie before a place -/
def before (x : Int) : List Knot → Nat
  | [] => 0
  | k :: ks => if k.At < x then before x ks + 1 else 0

def cmpI (a b : Int) : Int := if a < b then -1 else if b < a then 1 else 0

def kn (ks : List Knot) (i : Nat) : Knot := ks[i]?.getD ⟨0, 0⟩

/-- the value between two knots, rounded down and up -/
def between (a b : Knot) (x : Int) : Rng :=
  ⟨a.V + (b.V - a.V) * (x - a.At) / (b.At - a.At), a.V - (-((b.V - a.V) * (x - a.At))) / (b.At - a.At)⟩

def value (ks : List Knot) (x : Int) : Rng :=
  if before x ks = 0 then ⟨(kn ks 0).V, (kn ks 0).V⟩
  else if before x ks = ks.length then ⟨(kn ks (ks.length - 1)).V, (kn ks (ks.length - 1)).V⟩
  else between (kn ks (before x ks - 1)) (kn ks (before x ks)) x

def At (ks : List Knot) (x : Int) : Rng := if right ks then value ks x else ⟨0, 0⟩

/-! ### casing -/
def okLine (ks : List Knot) : Int := checkLine ks 1048576 68719476736

def ascends : Int → List Int → Bool
  | _, [] => true
  | a, b :: l => decide (a < b) && ascends b l

def checkEnds (l : List Int) : Int :=
  if l.length = 0 then 6
  else if 5 < l.length then 8
  else if l.any (fun z => !within z 1 1048576) then 2
  else match l with
    | [] => 0
    | a :: l => if ascends a l then 0 else 11

def checkLoads : List Stress → Int
  | [] => 0
  | l :: ls => if okLine l.In ≠ 0 then okLine l.In else if okLine l.Out ≠ 0 then okLine l.Out else checkLoads ls

def fairGrade (g : Grade) : Bool :=
  within g.Burst 0 68719476736 && within g.Collapse 0 68719476736 && within g.Pull 1 1099511627776 && within g.Weight 0 1048576 && within g.Cost 0 1048576

def checkJob (j : Job) : Int :=
  if checkEnds j.Ends ≠ 0 then checkEnds j.Ends
  else if 6 < j.Loads.length then 8
  else if checkLoads j.Loads ≠ 0 then checkLoads j.Loads
  else if j.Grades.length = 0 then 6
  else if 6 < j.Grades.length then 8
  else if j.Grades.any (fun g => !fairGrade g) || !within j.Factor 1000 3000 || !within j.Over 0 1099511627776 then 2
  else 0

/-- what is too much at a place -/
def excessAt (a b : List Knot) (z : Int) : Int := (At a z).Hi - (At b z).Lo

def places (a b : List Knot) (lo hi : Int) : List Int := hi :: (((a ++ b).map Knot.At).filter fun z => within z lo hi)

def extreme (a b : List Knot) (lo hi : Int) : Int :=
  if okLine a ≠ 0 ∨ okLine b ≠ 0 ∨ lo < 0 ∨ hi < lo ∨ 1048576 < hi then 0
  else (places a b lo hi).foldl (fun out z => max out (excessAt a b z)) (excessAt a b lo)

def inside (l : Stress) (lo hi : Int) : Int := extreme l.In l.Out lo hi
def outside (l : Stress) (lo hi : Int) : Int := extreme l.Out l.In lo hi

def needed (q factor : Int) : Int :=
  if within q (-68719476736) 68719476736 && within factor 1000 3000 then (max q 0 * factor + 999) / 1000 else 0

def pick (l : List Int) (i : Nat) : Int := l[i]?.getD 0
def gd (gs : List Grade) (i : Nat) : Grade := gs[i]?.getD ⟨0, 0, 0, 0, 0⟩
def ld (l : List Stress) (i : Nat) : Stress := l[i]?.getD ⟨[], []⟩
def topOf (l : List Int) (i : Nat) : Int := if i = 0 then 0 else pick l (i - 1)
/-- the depths at which section i begins and ends -/
def top (j : Job) (i : Nat) : Int := topOf j.Ends i
def bottom (j : Job) (i : Nat) : Int := pick j.Ends i
def grade (j : Job) (g : Int) : Grade := gd j.Grades g.toNat

def isChoice (j : Job) (l : List Int) : Bool :=
  decide (checkJob j = 0) && decide (l.length = j.Ends.length) && !(l.any fun g => decide (g < 0 ∨ (j.Grades.length : Int) ≤ g))

/-- the weight of section i, and the cost of it -/
def weightOf (j : Job) (l : List Int) (i : Nat) : Int := (grade j (pick l i)).Weight * (bottom j i - top j i)
def costOf (j : Job) (l : List Int) (i : Nat) : Int := (grade j (pick l i)).Cost * (bottom j i - top j i)

/-- the sum of f from i on, n numbers -/
def sumFrom (f : Nat → Int) : Nat → Nat → Int
  | _, 0 => 0
  | i, n + 1 => f i + sumFrom f (i + 1) n

def pullOf (j : Job) (l : List Int) (i : Nat) : Int := j.Over + sumFrom (weightOf j l) i (l.length - i)
def pullsOf (j : Job) (l : List Int) : List Int := if isChoice j l then (List.range l.length).map (pullOf j l) else []

def whyBurst (j : Job) (lo hi : Int) (g : Grade) : Bool := j.Loads.any fun l => decide (g.Burst < needed (inside l lo hi) j.Factor)
def whyCollapse (j : Job) (lo hi : Int) (b : Int) : Bool := j.Loads.any fun l => decide (b < needed (outside l lo hi) j.Factor)

def why (j : Job) (lo hi : Int) (g : Grade) (pull : Int) : Int :=
  if whyBurst j lo hi g then 1
  else if g.Pull < pull then 3
  else if whyCollapse j lo hi (g.Collapse * (1000 * (g.Pull - pull) / g.Pull) / 1000) then 2
  else 0

def whyAt (j : Job) (l : List Int) (i : Nat) : Int := why j (top j i) (bottom j i) (grade j (pick l i)) (pullOf j l i)

/-- the first section from i on, of n, that does not bear, and why -/
def bearsFrom (j : Job) (l : List Int) : Nat → Nat → Int × Int
  | _, 0 => (-1, 0)
  | i, n + 1 => if whyAt j l i ≠ 0 then ((i : Int), whyAt j l i) else bearsFrom j l (i + 1) n

def bears (j : Job) (l : List Int) : Int × Int × Int :=
  if checkJob j ≠ 0 then (0, 0, checkJob j)
  else if !isChoice j l then (0, 0, 2)
  else ((bearsFrom j l 0 l.length).1, (bearsFrom j l 0 l.length).2, 0)

def cost (j : Job) (l : List Int) : Int := if isChoice j l then sumFrom (costOf j l) 0 l.length else 0

def proven (l : List Test) (need now age : Int) : Bool :=
  if 24 < l.length ∨ age < 0 then false
  else l.any fun t => t.Held && decide (need ≤ t.P) && decide (t.Tick ≤ now) && decide (now - t.Tick ≤ age) && !(l.any fun x => !x.Held && within x.Tick t.Tick now)

end Mpl
