/-
  The plain mathematics of numbers that go round at 2^32: no program in sight.
-/
namespace Go.Proofs.Ytfijbbhoemdhbaa

/-- How far it is from a to b. -/
def way (a b : Int) : Int := (b - a) % 4294967296
def ahead (a b : Int) : Bool := decide (1 ≤ way a b ∧ way a b ≤ 2147483647)
def least (a b : Int) : Int := if ahead b a = true then b else a
def addw (a n : Int) : Int := (a + n) % 4294967296
def within (a f size : Int) : Bool := decide (0 ≤ size ∧ size ≤ 65535 ∧ way f a < size)
def sure (una next ack : Int) : Bool := decide (1 ≤ way una ack ∧ way una ack ≤ way una next)
/-- A window and a span that may be. -/
def may (size n : Int) : Bool := decide (0 ≤ size ∧ size ≤ 65535 ∧ 0 ≤ n ∧ n ≤ 1073741824)

def accB (next size f n : Int) : Bool :=
  if may size n = true then (if n = 0 then (if size = 0 then decide (f = next) else within f next size) else (within f next size || within (addw f (n - 1)) next size)) else false
def errOf (size n : Int) : Int := if may size n = true then 0 else 2

/-- What is cut off ahead, after the first i numbers of the window; and how many are left. -/
def cutAt (next size f n i : Int) : Int :=
  if way next f < size then 0 else if way f next < n ∧ 1 ≤ i then way f next else 0
def leftAt (next size f n i : Int) : Int :=
  if way next f < size then min n (max 0 (i - way next f)) else min (max 0 (n - way f next)) i
def trimCut (next size f n : Int) : Int := if may size n = true then cutAt next size f n size else 0
def trimLeft (next size f n : Int) : Int := if may size n = true then leftAt next size f n size else 0

theorem way_bd (a b : Int) : 0 ≤ way a b ∧ way a b < 4294967296 := by unfold way; omega
theorem addw_bd (a b : Int) : 0 ≤ addw a b ∧ addw a b < 4294967296 := by unfold addw; omega

/-- One more number of the window: it is in the span, or not. -/
theorem cut_in (next size f n i : Int) (h : may size n = true) (h0 : 0 ≤ i) (h1 : i < size) (hin : way f (addw next i) < n) :
    leftAt next size f n (i + 1) = leftAt next size f n i + 1 ∧ cutAt next size f n (i + 1) = (if leftAt next size f n i = 0 then way f (addw next i) else cutAt next size f n i) := by
  unfold leftAt cutAt may way addw at *
  simp only [decide_eq_true_eq] at h
  split <;> split <;> omega
theorem cut_out (next size f n i : Int) (h : may size n = true) (h0 : 0 ≤ i) (h1 : i < size) (hin : ¬ way f (addw next i) < n) :
    leftAt next size f n (i + 1) = leftAt next size f n i ∧ cutAt next size f n (i + 1) = cutAt next size f n i := by
  unfold leftAt cutAt may way addw at *
  simp only [decide_eq_true_eq] at h
  split <;> omega
theorem cut_start (next size f n : Int) (h : may size n = true) : leftAt next size f n 0 = 0 ∧ cutAt next size f n 0 = 0 := by
  unfold leftAt cutAt may way at *
  simp only [decide_eq_true_eq] at h
  split <;> omega
theorem left_bd (next size f n i : Int) (h : may size n = true) (h0 : 0 ≤ i) : 0 ≤ leftAt next size f n i ∧ leftAt next size f n i ≤ i := by
  have h2 := way_bd next f
  unfold leftAt may at *
  simp only [decide_eq_true_eq] at h
  split <;> omega

end Go.Proofs.Ytfijbbhoemdhbaa
