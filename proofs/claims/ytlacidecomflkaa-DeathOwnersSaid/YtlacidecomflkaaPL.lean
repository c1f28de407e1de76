/- Plans in plain Lean: what may be, loads, who is least and most loaded, plans. -/
set_option linter.unusedSimpArgs false
set_option linter.unusedVariables false
namespace Go.Proofs.Ytlacidecomflkaa

def backB (n : Int) : Bool := decide (0 ≤ n) && decide (n < 6)
/-- f, but at k it is v. -/
def upd {α : Type} (f : Nat → α) (k : Nat) (v : α) : Nat → α := fun i => if i = k then v else f i
/-- The load up to n buckets. -/
def loadN (o : Nat → Int) (x : Int) : Nat → Int
  | 0 => 0
  | n + 1 => loadN o x n + if o n = x then 1 else 0
theorem loadN_bd (o : Nat → Int) (x : Int) (n : Nat) : 0 ≤ loadN o x n ∧ loadN o x n ≤ n := by
  induction n with
  | zero => simp [loadN]
  | succ n ih => unfold loadN; split <;> omega
def load (o : Nat → Int) (x : Int) : Int := loadN o x 16
theorem load_bd (o : Nat → Int) (x : Int) : 0 ≤ load o x ∧ load o x ≤ 16 := loadN_bd o x 16
/-- Rising, from above a number, and backends. -/
def risesB : Int → List Int → Bool
  | _, [] => true
  | a, m :: r => decide (a < m) && backB m && risesB m r
/-- Owners up to n may be. -/
def ownB (o : Nat → Int) : Nat → Bool
  | 0 => true
  | n + 1 => ownB o n && (o n == -1 || backB (o n))
def rightP (o : Nat → Int) (ms : List Int) : Bool := ownB o 16 && risesB (-1) ms
/-- The first of some than which none is better. -/
def best (bt : Int → Int → Bool) : Int → List Int → Int
  | b, [] => b
  | b, m :: r => best bt (if bt m b then m else b) r
def lessP (o : Nat → Int) (a b : Int) : Bool := decide (load o a < load o b)
def moreP (o : Nat → Int) (a b : Int) : Bool := decide (load o b < load o a)
def firstM (bt : Int → Int → Bool) (ms : List Int) : Int := best bt (ms.headD 0) ms.tail
def least (o : Nat → Int) (ms : List Int) : Int := firstM (lessP o) ms
def most (o : Nat → Int) (ms : List Int) : Int := firstM (moreP o) ms
def spread (o : Nat → Int) (ms : List Int) : Int := if ms.isEmpty || !rightP o ms then 0 else load o (most o ms) - load o (least o ms)
def pickB (o : Nat → Int) (ms : List Int) : Bool := !(ms.isEmpty || !rightP o ms)
def pick (o : Nat → Int) (ms : List Int) : Int := if pickB o ms then least o ms else 0
/-- A shift: a bucket, to whom. -/
structure Sh where
  b : Int
  t : Int
def apply1 (o : Nat → Int) (s : Sh) : Nat → Int := if 0 ≤ s.b ∧ s.b < 16 then upd o s.b.toNat s.t else o
def apply (o : Nat → Int) : List Sh → (Nat → Int)
  | [] => o
  | s :: r => apply (apply1 o s) r
/-- Somebody's greatest bucket below n, or -1. -/
def lastN (o : Nat → Int) (x : Int) : Nat → Int
  | 0 => -1
  | n + 1 => if o n = x then n else lastN o x n
theorem lastN_bd (o : Nat → Int) (x : Int) (n : Nat) : -1 ≤ lastN o x n ∧ lastN o x n < n := by
  induction n with
  | zero => simp [lastN]
  | succ n ih => unfold lastN; split <;> omega
/-- Is one more shifted to who? -/
def moreB (o : Nat → Int) (ms : List Int) (who : Int) : Bool := !ms.isEmpty && decide (2 ≤ load o (most o ms) - load o who)
def addS (o : Nat → Int) (ms : List Int) (who : Int) : Sh := ⟨lastN o (most o ms) 16, who⟩
/-- The owners behind n shifts to who, as many as are made. -/
def addO (o : Nat → Int) (ms : List Int) (who : Int) : Nat → (Nat → Int)
  | 0 => o
  | n + 1 => if moreB (addO o ms who n) ms who then apply1 (addO o ms who n) (addS (addO o ms who n) ms who) else addO o ms who n
/-- The shifts of a plan to add, n at most. -/
def addL (ms : List Int) (who : Int) : Nat → (Nat → Int) → List Sh
  | 0, _ => []
  | n + 1, o => if moreB o ms who then addS o ms who :: addL ms who n (apply1 o (addS o ms who)) else []
/-- The shifts of the buckets from i on, n of them, whose owner is so, to the least loaded: (the owners, the shifts). -/
def moveL (so : Nat → Bool) (ms : List Int) : Nat → Nat → (Nat → Int) → List Sh
  | 0, _, _ => []
  | n + 1, i, o => if so i then ⟨i, least o ms⟩ :: moveL so ms n (i + 1) (upd o i (least o ms)) else moveL so ms n (i + 1) o
/-- The owners when i buckets have been looked at. -/
def moveO (so : Nat → Bool) (ms : List Int) (o : Nat → Int) : Nat → (Nat → Int)
  | 0 => o
  | i + 1 => if so i then upd (moveO so ms o i) i (least (moveO so ms o i) ms) else moveO so ms o i

end Go.Proofs.Ytlacidecomflkaa
