/-
  The disk in plain Lean: what each call makes of a state, and what it answers.
-/
namespace Go.Proofs.YtafjolibfbccbaaGreatDoor

/-- 's' laid over 'b' from 'off' on. -/
def put (b : List UInt8) (off : Nat) (s : List UInt8) : List UInt8 := b.take off ++ (s ++ b.drop (off + s.length))

structure DiskS where
  off : Bool
  left : Nat
  sure : List UInt8
  vis : List UInt8
  pend : List (Nat × List UInt8)

/-- What a disk's state always meets. -/
structure DiskS.Ok (D : DiskS) : Prop where
  len : D.vis.length = D.sure.length
  pos : 1 ≤ D.sure.length
  max : D.sure.length ≤ 4194304
  fits : ∀ p ∈ D.pend, p.1 + p.2.length ≤ D.sure.length
  left : D.left ≤ 9223372036854775807

def inB (n : Nat) (off len : Int) : Bool := decide (0 ≤ off ∧ 0 ≤ len ∧ off ≤ n ∧ len ≤ n - off)

def DiskS.used (D : DiskS) : DiskS := if D.left = 0 then D else { D with left := D.left - 1, off := decide (D.left - 1 = 0) }
def DiskS.written (D : DiskS) (off : Nat) (s : List UInt8) : DiskS := { D with pend := D.pend ++ [(off, s)], vis := put D.vis off s }.used
def DiskS.settled (D : DiskS) (b : List UInt8) : DiskS := { D with sure := b, vis := b, pend := [] }

def DiskS.read (D : DiskS) (off n : Int) : List UInt8 × Int := if D.off then ([], 331) else if inB D.sure.length off n then ((D.vis.drop off.toNat).take n.toNat, 0) else ([], 330)
def DiskS.write (D : DiskS) (off : Int) (s : List UInt8) : DiskS × Int := if D.off then (D, 331) else if inB D.sure.length off s.length then (D.written off.toNat s, 0) else (D, 330)
def DiskS.sync (D : DiskS) : DiskS × Int := if D.off then (D, 331) else (D.settled D.vis, 0)
def DiskS.cut (D : DiskS) (n : Int) : DiskS × Int := if D.off then (D, 331) else if n < 0 then (D, 2) else ({ D with off := decide (n = 0), left := n.toNat }, 0)
def DiskS.fresh (n : Nat) : DiskS := { off := false, left := 0, sure := List.replicate n 0, vis := List.replicate n 0, pend := [] }

/-- Writes one after the other. -/
def puts (b : List UInt8) (l : List (Nat × List UInt8)) : List UInt8 := l.foldl (fun b p => put b p.1 p.2) b
/-- Writes of which the last may be torn. -/
def lastTorn (torn : Int) (l : List (Nat × List UInt8)) : List (Nat × List UInt8) := l.mapIdx fun i p => if i + 1 = l.length ∧ 0 ≤ torn then (p.1, p.2.take torn.toNat) else p
/-- The numbers below n that a list holds, in ascending order. -/
def order (n : Nat) (keep : List Int) : List Nat := (List.range n).filter fun i => decide ((i : Int) ∈ keep)
def DiskS.kept (D : DiskS) (keep : List Int) : List (Nat × List UInt8) := (order D.pend.length keep).map fun i => D.pend[i]?.getD (0, [])
def DiskS.crash (D : DiskS) (keep : List Int) (torn : Int) : DiskS := { D.settled (puts D.sure (lastTorn torn (D.kept keep))) with off := false, left := 0 }

theorem put_length (b : List UInt8) (off : Nat) (s : List UInt8) (h : off + s.length ≤ b.length) : (put b off s).length = b.length := by
  simp [put]; omega
end Go.Proofs.YtafjolibfbccbaaGreatDoor
