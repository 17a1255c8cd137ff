/-
  Pieces in plain Lean: which are valid, which seconds can be reached, and which choice is the best.
  The disk in plain Lean: what each call makes of a state, and what it answers.
-/

namespace Go.Proofs.YtafjolibfbccbaaGreatDoor

structure Pc where
  lens : List Int
  want : Int
  join : Int

def LenOk (l : List Int) (k : Nat) : Prop := (0 ≤ l[k]?.getD 0 ∧ l[k]?.getD 0 ≤ 3600) ∧ (k = 0 ∨ l[k - 1]?.getD 0 < l[k]?.getD 0)
instance (l : List Int) (k : Nat) : Decidable (LenOk l k) := by unfold LenOk; infer_instance
def PcOk (p : Pc) : Prop := (1 ≤ p.lens.length ∧ p.lens.length ≤ 8) ∧ (0 ≤ p.want ∧ p.want ≤ 3600) ∧ (-1 ≤ p.join ∧ p.join ≤ 3600) ∧ ∀ k, k < p.lens.length → LenOk p.lens k
instance (p : Pc) : Decidable (PcOk p) := by unfold PcOk; infer_instance
def ValidS (l : List Pc) (t : Int) : Prop := l.length ≤ 20 ∧ (0 ≤ t ∧ t ≤ 3600) ∧ ∀ p ∈ l, PcOk p
instance (l : List Pc) (t : Int) : Decidable (ValidS l t) := by unfold ValidS; infer_instance

def meetsS (p : Pc) (at_ : Int) : Bool := decide (p.join < 0) || decide (p.join = at_)
def awayS (a b : Int) : Int := max (a - b) (b - a)

/-- The seconds at which the piece behind 'p' can begin. -/
def nextS (p : Pc) (now : List Int) : List Int := (now.filter (meetsS p)).flatMap fun a => p.lens.map fun n => a + n
def reachS : List Pc → List Int → List Int
  | [], now => now
  | p :: ps, now => reachS ps (nextS p now)

/-- Whether a choice fits from a second on, and what it costs. -/
def fitsS (total : Int) : List Pc → Int → List Int → Bool
  | [], at_, [] => decide (at_ = total)
  | p :: ps, at_, n :: ns => meetsS p at_ && decide (n ∈ p.lens) && fitsS total ps (at_ + n) ns
  | _, _, _ => false
def costS : List Pc → List Int → Int
  | p :: ps, n :: ns => awayS n p.want + costS ps ns
  | _, _ => 0

def never : Int := 1099511627776
/-- The least cost of a choice that fits, or 'never'. -/
def leastS (total : Int) : List Pc → Int → Int
  | [], at_ => if at_ = total then 0 else never
  | p :: ps, at_ => if total < at_ then never else if meetsS p at_ then min (p.lens.foldl (fun c n => min c (awayS n p.want + leastS total ps (at_ + n))) never) never else never
/-- The choice that is taken. -/
def bestS (total : Int) : List Pc → Int → Option (List Int)
  | [], _ => some []
  | p :: ps, at_ =>
    match p.lens.find? fun n => decide (awayS n p.want + leastS total ps (at_ + n) = leastS total (p :: ps) at_) with
    | none => none
    | some n => (bestS total ps (at_ + n)).map (n :: ·)

theorem leastS_nil {total at_ : Int} : leastS total [] at_ = if at_ = total then 0 else never := rfl
theorem leastS_far {total at_ : Int} (l : List Pc) (h : total < at_) : leastS total l at_ = never := by
  cases l with
  | nil => rw [leastS, if_neg (by omega)]
  | cons p ps => rw [leastS, if_pos h]

theorem awayS_nonneg (a b : Int) : 0 ≤ awayS a b := by unfold awayS; omega
theorem foldl_min_le (f : Int → Int) : ∀ (l : List Int) (c : Int), l.foldl (fun c n => min c (f n)) c ≤ c
  | [], c => Int.le_refl c
  | n :: l, c => Int.le_trans (foldl_min_le f l _) (by show min c (f n) ≤ c; omega)
theorem foldl_min_mem (f : Int → Int) : ∀ (l : List Int) (c : Int) (n : Int), n ∈ l → l.foldl (fun c n => min c (f n)) c ≤ f n
  | m :: l, c, n, h => by
    rcases List.mem_cons.1 h with rfl | h
    · exact Int.le_trans (foldl_min_le f l _) (by show min c (f n) ≤ f n; omega)
    · exact foldl_min_mem f l _ n h
theorem foldl_min_cases (f : Int → Int) : ∀ (l : List Int) (c : Int), l.foldl (fun c n => min c (f n)) c = c ∨ ∃ n ∈ l, l.foldl (fun c n => min c (f n)) c = f n
  | [], _ => .inl rfl
  | m :: l, c => by
    rcases foldl_min_cases f l (min c (f m)) with h | ⟨n, hn, h⟩
    · rw [List.foldl_cons, h]
      rcases Int.le_total c (f m) with h1 | h1
      · exact .inl (by omega)
      · exact .inr ⟨m, by simp, by omega⟩
    · exact .inr ⟨n, by simp [hn], h⟩
theorem foldl_min_nonneg (f : Int → Int) (hf : ∀ n, 0 ≤ f n) (l : List Int) (c : Int) (hc : 0 ≤ c) : 0 ≤ l.foldl (fun c n => min c (f n)) c := by
  rcases foldl_min_cases f l c with h | ⟨n, _, h⟩
  · omega
  · rw [h]; exact hf n
theorem leastS_bounds (total : Int) : ∀ (l : List Pc) (at_ : Int), 0 ≤ leastS total l at_ ∧ leastS total l at_ ≤ never
  | [], at_ => by rw [leastS]; unfold never; split <;> omega
  | p :: ps, at_ => by
    have ih := leastS_bounds total ps
    rw [leastS]
    split
    · unfold never; omega
    · split
      · have := foldl_min_nonneg (fun n => awayS n p.want + leastS total ps (at_ + n)) (fun n => by have := (ih (at_ + n)).1; have := awayS_nonneg n p.want; omega) p.lens never (by unfold never; omega)
        have hn : (0 : Int) ≤ never := by unfold never; omega
        omega
      · unfold never; omega
end Go.Proofs.YtafjolibfbccbaaGreatDoor

namespace Go.Proofs.YtafjolibfbccbaaGreatDoor

/-- 's' laid over 'b' from 'off' on. -/
def put (b : List UInt8) (off : Nat) (s : List UInt8) : List UInt8 := b.take off ++ (s ++ b.drop (off + s.length))

structure DiskS where
  off : Bool
  left : Nat
  sure : List UInt8
  vis : List UInt8
  pend : List (Nat × List UInt8)

/-- What a disk's state always meets. -/
structure DiskS.Ok (D : DiskS) : Prop where
  len : D.vis.length = D.sure.length
  pos : 1 ≤ D.sure.length
  max : D.sure.length ≤ 4194304
  fits : ∀ p ∈ D.pend, p.1 + p.2.length ≤ D.sure.length
  left : D.left ≤ 9223372036854775807

def inB (n : Nat) (off len : Int) : Bool := decide (0 ≤ off ∧ 0 ≤ len ∧ off ≤ n ∧ len ≤ n - off)

def DiskS.used (D : DiskS) : DiskS := if D.left = 0 then D else { D with left := D.left - 1, off := decide (D.left - 1 = 0) }
def DiskS.written (D : DiskS) (off : Nat) (s : List UInt8) : DiskS := { D with pend := D.pend ++ [(off, s)], vis := put D.vis off s }.used
def DiskS.settled (D : DiskS) (b : List UInt8) : DiskS := { D with sure := b, vis := b, pend := [] }

def DiskS.read (D : DiskS) (off n : Int) : List UInt8 × Int := if D.off then ([], 331) else if inB D.sure.length off n then ((D.vis.drop off.toNat).take n.toNat, 0) else ([], 330)
def DiskS.write (D : DiskS) (off : Int) (s : List UInt8) : DiskS × Int := if D.off then (D, 331) else if inB D.sure.length off s.length then (D.written off.toNat s, 0) else (D, 330)
def DiskS.sync (D : DiskS) : DiskS × Int := if D.off then (D, 331) else (D.settled D.vis, 0)
def DiskS.cut (D : DiskS) (n : Int) : DiskS × Int := if D.off then (D, 331) else if n < 0 then (D, 2) else ({ D with off := decide (n = 0), left := n.toNat }, 0)
def DiskS.fresh (n : Nat) : DiskS := { off := false, left := 0, sure := List.replicate n 0, vis := List.replicate n 0, pend := [] }

/-- Writes one after the other. -/
def puts (b : List UInt8) (l : List (Nat × List UInt8)) : List UInt8 := l.foldl (fun b p => put b p.1 p.2) b
/-- Writes of which the last may be torn. -/
def lastTorn (torn : Int) (l : List (Nat × List UInt8)) : List (Nat × List UInt8) := l.mapIdx fun i p => if i + 1 = l.length ∧ 0 ≤ torn then (p.1, p.2.take torn.toNat) else p
/-- The numbers below n that a list holds, in ascending order. -/
def order (n : Nat) (keep : List Int) : List Nat := (List.range n).filter fun i => decide ((i : Int) ∈ keep)
def DiskS.kept (D : DiskS) (keep : List Int) : List (Nat × List UInt8) := (order D.pend.length keep).map fun i => D.pend[i]?.getD (0, [])
def DiskS.crash (D : DiskS) (keep : List Int) (torn : Int) : DiskS := { D.settled (puts D.sure (lastTorn torn (D.kept keep))) with off := false, left := 0 }

theorem put_length (b : List UInt8) (off : Nat) (s : List UInt8) (h : off + s.length ≤ b.length) : (put b off s).length = b.length := by
  simp [put]; omega
end Go.Proofs.YtafjolibfbccbaaGreatDoor
