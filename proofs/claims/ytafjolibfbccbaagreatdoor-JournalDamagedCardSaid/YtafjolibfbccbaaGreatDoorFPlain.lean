/-
  Pieces in plain Lean: which are valid, which seconds can be reached, and which choice is the best.
-/
namespace Go.Proofs.YtafjolibfbccbaaGreatDoor

structure Pc where
  lens : List Int
  want : Int
  join : Int

def LenOk (l : List Int) (k : Nat) : Prop := (0 ≤ l[k]?.getD 0 ∧ l[k]?.getD 0 ≤ 3600) ∧ (k = 0 ∨ l[k - 1]?.getD 0 < l[k]?.getD 0)
instance (l : List Int) (k : Nat) : Decidable (LenOk l k) := by unfold LenOk; infer_instance
def PcOk (p : Pc) : Prop := (1 ≤ p.lens.length ∧ p.lens.length ≤ 8) ∧ (0 ≤ p.want ∧ p.want ≤ 3600) ∧ (-1 ≤ p.join ∧ p.join ≤ 3600) ∧ ∀ k, k < p.lens.length → LenOk p.lens k
instance (p : Pc) : Decidable (PcOk p) := by unfold PcOk; infer_instance
def ValidS (l : List Pc) (t : Int) : Prop := l.length ≤ 20 ∧ (0 ≤ t ∧ t ≤ 3600) ∧ ∀ p ∈ l, PcOk p
instance (l : List Pc) (t : Int) : Decidable (ValidS l t) := by unfold ValidS; infer_instance

def meetsS (p : Pc) (at_ : Int) : Bool := decide (p.join < 0) || decide (p.join = at_)
def awayS (a b : Int) : Int := max (a - b) (b - a)

/-- The seconds at which the piece behind 'p' can begin. -/
def nextS (p : Pc) (now : List Int) : List Int := (now.filter (meetsS p)).flatMap fun a => p.lens.map fun n => a + n
def reachS : List Pc → List Int → List Int
  | [], now => now
  | p :: ps, now => reachS ps (nextS p now)

/-- Whether a choice fits from a second on, and what it costs. -/
def fitsS (total : Int) : List Pc → Int → List Int → Bool
  | [], at_, [] => decide (at_ = total)
  | p :: ps, at_, n :: ns => meetsS p at_ && decide (n ∈ p.lens) && fitsS total ps (at_ + n) ns
  | _, _, _ => false
def costS : List Pc → List Int → Int
  | p :: ps, n :: ns => awayS n p.want + costS ps ns
  | _, _ => 0

def never : Int := 1099511627776
/-- The least cost of a choice that fits, or 'never'. -/
def leastS (total : Int) : List Pc → Int → Int
  | [], at_ => if at_ = total then 0 else never
  | p :: ps, at_ => if total < at_ then never else if meetsS p at_ then min (p.lens.foldl (fun c n => min c (awayS n p.want + leastS total ps (at_ + n))) never) never else never
/-- The choice that is taken. -/
def bestS (total : Int) : List Pc → Int → Option (List Int)
  | [], _ => some []
  | p :: ps, at_ =>
    match p.lens.find? fun n => decide (awayS n p.want + leastS total ps (at_ + n) = leastS total (p :: ps) at_) with
    | none => none
    | some n => (bestS total ps (at_ + n)).map (n :: ·)

theorem leastS_nil {total at_ : Int} : leastS total [] at_ = if at_ = total then 0 else never := rfl
theorem leastS_far {total at_ : Int} (l : List Pc) (h : total < at_) : leastS total l at_ = never := by
  cases l with
  | nil => rw [leastS, if_neg (by omega)]
  | cons p ps => rw [leastS, if_pos h]

theorem awayS_nonneg (a b : Int) : 0 ≤ awayS a b := by unfold awayS; omega
theorem foldl_min_le (f : Int → Int) : ∀ (l : List Int) (c : Int), l.foldl (fun c n => min c (f n)) c ≤ c
  | [], c => Int.le_refl c
  | n :: l, c => Int.le_trans (foldl_min_le f l _) (by show min c (f n) ≤ c; omega)
theorem foldl_min_mem (f : Int → Int) : ∀ (l : List Int) (c : Int) (n : Int), n ∈ l → l.foldl (fun c n => min c (f n)) c ≤ f n
  | m :: l, c, n, h => by
    rcases List.mem_cons.1 h with rfl | h
    · exact Int.le_trans (foldl_min_le f l _) (by show min c (f n) ≤ f n; omega)
    · exact foldl_min_mem f l _ n h
theorem foldl_min_cases (f : Int → Int) : ∀ (l : List Int) (c : Int), l.foldl (fun c n => min c (f n)) c = c ∨ ∃ n ∈ l, l.foldl (fun c n => min c (f n)) c = f n
  | [], _ => .inl rfl
  | m :: l, c => by
    rcases foldl_min_cases f l (min c (f m)) with h | ⟨n, hn, h⟩
    · rw [List.foldl_cons, h]
      rcases Int.le_total c (f m) with h1 | h1
      · exact .inl (by omega)
      · exact .inr ⟨m, by simp, by omega⟩
    · exact .inr ⟨n, by simp [hn], h⟩
theorem foldl_min_nonneg (f : Int → Int) (hf : ∀ n, 0 ≤ f n) (l : List Int) (c : Int) (hc : 0 ≤ c) : 0 ≤ l.foldl (fun c n => min c (f n)) c := by
  rcases foldl_min_cases f l c with h | ⟨n, _, h⟩
  · omega
  · rw [h]; exact hf n
theorem leastS_bounds (total : Int) : ∀ (l : List Pc) (at_ : Int), 0 ≤ leastS total l at_ ∧ leastS total l at_ ≤ never
  | [], at_ => by rw [leastS]; unfold never; split <;> omega
  | p :: ps, at_ => by
    have ih := leastS_bounds total ps
    rw [leastS]
    split
    · unfold never; omega
    · split
      · have := foldl_min_nonneg (fun n => awayS n p.want + leastS total ps (at_ + n)) (fun n => by have := (ih (at_ + n)).1; have := awayS_nonneg n p.want; omega) p.lens never (by unfold never; omega)
        have hn : (0 : Int) ≤ never := by unfold never; omega
        omega
      · unfold never; omega
end Go.Proofs.YtafjolibfbccbaaGreatDoor
