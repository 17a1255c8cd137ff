/-
  Pieces in plain Lean: which are valid, which seconds can be reached, and which choice is the best.
  Items as plain data: spells, cuts, lengths.
-/

namespace Go.Proofs.Yteehjciepccomaa

structure Pc where
  lens : List Int
  want : Int
  join : Int

def LenOk (l : List Int) (k : Nat) : Prop := (0 ≤ l[k]?.getD 0 ∧ l[k]?.getD 0 ≤ 3600) ∧ (k = 0 ∨ l[k - 1]?.getD 0 < l[k]?.getD 0)
instance (l : List Int) (k : Nat) : Decidable (LenOk l k) := by unfold LenOk; infer_instance
def PcOk (p : Pc) : Prop := (1 ≤ p.lens.length ∧ p.lens.length ≤ 8) ∧ (0 ≤ p.want ∧ p.want ≤ 3600) ∧ (-1 ≤ p.join ∧ p.join ≤ 3600) ∧ ∀ k, k < p.lens.length → LenOk p.lens k
instance (p : Pc) : Decidable (PcOk p) := by unfold PcOk; infer_instance
def ValidS (l : List Pc) (t : Int) : Prop := l.length ≤ 20 ∧ (0 ≤ t ∧ t ≤ 3600) ∧ ∀ p ∈ l, PcOk p
instance (l : List Pc) (t : Int) : Decidable (ValidS l t) := by unfold ValidS; infer_instance

def meetsS (p : Pc) (at_ : Int) : Bool := decide (p.join < 0) || decide (p.join = at_)
def awayS (a b : Int) : Int := max (a - b) (b - a)

/-- The seconds at which the piece behind 'p' can begin. -/
def nextS (p : Pc) (now : List Int) : List Int := (now.filter (meetsS p)).flatMap fun a => p.lens.map fun n => a + n
def reachS : List Pc → List Int → List Int
  | [], now => now
  | p :: ps, now => reachS ps (nextS p now)

/-- Whether a choice fits from a second on, and what it costs. -/
def fitsS (total : Int) : List Pc → Int → List Int → Bool
  | [], at_, [] => decide (at_ = total)
  | p :: ps, at_, n :: ns => meetsS p at_ && decide (n ∈ p.lens) && fitsS total ps (at_ + n) ns
  | _, _, _ => false
def costS : List Pc → List Int → Int
  | p :: ps, n :: ns => awayS n p.want + costS ps ns
  | _, _ => 0

def never : Int := 1099511627776
/-- The least cost of a choice that fits, or 'never'. -/
def leastS (total : Int) : List Pc → Int → Int
  | [], at_ => if at_ = total then 0 else never
  | p :: ps, at_ => if total < at_ then never else if meetsS p at_ then min (p.lens.foldl (fun c n => min c (awayS n p.want + leastS total ps (at_ + n))) never) never else never
/-- The choice that is taken. -/
def bestS (total : Int) : List Pc → Int → Option (List Int)
  | [], _ => some []
  | p :: ps, at_ =>
    match p.lens.find? fun n => decide (awayS n p.want + leastS total ps (at_ + n) = leastS total (p :: ps) at_) with
    | none => none
    | some n => (bestS total ps (at_ + n)).map (n :: ·)

theorem leastS_nil {total at_ : Int} : leastS total [] at_ = if at_ = total then 0 else never := rfl
theorem leastS_far {total at_ : Int} (l : List Pc) (h : total < at_) : leastS total l at_ = never := by
  cases l with
  | nil => rw [leastS, if_neg (by omega)]
  | cons p ps => rw [leastS, if_pos h]

theorem awayS_nonneg (a b : Int) : 0 ≤ awayS a b := by unfold awayS; omega
theorem foldl_min_le (f : Int → Int) : ∀ (l : List Int) (c : Int), l.foldl (fun c n => min c (f n)) c ≤ c
  | [], c => Int.le_refl c
  | n :: l, c => Int.le_trans (foldl_min_le f l _) (by show min c (f n) ≤ c; omega)
theorem foldl_min_mem (f : Int → Int) : ∀ (l : List Int) (c : Int) (n : Int), n ∈ l → l.foldl (fun c n => min c (f n)) c ≤ f n
  | m :: l, c, n, h => by
    rcases List.mem_cons.1 h with rfl | h
    · exact Int.le_trans (foldl_min_le f l _) (by show min c (f n) ≤ f n; omega)
    · exact foldl_min_mem f l _ n h
theorem foldl_min_cases (f : Int → Int) : ∀ (l : List Int) (c : Int), l.foldl (fun c n => min c (f n)) c = c ∨ ∃ n ∈ l, l.foldl (fun c n => min c (f n)) c = f n
  | [], _ => .inl rfl
  | m :: l, c => by
    rcases foldl_min_cases f l (min c (f m)) with h | ⟨n, hn, h⟩
    · rw [List.foldl_cons, h]
      rcases Int.le_total c (f m) with h1 | h1
      · exact .inl (by omega)
      · exact .inr ⟨m, by simp, by omega⟩
    · exact .inr ⟨n, by simp [hn], h⟩
theorem foldl_min_nonneg (f : Int → Int) (hf : ∀ n, 0 ≤ f n) (l : List Int) (c : Int) (hc : 0 ≤ c) : 0 ≤ l.foldl (fun c n => min c (f n)) c := by
  rcases foldl_min_cases f l c with h | ⟨n, _, h⟩
  · omega
  · rw [h]; exact hf n
theorem leastS_bounds (total : Int) : ∀ (l : List Pc) (at_ : Int), 0 ≤ leastS total l at_ ∧ leastS total l at_ ≤ never
  | [], at_ => by rw [leastS]; unfold never; split <;> omega
  | p :: ps, at_ => by
    have ih := leastS_bounds total ps
    rw [leastS]
    split
    · unfold never; omega
    · split
      · have := foldl_min_nonneg (fun n => awayS n p.want + leastS total ps (at_ + n)) (fun n => by have := (ih (at_ + n)).1; have := awayS_nonneg n p.want; omega) p.lens never (by unfold never; omega)
        have hn : (0 : Int) ≤ never := by unfold never; omega
        omega
      · unfold never; omega
end Go.Proofs.Yteehjciepccomaa

namespace Go.Proofs.Yteehjciepccomaa

/-- A spell. -/
structure Sp where
  fr : Int
  to_ : Int
/-- A recording. -/
structure It where
  id : Int
  kind : Int
  len : Int
  trims : List Sp
  talks : List Sp
  artist : Int
  tempo : Int
  lang : Int

def SpIn (n : Int) (s : Sp) : Prop := 0 ≤ s.fr ∧ s.fr < s.to_ ∧ s.to_ ≤ n
instance (n : Int) (s : Sp) : Decidable (SpIn n s) := by unfold SpIn; infer_instance
/-- Spell k lies in the recording, and follows the one before it. -/
def SpOk (n : Int) (l : List Sp) (k : Nat) : Prop := SpIn n (l[k]?.getD ⟨0, 0⟩) ∧ (k = 0 ∨ (l[k - 1]?.getD ⟨0, 0⟩).to_ ≤ (l[k]?.getD ⟨0, 0⟩).fr)
instance (n : Int) (l : List Sp) (k : Nat) : Decidable (SpOk n l k) := by unfold SpOk; infer_instance
def SpsOk (n : Int) (l : List Sp) : Prop := (∀ k, k < l.length → SpOk n l k) ∧ l.length ≤ 4
instance (n : Int) (l : List Sp) : Decidable (SpsOk n l) := by unfold SpsOk; infer_instance
def sumSp (l : List Sp) : Int := l.foldl (fun c s => c + (s.to_ - s.fr)) 0
theorem foldl_sp (l : List Sp) : ∀ c : Int, l.foldl (fun c s => c + (s.to_ - s.fr)) c = c + sumSp l := by
  unfold sumSp
  induction l with
  | nil => intro c; simp
  | cons s l ih =>
    intro c
    rw [List.foldl_cons, List.foldl_cons, ih, ih (0 + (s.to_ - s.fr))]
    omega
theorem sumSp_nil : sumSp [] = 0 := rfl
theorem sumSp_snoc (l : List Sp) (s : Sp) : sumSp (l ++ [s]) = sumSp l + (s.to_ - s.fr) := by
  unfold sumSp
  rw [List.foldl_append]
  rfl
theorem sumSp_cons (s : Sp) (l : List Sp) : sumSp (s :: l) = (s.to_ - s.fr) + sumSp l := by
  show (s :: l).foldl _ 0 = _
  rw [List.foldl_cons, foldl_sp]
  omega
def KindOk (i : It) : Prop := (i.kind = 1 ∧ (0 ≤ i.artist ∧ i.artist ≤ 99) ∧ (1 ≤ i.tempo ∧ i.tempo ≤ 5) ∧ (1 ≤ i.lang ∧ i.lang ≤ 4)) ∨ (i.kind ≠ 1 ∧ i.artist = 0 ∧ i.tempo = 0 ∧ i.lang = 0)
instance (i : It) : Decidable (KindOk i) := by unfold KindOk; infer_instance
def ItOk (i : It) : Prop := ((0 ≤ i.id ∧ i.id < 200) ∧ (1 ≤ i.kind ∧ i.kind ≤ 5) ∧ (1 ≤ i.len ∧ i.len ≤ 3600)) ∧ (SpsOk i.len i.trims ∧ SpsOk i.len i.talks) ∧ sumSp i.trims < i.len ∧ KindOk i
instance (i : It) : Decidable (ItOk i) := by unfold ItOk; infer_instance
end Go.Proofs.Yteehjciepccomaa
