/-
  Items as plain data: spells, cuts, lengths.
-/
namespace Go.Proofs.Ytpkeimdlcafcnaa

/-- A spell. -/
structure Sp where
  fr : Int
  to_ : Int
/-- A recording. -/
structure It where
  id : Int
  kind : Int
  len : Int
  trims : List Sp
  talks : List Sp
  artist : Int
  tempo : Int
  lang : Int

def SpIn (n : Int) (s : Sp) : Prop := 0 ≤ s.fr ∧ s.fr < s.to_ ∧ s.to_ ≤ n
instance (n : Int) (s : Sp) : Decidable (SpIn n s) := by unfold SpIn; infer_instance
/-- Spell k lies in the recording, and follows the one before it. -/
def SpOk (n : Int) (l : List Sp) (k : Nat) : Prop := SpIn n (l[k]?.getD ⟨0, 0⟩) ∧ (k = 0 ∨ (l[k - 1]?.getD ⟨0, 0⟩).to_ ≤ (l[k]?.getD ⟨0, 0⟩).fr)
instance (n : Int) (l : List Sp) (k : Nat) : Decidable (SpOk n l k) := by unfold SpOk; infer_instance
def SpsOk (n : Int) (l : List Sp) : Prop := (∀ k, k < l.length → SpOk n l k) ∧ l.length ≤ 4
instance (n : Int) (l : List Sp) : Decidable (SpsOk n l) := by unfold SpsOk; infer_instance
def sumSp (l : List Sp) : Int := l.foldl (fun c s => c + (s.to_ - s.fr)) 0
theorem foldl_sp (l : List Sp) : ∀ c : Int, l.foldl (fun c s => c + (s.to_ - s.fr)) c = c + sumSp l := by
  unfold sumSp
  induction l with
  | nil => intro c; simp
  | cons s l ih =>
    intro c
    rw [List.foldl_cons, List.foldl_cons, ih, ih (0 + (s.to_ - s.fr))]
    omega
theorem sumSp_nil : sumSp [] = 0 := rfl
theorem sumSp_snoc (l : List Sp) (s : Sp) : sumSp (l ++ [s]) = sumSp l + (s.to_ - s.fr) := by
  unfold sumSp
  rw [List.foldl_append]
  rfl
theorem sumSp_cons (s : Sp) (l : List Sp) : sumSp (s :: l) = (s.to_ - s.fr) + sumSp l := by
  show (s :: l).foldl _ 0 = _
  rw [List.foldl_cons, foldl_sp]
  omega
def KindOk (i : It) : Prop := (i.kind = 1 ∧ (0 ≤ i.artist ∧ i.artist ≤ 99) ∧ (1 ≤ i.tempo ∧ i.tempo ≤ 5) ∧ (1 ≤ i.lang ∧ i.lang ≤ 4)) ∨ (i.kind ≠ 1 ∧ i.artist = 0 ∧ i.tempo = 0 ∧ i.lang = 0)
instance (i : It) : Decidable (KindOk i) := by unfold KindOk; infer_instance
def ItOk (i : It) : Prop := ((0 ≤ i.id ∧ i.id < 200) ∧ (1 ≤ i.kind ∧ i.kind ≤ 5) ∧ (1 ≤ i.len ∧ i.len ≤ 3600)) ∧ (SpsOk i.len i.trims ∧ SpsOk i.len i.talks) ∧ sumSp i.trims < i.len ∧ KindOk i
instance (i : It) : Decidable (ItOk i) := by unfold ItOk; infer_instance
end Go.Proofs.Ytpkeimdlcafcnaa
