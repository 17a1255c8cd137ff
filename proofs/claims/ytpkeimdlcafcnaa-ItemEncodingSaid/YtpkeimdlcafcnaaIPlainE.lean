/-
  Encodings: no one is the beginning of another.
-/
import Derived.Test.YtpkeimdlcafcnaaIEncode
namespace Go.Proofs.Ytpkeimdlcafcnaa

def grpsB (z : Nat) : List UInt8 := (groupsS z).map fun x => UInt8.ofNat (grpB x)
theorem grpsB_last {z : Nat} (h : z < 128) : grpsB z = [UInt8.ofNat z] := by unfold grpsB; rw [groupsS_last h]; rfl
theorem grpsB_more {z : Nat} (h : ¬ z < 128) : grpsB z = UInt8.ofNat (z % 128 + 128) :: grpsB (z / 128) := by unfold grpsB; rw [groupsS_more h]; rfl
theorem byte_inj {a b : Nat} (ha : a < 256) (hb : b < 256) (h : UInt8.ofNat a = UInt8.ofNat b) : a = b := by
  have := congrArg UInt8.toNat h
  simp at this
  omega
theorem grps_cancel : ∀ (z z' : Nat) (a b : List UInt8), grpsB z ++ a = grpsB z' ++ b → z = z' ∧ a = b := by
  intro z
  induction z using Nat.strongRecOn with
  | _ z ih =>
    intro z' a b h
    by_cases h1 : z < 128
    · by_cases h2 : z' < 128
      · rw [grpsB_last h1, grpsB_last h2] at h
        injection h with h3 h4
        exact ⟨byte_inj (by omega) (by omega) h3, h4⟩
      · rw [grpsB_last h1, grpsB_more h2] at h
        injection h with h3 h4
        have := byte_inj (by omega) (by omega) h3
        omega
    · by_cases h2 : z' < 128
      · rw [grpsB_more h1, grpsB_last h2] at h
        injection h with h3 h4
        have := byte_inj (by omega) (by omega) h3
        omega
      · rw [grpsB_more h1, grpsB_more h2] at h
        injection h with h3 h4
        have e1 := byte_inj (by omega) (by omega) h3
        obtain ⟨e2, e3⟩ := ih (z / 128) (by omega) (z' / 128) a b h4
        exact ⟨by omega, e3⟩
theorem zig_inj {x y : Int} (h : zigS x = zigS y) : x = y := by unfold zigS at h; split at h <;> split at h <;> omega
theorem putS_cancel {x y : Int} {a b : List UInt8} (h : putS x ++ a = putS y ++ b) : x = y ∧ a = b := by
  obtain ⟨e1, e2⟩ := grps_cancel (zigS x) (zigS y) a b h
  exact ⟨zig_inj e1, e2⟩
theorem putS_ne (x : Int) : putS x ≠ [] := by
  show grpsB (zigS x) ≠ []
  by_cases h : zigS x < 128
  · rw [grpsB_last h]; simp
  · rw [grpsB_more h]; simp
theorem flat_prefix : ∀ (L1 L2 : List Int) (r : List UInt8), L1.flatMap putS ++ r = L2.flatMap putS → ∃ r', L2 = L1 ++ r'
  | [], L2, _, _ => ⟨L2, rfl⟩
  | x :: L1, [], r, h => by
    rw [List.flatMap_cons, List.flatMap_nil, List.append_assoc] at h
    exact absurd (List.append_eq_nil_iff.1 h).1 (putS_ne x)
  | x :: L1, y :: L2, r, h => by
    rw [List.flatMap_cons, List.flatMap_cons, List.append_assoc] at h
    obtain ⟨rfl, e⟩ := putS_cancel h
    obtain ⟨r', rfl⟩ := flat_prefix L1 L2 r e
    exact ⟨r', rfl⟩
theorem flatSp_inj : ∀ {l m : List Sp}, flatSp l = flatSp m → l = m
  | [], [], _ => rfl
  | [], t :: m, h => by simp [flatSp] at h
  | s :: l, [], h => by simp [flatSp] at h
  | s :: l, t :: m, h => by
    have e : ∀ (s : Sp) (l : List Sp), flatSp (s :: l) = s.fr :: s.to_ :: flatSp l := fun _ _ => rfl
    rw [e, e] at h
    injection h with h1 h2
    injection h2 with h2 h3
    rw [flatSp_inj h3]
    cases s; cases t
    simp only at h1 h2
    rw [h1, h2]
theorem allS_form (i : It) : allS i = i.id :: i.kind :: i.len :: i.artist :: i.tempo :: i.lang :: (i.trims.length : Int) :: (flatSp i.trims ++ (i.talks.length : Int) :: flatSp i.talks) := by
  simp [allS, allTo, sixS, listOf]
theorem all_prefix {i k : It} {r : List Int} (h : allS k = allS i ++ r) : i = k := by
  rw [allS_form, allS_form] at h
  simp only [List.cons_append, List.append_assoc] at h
  injection h with h1 h; injection h with h2 h; injection h with h3 h; injection h with h4 h; injection h with h5 h; injection h with h6 h; injection h with h7 h
  obtain ⟨e1, e2⟩ := List.append_inj h (by rw [flatSp_length, flatSp_length]; omega)
  injection e2 with e2 e3
  obtain ⟨e4, _⟩ := List.append_inj (s₁ := flatSp k.talks) (t₁ := []) (s₂ := flatSp i.talks) (t₂ := r) (by rw [List.append_nil]; exact e3) (by rw [flatSp_length, flatSp_length]; omega)
  have e5 := flatSp_inj e1
  have e6 := flatSp_inj e4
  cases i; cases k
  simp only at *
  subst h1 h2 h3 h4 h5 h6 e5 e6
  rfl
/-- No encoding is the beginning of that of another recording. -/
theorem enc_prefix {i k : It} {r : List UInt8} (h : encS i ++ r = encS k) : i = k := by
  obtain ⟨r', e⟩ := flat_prefix (allS i) (allS k) r h
  exact all_prefix e
theorem enc_take {i k : It} (h : (encS k).take (encS i).length = encS i) : i = k := enc_prefix (r := (encS k).drop (encS i).length) (by
  have := List.take_append_drop (encS i).length (encS k)
  rwa [h] at this)
theorem enc_inj {i k : It} (h : encS i = encS k) : i = k := enc_prefix (r := []) (by rw [List.append_nil, h])
theorem enc_head (i : It) : ∃ r, encS i = putS i.id ++ r := ⟨(allS i).tail.flatMap putS, by unfold encS; rw [allS_form]; rfl⟩
end Go.Proofs.Ytpkeimdlcafcnaa
