/-
  A tape and a builder side by side: their blocks are of different types.
-/
import Derived.Test.YtafjolibfbccbaaGreatDoorZ25JournalOpensAnythingCard
import Derived.Test.YtafjolibfbccbaaGreatDoorZ10JournalOpensAnythingCard

namespace Go.Proofs.YtafjolibfbccbaaGreatDoor
open Go.RowKit

theorem rows_apart {w : World} {b1 b2 e1 e2 s1 s2 n1 n2 : Nat} {v1 v2 : Value} {xs1 xs2 : List Value} (h : w.ownsRow b1 e1 s1 v1 n1 xs1) (h' : w.ownsRow b2 e2 s2 v2 n2 xs2) (hne : e1 ≠ e2) : ∀ k, v1.ownBlock = some k → v2.ownBlock = some k → False := by
  intro k h1 h2
  rcases h.2 with ⟨hv, _⟩ | ⟨g, cap, cur, hv, _, hg, _⟩
  · rw [hv] at h1; cases h1
  · rcases h'.2 with ⟨hv', _⟩ | ⟨g', cap', cur', hv', _, hg', _⟩
    · rw [hv'] at h2; cases h2
    · rw [hv] at h1; rw [hv'] at h2
      simp only [Value.ownBlock, Option.some.injEq] at h1 h2
      subst h1 h2
      rw [hg] at hg'
      simp only [Option.some.injEq, Obj.cells.injEq] at hg'
      exact hne hg'.2.1
theorem IsTapeAt.upd0 {w w' : World} {base tb tt : Nat} {A : Option Addr} {c : Nat} {T : TapeS} {rest : List Value} (h : IsTapeAt w base tb tt A c T rest) (hu : Upd [] w w') : IsTapeAt w' base tb tt A c T rest :=
  ⟨h.1, keepB h.2.1 hu, own_kept h.2.2 hu (by simp)⟩
theorem IsTapeAt.stay {w w' : World} {base tb tt : Nat} {A : Option Addr} {c : Nat} {T : TapeS} {rest : List Value} {l : List Nat} (h : IsTapeAt w base tb tt A c T rest) (hu : Upd l w w') (h1 : tb ∉ l) (h2 : ∀ k, (A.map (·.block)) = some k → k ∉ l) : IsTapeAt w' base tb tt A c T rest :=
  ⟨h.1, h.2.1.upd hu h1, own_kept h.2.2 hu (fun k hk => h2 k (by rwa [ownBlock_slice] at hk))⟩
theorem IsB.stay {w w' : World} {base bb : Nat} {p v : Value} {bs : List Value} {l : List Nat} (h : IsB w base bb p v bs) (hu : Upd l w w') (h1 : bb ∉ l) (h2 : ∀ k, v.ownBlock = some k → k ∉ l) : IsB w' base bb p v bs :=
  ⟨h.1, h.2.1.upd hu h1, own_kept h.2.2.1 hu h2, h.2.2.2⟩
section
variable {w : World} {base tb bb : Nat} {A : Option Addr} {c : Nat} {T : TapeS} {rest : List Value} {p v : Value} {bs : List Value}
theorem tape_bld (h : IsTapeAt w base tb 72 A c T rest) (hB : IsB w base bb p v bs) (hm : bb ∈ tb :: (A.map (·.block)).toList) : False := by
  rcases List.mem_cons.1 hm with e | hm
  · exact hB.2.1.ne_ h.2.1 (by decide) e
  · exact own_blk_ne h.2.2 hB.2.1 (by decide) bb (by rw [ownBlock_slice]; simpa using hm) rfl
theorem tape_buf (h : IsTapeAt w base tb 72 A c T rest) (hB : IsB w base bb p v bs) (k : Nat) (hk : v.ownBlock = some k) (hm : k ∈ tb :: (A.map (·.block)).toList) : False := by
  rcases List.mem_cons.1 hm with e | hm
  · exact own_blk_ne hB.2.2.1 h.2.1 (by decide) k hk e
  · exact rows_apart hB.2.2.1 h.2.2 (by decide) k hk (by rw [ownBlock_slice]; simpa using hm)
theorem bld_tape (h : IsTapeAt w base tb 72 A c T rest) (hB : IsB w base bb p v bs) : tb ∉ bb :: (v.ownBlock).toList := by
  intro hm
  rcases List.mem_cons.1 hm with e | hm
  · exact h.2.1.ne_ hB.2.1 (by decide) e
  · exact own_blk_ne hB.2.2.1 h.2.1 (by decide) tb (by simpa using hm) rfl
theorem bld_row (h : IsTapeAt w base tb 72 A c T rest) (hB : IsB w base bb p v bs) (k : Nat) (hk : (A.map (·.block)) = some k) (hm : k ∈ bb :: (v.ownBlock).toList) : False := by
  rcases List.mem_cons.1 hm with e | hm
  · exact own_blk_ne h.2.2 hB.2.1 (by decide) k (by rw [ownBlock_slice]; exact hk) e
  · exact rows_apart hB.2.2.1 h.2.2 (by decide) k (by simpa using hm) (by rw [ownBlock_slice]; exact hk)
theorem tape_ge {tt : Nat} (h : IsTapeAt w base tb tt A c T rest) {B : Nat} (hb : B ≤ base) : ∀ x ∈ tb :: (A.map (·.block)).toList, B ≤ x := by
  intro x hx
  rcases List.mem_cons.1 hx with rfl | hx
  · have := h.1; omega
  · have := it_own_block h.2.2 x (by rw [ownBlock_slice]; simpa using hx); omega
theorem bld_ge (hB : IsB w base bb p v bs) {B : Nat} (hb : B ≤ base) : ∀ x ∈ bb :: (v.ownBlock).toList, B ≤ x := by
  intro x hx
  rcases List.mem_cons.1 hx with rfl | hx
  · have := hB.1; omega
  · have := it_own_block hB.2.2.1 x (by simpa using hx); omega
end
end Go.Proofs.YtafjolibfbccbaaGreatDoor
