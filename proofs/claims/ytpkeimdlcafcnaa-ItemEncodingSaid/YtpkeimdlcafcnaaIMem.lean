/-
  Items in memory; the small functions on spells.
-/
import Derived.Test.YtpkeimdlcafcnaaIBase
import Derived.Test.YtpkeimdlcafcnaaIPlain
namespace Go.Proofs.Ytpkeimdlcafcnaa
open Go.RowKit
set_option maxRecDepth 100000
set_option maxHeartbeats 1000000

def SpsAt (n₀ : Nat) (w : World) (a : Option Addr) (l : List Sp) : Prop := ∀ i s, l[i]? = some s → ∃ b o, a = some ⟨b, o, none⟩ ∧ b < n₀ ∧
  w.cell? ⟨b, o + i * 2, none⟩ = some (.int .i64 s.fr) ∧ w.cell? ⟨b, o + i * 2 + 1, none⟩ = some (.int .i64 s.to_)
theorem SpsAt.upd {n₀ : Nat} {w w' : World} {a : Option Addr} {l : List Sp} {ls : List Nat} (h : SpsAt n₀ w a l) (hu : Upd ls w w') (hn : n₀ ≤ w.heap.size) (hl : ∀ x ∈ ls, n₀ ≤ x) : SpsAt n₀ w' a l := by
  intro i s hs
  obtain ⟨b, o, e, h1, c0, c1⟩ := h i s hs
  have hk : b ∉ ls := fun hm => by have := hl b hm; omega
  exact ⟨b, o, e, h1, (hu.cell (p := ⟨b, _, none⟩) (Nat.lt_of_lt_of_le h1 hn) hk).trans c0, (hu.cell (p := ⟨b, _, none⟩) (Nat.lt_of_lt_of_le h1 hn) hk).trans c1⟩
theorem SpsAt.mono {n₀ n₁ : Nat} {w : World} {a : Option Addr} {l : List Sp} (h : SpsAt n₀ w a l) (hn : n₀ ≤ n₁) : SpsAt n₁ w a l := by
  intro i s hs
  obtain ⟨b, o, e, h1, c⟩ := h i s hs
  exact ⟨b, o, e, by omega, c⟩

theorem length_any (f t : Int) (w : World) (h1 : -1000000000000000000 ≤ f ∧ f ≤ 1000000000000000000) (h2 : -1000000000000000000 ≤ t ∧ t ≤ 1000000000000000000) :
    Calls Try.prog 44 #[.agg #[.int .i64 f, .int .i64 t]] w fun e w' => e = .returned (.int .i64 (t - f)) ∧ Upd [] w w' := by
  have L1 := Blk.new w 53 [.int .i64 f, .int .i64 t]
  have U1 := hide ((Upd.refl [] w).alloc (.cells #[.int .i64 f, .int .i64 t] 53))
  have k0 := L1.cell 0
  have k1 := L1.cell 1
  have hw : IntKind.i64.wrap (t - f) = t - f := Go.IntWalk.i64_in _ (by omega)
  clear L1 h1 h2
  go_enter Try.func44, Try.ntmps44
  go_wp2_with fail
  go_ret
  exact ⟨rfl, U1.out⟩

theorem right_sp (s : Sp) (n : Int) (bi : Nat) (w : World) (hb : w.cell? ⟨bi, 2, none⟩ = some (.int .i64 n)) :
    Calls Try.prog 41 #[.agg #[.int .i64 s.fr, .int .i64 s.to_], .pointer (some ⟨bi, 0, none⟩)] w fun e w' => e = .returned (.bool (decide (SpIn n s))) ∧ Upd [] w w' := by
  obtain ⟨f, t⟩ := s
  rw [show decide (SpIn n ⟨f, t⟩) = decide (0 ≤ f ∧ f < t ∧ t ≤ n) from decide_eq_decide.2 Iff.rfl]
  show Calls Try.prog 41 #[.agg #[.int .i64 f, .int .i64 t], .pointer (some ⟨bi, 0, none⟩)] w _
  have L1 := Blk.new w 53 [.int .i64 f, .int .i64 t]
  have U1 := hide ((Upd.refl [] w).alloc (.cells #[.int .i64 f, .int .i64 t] 53))
  have k0 := L1.cell 0
  have k1 := L1.cell 1
  have k2 := (U1.out.cell (p := ⟨bi, 2, none⟩) (World.block_lt_of_cell? _ _ hb) (by simp)).trans hb
  clear L1 hb
  go_enter Try.func41, Try.ntmps41
  by_cases h1 : 0 ≤ f
  · by_cases h2 : f < t
    · by_cases h3 : t ≤ n
      · rw [decide_eq_true (⟨h1, h2, h3⟩ : 0 ≤ f ∧ f < t ∧ t ≤ n)]
        go_wp2_with fail
        go_ret
        exact ⟨rfl, U1.out⟩
      · rw [decide_eq_false (fun h => h3 h.2.2 : ¬ (0 ≤ f ∧ f < t ∧ t ≤ n))]
        go_wp2_with fail
        go_ret
        exact ⟨rfl, U1.out⟩
    · rw [decide_eq_false (fun h => h2 h.2.1 : ¬ (0 ≤ f ∧ f < t ∧ t ≤ n))]
      go_wp2_with fail
      go_ret
      exact ⟨rfl, U1.out⟩
  · rw [decide_eq_false (fun h => h1 h.1 : ¬ (0 ≤ f ∧ f < t ∧ t ≤ n))]
    go_wp2_with fail
    go_ret
    exact ⟨rfl, U1.out⟩

theorem follows_sp (r s : Sp) (w : World) :
    Calls Try.prog 42 #[.agg #[.int .i64 r.fr, .int .i64 r.to_], .agg #[.int .i64 s.fr, .int .i64 s.to_]] w fun e w' => e = .returned (.bool (decide (r.to_ ≤ s.fr))) ∧ Upd [] w w' := by
  have L1 := Blk.new w 53 [.int .i64 r.fr, .int .i64 r.to_]
  have L2 := Blk.new (w.alloc (.cells #[.int .i64 r.fr, .int .i64 r.to_] 53)) 53 [.int .i64 s.fr, .int .i64 s.to_]
  have L3 := L1.alloc (.cells #[.int .i64 s.fr, .int .i64 s.to_] 53)
  have U1 := hide (((Upd.refl [] w).alloc (.cells #[.int .i64 r.fr, .int .i64 r.to_] 53)).alloc (.cells #[.int .i64 s.fr, .int .i64 s.to_] 53))
  have k0 := L2.cell 0
  have k1 := L3.cell 1
  rw [World.size_alloc] at k0
  clear L1 L2 L3
  go_enter Try.func42, Try.ntmps42
  go_wp2_with fail
  go_ret
  exact ⟨rfl, U1.out⟩
end Go.Proofs.Ytpkeimdlcafcnaa
