/-
  item.isCut.
-/
import Derived.Test.YtpkeimdlcafcnaaIValid
import Derived.Test.YtpkeimdlcafcnaaIOrdI
namespace Go.Proofs.Ytpkeimdlcafcnaa
open Go.RowKit
set_option maxRecDepth 100000
set_option maxHeartbeats 20000000

theorem isCut_it {n₀ n₁ : Nat} (i : It) (ta : Option Addr) (tc : Nat) (ka : Option Addr) (kc : Nat) (ca : Option Addr) (cn cc : Nat) (cut : List Int) (w : World) (hT : SpsAt n₀ w ta i.trims) (hK : SpsAt n₀ w ka i.talks) (hn : n₀ ≤ w.heap.size) (hm : i.trims.length ≤ maxLen) (hm2 : i.talks.length ≤ maxLen)
    (hC : Ints n₁ w (.slice ca cn cc) cut) (hn1 : n₁ ≤ w.heap.size) (hm3 : cn ≤ maxLen) :
    Calls Try.prog 57 #[.agg #[.int .i64 i.id, .int .i64 i.kind, .int .i64 i.len, .slice ta i.trims.length tc, .slice ka i.talks.length kc, .int .i64 i.artist, .int .i64 i.tempo, .int .i64 i.lang], .slice ca cn cc] w fun e w' => e = .returned (.bool (decide (ItOk i ∧ CutOk i.trims.length cut))) ∧ Upd [] w w' := by
  obtain ⟨tn, htn⟩ : ∃ n, i.trims.length = n := ⟨_, rfl⟩
  obtain ⟨kn, hkn⟩ : ∃ n, i.talks.length = n := ⟨_, rfl⟩
  have L1 := Blk.new w 24 [.int .i64 i.id, .int .i64 i.kind, .int .i64 i.len, .slice ta i.trims.length tc, .slice ka i.talks.length kc, .int .i64 i.artist, .int .i64 i.tempo, .int .i64 i.lang]
  have u1 := (Upd.refl [] w).alloc (.cells #[.int .i64 i.id, .int .i64 i.kind, .int .i64 i.len, .slice ta i.trims.length tc, .slice ka i.talks.length kc, .int .i64 i.artist, .int .i64 i.tempo, .int .i64 i.lang] 24)
  have VA := valid_it i ta tc ka kc _ (hT.upd u1 hn (by simp)) (hK.upd u1 hn (by simp)) (Nat.le_trans hn u1.size) hm hm2
  rw [htn, hkn] at VA u1 L1 ⊢
  obtain ⟨r, hr⟩ : ∃ q, decide (ItOk i ∧ CutOk tn cut) = q := ⟨_, rfl⟩
  rw [hr]
  have HR := hide hr
  clear hr
  have OI := hide (show ∀ W, Upd [] w W → W.cell? ⟨w.heap.size, 3, none⟩ = some (.slice ta tn tc) → Calls Try.prog 69 #[.slice ca cn cc, .int .i64 4, .func (.func 68) #[] #[.pointer (some ⟨w.heap.size, 0, none⟩)], .func (.func 70) #[] #[]] W fun e w' => e = .returned (.bool (decide (CutOk tn cut))) ∧ W = w' from fun W hW hc =>
    ordered_int ca cn cc cut w.heap.size ta tn tc W (ints_upd hC hW hn1 (by simp)) hm3 hc (by rw [← htn]; exact hm))
  have k0 := L1.cell 0
  have k1 := L1.cell 1
  have k2 := L1.cell 2
  have k3 := L1.cell 3
  have k4 := L1.cell 4
  have k5 := L1.cell 5
  have k6 := L1.cell 6
  have k7 := L1.cell 7
  have HV := hide VA
  have U1 := hide u1
  have hmf : ∀ (fn : Fn) (first cap : Array Value) (w : World), (Instr.makeFunc fn first cap).run Try.prog w = .ok (.func fn first cap) w := fun _ _ _ _ => rfl
  clear hT hK hm hm2 hC VA u1 L1 htn hkn
  go_enter Try.func57, Try.ntmps57
  go_wp2_with fail
  obtain ⟨q, hq⟩ : ∃ q, decide (ItOk i) = q := ⟨_, rfl⟩
  have V := HV.out
  rw [hq] at V
  have HQ := hide hq
  clear hq
  refine V.mono ?_
  clear V
  rintro e w1 ⟨rfl, u⟩
  have U2 := hide (U1.out.trans u (by simp))
  have m3 := keepc _ _ _ _ u k3
  clear u k0 k1 k2 k3 k4 k5 k6 k7
  cases q with
  | false =>
    obtain rfl : r = false := by rw [← HR.out]; exact decide_eq_false (fun h => of_decide_eq_false HQ.out h.1)
    go_wp2_with fail
    go_ret
    exact ⟨rfl, U2.out⟩
  | true =>
    have HE := hide (show decide (CutOk tn cut) = r by rw [← HR.out]; exact decide_eq_decide.2 ⟨fun h => ⟨of_decide_eq_true HQ.out, h⟩, fun h => h.2⟩)
    have O2 := OI.out _ U2.out m3
    rw [HE.out] at O2
    have HO2 := hide O2
    clear O2
    go_wp2_with fail
    refine HO2.out.mono ?_
    rintro e w' ⟨rfl, rfl⟩
    go_wp2_with fail
    go_ret
    exact ⟨rfl, U2.out⟩
end Go.Proofs.Ytpkeimdlcafcnaa
