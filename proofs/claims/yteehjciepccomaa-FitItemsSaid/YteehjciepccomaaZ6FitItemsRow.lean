/-
  item.Valid.
  item.isCut.
  item.Length.
  item.Place.
-/
import Derived.Test.YteehjciepccomaaZ5FitItemsRow
import Derived.Deep.CutBlock
import Derived.Test.YteehjciepccomaaZ3FitItemsRow

namespace Go.Proofs.Yteehjciepccomaa
open Go.RowKit
set_option maxRecDepth 100000
set_option maxHeartbeats 20000000

def SongOk (i : It) : Prop := (0 ≤ i.artist ∧ i.artist ≤ 99) ∧ (1 ≤ i.tempo ∧ i.tempo ≤ 5) ∧ (1 ≤ i.lang ∧ i.lang ≤ 4)
instance (i : It) : Decidable (SongOk i) := by unfold SongOk; infer_instance
theorem sp_in {n : Int} {l : List Sp} (h : SpsOk n l) {s : Sp} (hs : s ∈ l) : SpIn n s := by
  obtain ⟨k, hk, he⟩ := List.mem_iff_getElem.1 hs
  have := (h.1 k hk).1
  rwa [List.getElem?_eq_getElem hk, he] at this

theorem valid_it {n₀ : Nat} (i : It) (ta : Option Addr) (tc : Nat) (ka : Option Addr) (kc : Nat) (w : World) (hT : SpsAt n₀ w ta i.trims) (hK : SpsAt n₀ w ka i.talks) (hn : n₀ ≤ w.heap.size) (hm : i.trims.length ≤ maxLen) (hm2 : i.talks.length ≤ maxLen) :
    Calls Try.prog 60 #[.agg #[.int .i64 i.id, .int .i64 i.kind, .int .i64 i.len, .slice ta i.trims.length tc, .slice ka i.talks.length kc, .int .i64 i.artist, .int .i64 i.tempo, .int .i64 i.lang]] w fun e w' => e = .returned (.bool (decide (ItOk i))) ∧ Upd [] w w' := by
  obtain ⟨r, hr⟩ : ∃ r, decide (ItOk i) = r := ⟨_, rfl⟩
  rw [hr]
  have HR := hide hr
  have NO := hide (show ∀ q : Prop, (ItOk i → q) → ¬ q → r = false from fun q h1 h2 => by
    rw [← hr]
    exact decide_eq_false fun h => h2 (h1 h))
  clear hr
  obtain ⟨tn, htn⟩ : ∃ n, i.trims.length = n := ⟨_, rfl⟩
  obtain ⟨kn, hkn⟩ : ∃ n, i.talks.length = n := ⟨_, rfl⟩
  have L1 := Blk.new w 61 [.int .i64 i.id, .int .i64 i.kind, .int .i64 i.len, .slice ta i.trims.length tc, .slice ka i.talks.length kc, .int .i64 i.artist, .int .i64 i.tempo, .int .i64 i.lang]
  have U1 := hide ((Upd.refl [] w).alloc (.cells #[.int .i64 i.id, .int .i64 i.kind, .int .i64 i.len, .slice ta i.trims.length tc, .slice ka i.talks.length kc, .int .i64 i.artist, .int .i64 i.tempo, .int .i64 i.lang] 61))
  rw [htn, hkn] at L1 U1 ⊢
  have KC := hide (fun (W : World) (hW : Upd [] (w.alloc (.cells #[.int .i64 i.id, .int .i64 i.kind, .int .i64 i.len, .slice ta tn tc, .slice ka kn kc, .int .i64 i.artist, .int .i64 i.tempo, .int .i64 i.lang] 61)) W) (j : Nat) (v : Value) (hv : [Value.int .i64 i.id, .int .i64 i.kind, .int .i64 i.len, .slice ta tn tc, .slice ka kn kc, .int .i64 i.artist, .int .i64 i.tempo, .int .i64 i.lang][j]? = some v) => keepc _ W ⟨w.heap.size, j, none⟩ v hW ((L1.cell j).trans hv))
  have k0 := L1.cell 0
  have k1 := L1.cell 1
  have k2 := L1.cell 2
  have k3 := L1.cell 3
  have k4 := L1.cell 4
  have HTN := hide htn
  have HKN := hide hkn
  have HT := hide hT
  have HK := hide hK
  have OT := hide (show ∀ W, Upd [] w W → W.cell? ⟨w.heap.size, 2, none⟩ = some (.int .i64 i.len) → Calls Try.prog 78 #[.slice ta tn tc, .int .i64 4, .func (.func 76) #[] #[.pointer (some ⟨w.heap.size, 0, none⟩)], .func (.func 77) #[] #[]] W fun e w' => e = .returned (.bool (decide (SpsOk i.len i.trims))) ∧ Upd [] W w' from fun W hW hc => by
    rw [← htn]
    exact ordered_sp ta tc i.trims i.len w.heap.size W (hT.upd hW hn (by simp)) hm hc)
  have OK' := hide (show ∀ W, Upd [] w W → W.cell? ⟨w.heap.size, 2, none⟩ = some (.int .i64 i.len) → Calls Try.prog 78 #[.slice ka kn kc, .int .i64 4, .func (.func 76) #[] #[.pointer (some ⟨w.heap.size, 0, none⟩)], .func (.func 77) #[] #[]] W fun e w' => e = .returned (.bool (decide (SpsOk i.len i.talks))) ∧ Upd [] W w' from fun W hW hc => by
    rw [← hkn]
    exact ordered_sp ka kc i.talks i.len w.heap.size W (hK.upd hW hn (by simp)) hm2 hc)
  have htm : tn ≤ 9223372036854775807 := by unfold maxLen at hm; omega
  have hkm : kn ≤ 9223372036854775807 := by unfold maxLen at hm2; omega
  clear hT hK htn hkn L1 hm hm2
  go_enter Try.func60, Try.ntmps60
  by_cases d1 : i.id < 0
  · obtain rfl : r = false := NO.out _ (fun h => h.1.1.1) (by omega)
    go_wp2_with fail
    go_ret
    exact ⟨rfl, U1.out⟩
  by_cases d2 : 200 ≤ i.id
  · obtain rfl : r = false := NO.out _ (fun h => h.1.1.2) (by omega)
    go_wp2_with fail
    go_ret
    exact ⟨rfl, U1.out⟩
  by_cases d3 : i.kind < 1
  · obtain rfl : r = false := NO.out _ (fun h => h.1.2.1.1) (by omega)
    go_wp2_with fail
    go_ret
    exact ⟨rfl, U1.out⟩
  by_cases d4 : 5 < i.kind
  · obtain rfl : r = false := NO.out _ (fun h => h.1.2.1.2) (by omega)
    go_wp2_with fail
    go_ret
    exact ⟨rfl, U1.out⟩
  by_cases d5 : i.len < 1
  · obtain rfl : r = false := NO.out _ (fun h => h.1.2.2.1) (by omega)
    go_wp2_with fail
    go_ret
    exact ⟨rfl, U1.out⟩
  by_cases d6 : 3600 < i.len
  · obtain rfl : r = false := NO.out _ (fun h => h.1.2.2.2) (by omega)
    go_wp2_with fail
    go_ret
    exact ⟨rfl, U1.out⟩
  have D := hide (show (0 ≤ i.id ∧ i.id < 200) ∧ (1 ≤ i.kind ∧ i.kind ≤ 5) ∧ (1 ≤ i.len ∧ i.len ≤ 3600) by omega)
  have hmf : ∀ (fn : Fn) (first cap : Array Value) (w : World), (Instr.makeFunc fn first cap).run Try.prog w = .ok (.func fn first cap) w := fun _ _ _ _ => rfl
  go_wp2_with fail
  obtain ⟨q1, hq1⟩ : ∃ q, decide (SpsOk i.len i.trims) = q := ⟨_, rfl⟩
  have OT1 := OT.out _ U1.out k2
  rw [hq1] at OT1
  have HQ1 := hide hq1
  clear hq1
  refine OT1.mono ?_
  clear OT1
  rintro e w1 ⟨rfl, u1⟩
  have V1 := hide u1
  have UW1 := hide (U1.out.trans u1 (by simp))
  have m2 := KC.out w1 u1 2 _ rfl
  have m4 := KC.out w1 u1 4 _ rfl
  clear u1
  cases q1 with
  | false =>
    obtain rfl : r = false := NO.out _ (fun h => h.2.1.1) (of_decide_eq_false HQ1.out)
    go_wp2_with fail
    go_ret
    exact ⟨rfl, UW1.out⟩
  | true =>
  go_wp2_with fail
  obtain ⟨q2, hq2⟩ : ∃ q, decide (SpsOk i.len i.talks) = q := ⟨_, rfl⟩
  have OT1 := OK'.out _ UW1.out m2
  rw [hq2] at OT1
  have HQ2 := hide hq2
  clear hq2
  refine OT1.mono ?_
  clear OT1
  rintro e w2 ⟨rfl, u2⟩
  have V2 := hide (V1.out.trans u2 (by simp))
  have UW2 := hide (UW1.out.trans u2 (by simp))
  have n2 := KC.out w2 V2.out 2 _ rfl
  have n3 := KC.out w2 V2.out 3 _ rfl
  clear u2 m2 m4 k0 k1 k2 k3 k4
  cases q2 with
  | false =>
    obtain rfl : r = false := NO.out _ (fun h => h.2.1.2) (of_decide_eq_false HQ2.out)
    go_wp2_with fail
    go_ret
    exact ⟨rfl, UW2.out⟩
  | true =>
  have hn4 : tn ≤ 4 := by have := (of_decide_eq_true HQ1.out).2; have := HTN.out; omega
  go_wp2_with fail
  go_loopw [5, 57] (fun s5 s57 wr => ∃ (k : Nat) (v : Int), k ≤ tn ∧ s57 = .int .i64 k ∧ s5 = .int .i64 v ∧ Hid (v = i.len - sumSp (i.trims.take k)) ∧ (-100000 ≤ v ∧ v ≤ 100000) ∧ (-3600 * (k : Int) ≤ v ∧ v ≤ 3600) ∧ Hid (Upd [] w2 wr)) (fun _ k _ => tn - (intOf k).toNat)
  case atStart => exact ⟨0, i.len, Nat.zero_le _, rfl, rfl, hide (by rw [List.take_zero, sumSp_nil]; omega), by have := D.out; omega, by have := D.out; omega, Upd.refl _ _⟩
  case round =>
    obtain ⟨k, v, hk, rfl, rfl, hv, ⟨hv1, hv2⟩, ⟨hv3, hv4⟩, hu⟩ := hrel
    obtain ⟨wo, rfl⟩ : ∃ wo : World, wo = wr := ⟨_, rfl⟩
    by_cases hkl : k < tn
    · obtain ⟨s, hs⟩ : ∃ s, i.trims[k]? = some s := ⟨_, List.getElem?_eq_getElem (by have := HTN.out; omega)⟩
      obtain ⟨b, o, ea, hb, c0, c1⟩ := (HT.out.upd (UW2.out.trans hu.out (by simp)) hn (by simp)) k s hs
      subst ea
      have hin := sp_in (of_decide_eq_true HQ1.out) (List.mem_of_getElem? hs)
      have hl36 := D.out.2.2.2
      obtain ⟨hi1, hi2, hi3⟩ := hin
      have HS := hide hs
      have hki : (k : Int) < tn := by omega
      have L2 := Blk.new wo 99 [.int .i64 s.fr, .int .i64 s.to_]
      have x0 := L2.cell 0
      have x1 := L2.cell 1
      have UB := hide ((Upd.refl [] wo).alloc (.cells #[.int .i64 s.fr, .int .i64 s.to_] 99))
      have hw : IntKind.i64.wrap (v - (s.to_ - s.fr)) = v - (s.to_ - s.fr) := Go.IntWalk.i64_in _ (by omega)
      have LN := hide (fun W => length_any s.fr s.to_ W (by omega) (by omega))
      clear hs hb L2
      go_wp2_with fail
      refine (LN.out _).mono ?_
      rintro e w3 ⟨rfl, u3⟩
      have V3 := hide ((hu.out.trans UB.out (by simp)).trans u3 (by simp))
      clear u3
      go_wp2_with fail
      go_roundw
      case rel => exact ⟨k + 1, v - (s.to_ - s.fr), by omega, by go_num, by go_num, hide (by rw [List.take_add_one, HS.out, Option.toList_some, sumSp_snoc, hv.out]; omega), by omega, by omega, V3⟩
      case measure => simp [intOf] <;> omega
    · obtain rfl : k = tn := by omega
      have hki : ¬ (k : Int) < k := by omega
      have hv9 := hv.out
      rw [List.take_of_length_le (by have := HTN.out; omega)] at hv9
      have HV := hide hv9
      have UW3 := hide (UW2.out.trans hu.out (by simp))
      have z1 := KC.out wo (V2.out.trans hu.out (by simp)) 1 _ rfl
      have z5 := KC.out wo (V2.out.trans hu.out (by simp)) 5 _ rfl
      have z6 := KC.out wo (V2.out.trans hu.out (by simp)) 6 _ rfl
      have z7 := KC.out wo (V2.out.trans hu.out (by simp)) 7 _ rfl
      clear hv9 hv
      obtain ⟨sg, hsg⟩ : ∃ q, decide (SongOk i) = q := ⟨_, rfl⟩
      have HSG := hide hsg
      go_upto_region 13 with fail
      go_cut [8] from 66 to 93 (fun s8 wx => s8 = .bool sg ∧ wo = wx)
      case first =>
        by_cases e1 : 0 ≤ i.artist
        · by_cases e2 : i.artist ≤ 99
          · by_cases e3 : 1 ≤ i.tempo
            · by_cases e4 : i.tempo ≤ 5
              · by_cases e5 : 1 ≤ i.lang
                · by_cases e6 : i.lang ≤ 4
                  · obtain rfl : sg = true := by rw [← hsg]; exact decide_eq_true ⟨⟨e1, e2⟩, ⟨e3, e4⟩, ⟨e5, e6⟩⟩
                    clear hsg
                    go_wp2_with fail
                    go_meet
                    exact ⟨rfl, rfl⟩
                  · obtain rfl : sg = false := by rw [← hsg]; exact decide_eq_false (fun h => e6 (h.2.2.2))
                    clear hsg
                    go_wp2_with fail
                    go_meet
                    exact ⟨rfl, rfl⟩
                · obtain rfl : sg = false := by rw [← hsg]; exact decide_eq_false (fun h => e5 (h.2.2.1))
                  clear hsg
                  go_wp2_with fail
                  go_meet
                  exact ⟨rfl, rfl⟩
              · obtain rfl : sg = false := by rw [← hsg]; exact decide_eq_false (fun h => e4 (h.2.1.2))
                clear hsg
                go_wp2_with fail
                go_meet
                exact ⟨rfl, rfl⟩
            · obtain rfl : sg = false := by rw [← hsg]; exact decide_eq_false (fun h => e3 (h.2.1.1))
              clear hsg
              go_wp2_with fail
              go_meet
              exact ⟨rfl, rfl⟩
          · obtain rfl : sg = false := by rw [← hsg]; exact decide_eq_false (fun h => e2 (h.1.2))
            clear hsg
            go_wp2_with fail
            go_meet
            exact ⟨rfl, rfl⟩
        · obtain rfl : sg = false := by rw [← hsg]; exact decide_eq_false (fun h => e1 (h.1.1))
          clear hsg
          go_wp2_with fail
          go_meet
          exact ⟨rfl, rfl⟩
      case rest =>
        obtain ⟨rfl, rfl⟩ := hcut
        clear hsg
        obtain ⟨kd, hkd⟩ : ∃ x, i.kind = x := ⟨_, rfl⟩
        obtain ⟨ar, har⟩ : ∃ x, i.artist = x := ⟨_, rfl⟩
        obtain ⟨te, hte⟩ : ∃ x, i.tempo = x := ⟨_, rfl⟩
        obtain ⟨la, hla⟩ : ∃ x, i.lang = x := ⟨_, rfl⟩
        have z1' := (show wo.cell? ⟨w.heap.size, 1, none⟩ = some (.int .i64 kd) by rw [← hkd]; exact z1)
        have z5' := (show wo.cell? ⟨w.heap.size, 5, none⟩ = some (.int .i64 ar) by rw [← har]; exact z5)
        have z6' := (show wo.cell? ⟨w.heap.size, 6, none⟩ = some (.int .i64 te) by rw [← hte]; exact z6)
        have z7' := (show wo.cell? ⟨w.heap.size, 7, none⟩ = some (.int .i64 la) by rw [← hla]; exact z7)
        have IFF := hide (show ItOk i ↔ 0 < v ∧ ((kd = 1 ∧ SongOk i) ∨ (kd ≠ 1 ∧ ar = 0 ∧ te = 0 ∧ la = 0)) by
          have h1 := D.out
          have h2 := of_decide_eq_true HQ1.out
          have h3 := of_decide_eq_true HQ2.out
          have h4 := HV.out
          unfold ItOk KindOk SongOk
          rw [hkd, har, hte, hla] at *
          constructor
          · rintro ⟨_, _, h5, h6⟩
            exact ⟨by omega, h6⟩
          · rintro ⟨h5, h6⟩
            exact ⟨h1, ⟨h2, h3⟩, by omega, h6⟩)
        have YES := hide (show (0 < v ∧ ((kd = 1 ∧ SongOk i) ∨ (kd ≠ 1 ∧ ar = 0 ∧ te = 0 ∧ la = 0))) → r = true from fun h => by
          rw [← HR.out]
          exact decide_eq_true (IFF.out.2 h))
        have NOT := hide (show ¬ (0 < v ∧ ((kd = 1 ∧ SongOk i) ∨ (kd ≠ 1 ∧ ar = 0 ∧ te = 0 ∧ la = 0))) → r = false from fun h => by
          rw [← HR.out]
          exact decide_eq_false (fun h2 => h (IFF.out.1 h2)))
        clear z1 z5 z6 z7 hkd har hte hla
        by_cases g1 : 0 < v
        · by_cases g2 : kd = 1
          · subst g2
            cases sg with
            | true =>
              obtain rfl := YES.out ⟨g1, .inl ⟨rfl, of_decide_eq_true HSG.out⟩⟩
              go_wp2_with fail
              go_ret
              exact ⟨rfl, UW3.out⟩
            | false =>
              obtain rfl := NOT.out (by
                rintro ⟨_, ⟨_, h⟩ | ⟨h, _⟩⟩
                · exact of_decide_eq_false HSG.out h
                · exact h rfl)
              go_wp2_with fail
              go_ret
              exact ⟨rfl, UW3.out⟩
          · have g2b : (kd == 1) = false := by simpa using g2
            have g2c : (kd != 1) = true := by simpa using g2
            have G2 := hide g2
            clear g2
            by_cases g3 : ar = 0
            · subst g3
              by_cases g4 : te = 0
              · subst g4
                by_cases g5 : la = 0
                · subst g5
                  obtain rfl := YES.out ⟨g1, .inr ⟨G2.out, rfl, rfl, rfl⟩⟩
                  go_wp2_with fail
                  go_ret
                  exact ⟨rfl, UW3.out⟩
                · obtain rfl := NOT.out (by rintro ⟨_, ⟨h, _⟩ | ⟨_, _, _, h⟩⟩; exact G2.out h; exact g5 h)
                  have g5b : (la == 0) = false := by simpa using g5
                  clear g5
                  go_wp2_with fail
                  go_ret
                  exact ⟨rfl, UW3.out⟩
              · obtain rfl := NOT.out (by rintro ⟨_, ⟨h, _⟩ | ⟨_, _, h, _⟩⟩; exact G2.out h; exact g4 h)
                have g4b : (te == 0) = false := by simpa using g4
                clear g4
                go_wp2_with fail
                go_ret
                exact ⟨rfl, UW3.out⟩
            · obtain rfl := NOT.out (by rintro ⟨_, ⟨h, _⟩ | ⟨_, h, _⟩⟩; exact G2.out h; exact g3 h)
              have g3b : (ar == 0) = false := by simpa using g3
              clear g3
              go_wp2_with fail
              go_ret
              exact ⟨rfl, UW3.out⟩
        · obtain rfl := NOT.out (fun h => g1 h.1)
          go_wp2_with fail
          go_ret
          exact ⟨rfl, UW3.out⟩
end Go.Proofs.Yteehjciepccomaa

namespace Go.Proofs.Yteehjciepccomaa
open Go.RowKit
set_option maxRecDepth 100000
set_option maxHeartbeats 20000000

theorem isCut_it {n₀ n₁ : Nat} (i : It) (ta : Option Addr) (tc : Nat) (ka : Option Addr) (kc : Nat) (ca : Option Addr) (cn cc : Nat) (cut : List Int) (w : World) (hT : SpsAt n₀ w ta i.trims) (hK : SpsAt n₀ w ka i.talks) (hn : n₀ ≤ w.heap.size) (hm : i.trims.length ≤ maxLen) (hm2 : i.talks.length ≤ maxLen)
    (hC : Ints n₁ w (.slice ca cn cc) cut) (hn1 : n₁ ≤ w.heap.size) (hm3 : cn ≤ maxLen) :
    Calls Try.prog 64 #[.agg #[.int .i64 i.id, .int .i64 i.kind, .int .i64 i.len, .slice ta i.trims.length tc, .slice ka i.talks.length kc, .int .i64 i.artist, .int .i64 i.tempo, .int .i64 i.lang], .slice ca cn cc] w fun e w' => e = .returned (.bool (decide (ItOk i ∧ CutOk i.trims.length cut))) ∧ Upd [] w w' := by
  obtain ⟨tn, htn⟩ : ∃ n, i.trims.length = n := ⟨_, rfl⟩
  obtain ⟨kn, hkn⟩ : ∃ n, i.talks.length = n := ⟨_, rfl⟩
  have L1 := Blk.new w 61 [.int .i64 i.id, .int .i64 i.kind, .int .i64 i.len, .slice ta i.trims.length tc, .slice ka i.talks.length kc, .int .i64 i.artist, .int .i64 i.tempo, .int .i64 i.lang]
  have u1 := (Upd.refl [] w).alloc (.cells #[.int .i64 i.id, .int .i64 i.kind, .int .i64 i.len, .slice ta i.trims.length tc, .slice ka i.talks.length kc, .int .i64 i.artist, .int .i64 i.tempo, .int .i64 i.lang] 61)
  have VA := valid_it i ta tc ka kc _ (hT.upd u1 hn (by simp)) (hK.upd u1 hn (by simp)) (Nat.le_trans hn u1.size) hm hm2
  rw [htn, hkn] at VA u1 L1 ⊢
  obtain ⟨r, hr⟩ : ∃ q, decide (ItOk i ∧ CutOk tn cut) = q := ⟨_, rfl⟩
  rw [hr]
  have HR := hide hr
  clear hr
  have OI := hide (show ∀ W, Upd [] w W → W.cell? ⟨w.heap.size, 3, none⟩ = some (.slice ta tn tc) → Calls Try.prog 83 #[.slice ca cn cc, .int .i64 4, .func (.func 82) #[] #[.pointer (some ⟨w.heap.size, 0, none⟩)], .func (.func 84) #[] #[]] W fun e w' => e = .returned (.bool (decide (CutOk tn cut))) ∧ W = w' from fun W hW hc =>
    ordered_int ca cn cc cut w.heap.size ta tn tc W (ints_upd hC hW hn1 (by simp)) hm3 hc (by rw [← htn]; exact hm))
  have k0 := L1.cell 0
  have k1 := L1.cell 1
  have k2 := L1.cell 2
  have k3 := L1.cell 3
  have k4 := L1.cell 4
  have k5 := L1.cell 5
  have k6 := L1.cell 6
  have k7 := L1.cell 7
  have HV := hide VA
  have U1 := hide u1
  have hmf : ∀ (fn : Fn) (first cap : Array Value) (w : World), (Instr.makeFunc fn first cap).run Try.prog w = .ok (.func fn first cap) w := fun _ _ _ _ => rfl
  clear hT hK hm hm2 hC VA u1 L1 htn hkn
  go_enter Try.func64, Try.ntmps64
  go_wp2_with fail
  obtain ⟨q, hq⟩ : ∃ q, decide (ItOk i) = q := ⟨_, rfl⟩
  have V := HV.out
  rw [hq] at V
  have HQ := hide hq
  clear hq
  refine V.mono ?_
  clear V
  rintro e w1 ⟨rfl, u⟩
  have U2 := hide (U1.out.trans u (by simp))
  have m3 := keepc _ _ _ _ u k3
  clear u k0 k1 k2 k3 k4 k5 k6 k7
  cases q with
  | false =>
    obtain rfl : r = false := by rw [← HR.out]; exact decide_eq_false (fun h => of_decide_eq_false HQ.out h.1)
    go_wp2_with fail
    go_ret
    exact ⟨rfl, U2.out⟩
  | true =>
    have HE := hide (show decide (CutOk tn cut) = r by rw [← HR.out]; exact decide_eq_decide.2 ⟨fun h => ⟨of_decide_eq_true HQ.out, h⟩, fun h => h.2⟩)
    have O2 := OI.out _ U2.out m3
    rw [HE.out] at O2
    have HO2 := hide O2
    clear O2
    go_wp2_with fail
    refine HO2.out.mono ?_
    rintro e w' ⟨rfl, rfl⟩
    go_wp2_with fail
    go_ret
    exact ⟨rfl, U2.out⟩
end Go.Proofs.Yteehjciepccomaa

namespace Go.Proofs.Yteehjciepccomaa
open Go.RowKit
set_option maxRecDepth 100000
set_option maxHeartbeats 20000000

def spOf (l : List Sp) (k : Int) : Sp := l[k.toNat]?.getD ⟨0, 0⟩
def cutLen (i : It) (cut : List Int) : Int := cut.foldl (fun n k => n - ((spOf i.trims k).to_ - (spOf i.trims k).fr)) i.len
theorem cutLen_snoc (i : It) (cut : List Int) (k : Int) : cutLen i (cut ++ [k]) = cutLen i cut - ((spOf i.trims k).to_ - (spOf i.trims k).fr) := by
  unfold cutLen
  rw [List.foldl_append]
  rfl

theorem itemLength {n₀ n₁ : Nat} (i : It) (ta : Option Addr) (tc : Nat) (ka : Option Addr) (kc : Nat) (ca : Option Addr) (cn cc : Nat) (cut : List Int) (w : World) (hT : SpsAt n₀ w ta i.trims) (hK : SpsAt n₀ w ka i.talks) (hn : n₀ ≤ w.heap.size) (hm : i.trims.length ≤ maxLen) (hm2 : i.talks.length ≤ maxLen)
    (hC : Ints n₁ w (.slice ca cn cc) cut) (hn1 : n₁ ≤ w.heap.size) (hm3 : cn ≤ maxLen) :
    Calls Try.prog 35 #[.agg #[.int .i64 i.id, .int .i64 i.kind, .int .i64 i.len, .slice ta i.trims.length tc, .slice ka i.talks.length kc, .int .i64 i.artist, .int .i64 i.tempo, .int .i64 i.lang], .slice ca cn cc] w fun e w' => e = .returned (if ItOk i ∧ CutOk i.trims.length cut then .tuple #[.int .i64 (cutLen i cut), .int .i64 0] else .tuple #[.int .i64 0, .int .i64 70]) ∧ Upd [] w w' := by
  obtain ⟨tn, htn⟩ : ∃ n, i.trims.length = n := ⟨_, rfl⟩
  obtain ⟨kn, hkn⟩ : ∃ n, i.talks.length = n := ⟨_, rfl⟩
  obtain ⟨r, hr⟩ : ∃ q, (if ItOk i ∧ CutOk i.trims.length cut then Value.tuple #[.int .i64 (cutLen i cut), .int .i64 0] else .tuple #[.int .i64 0, .int .i64 70]) = q := ⟨_, rfl⟩
  rw [hr]
  have HR := hide hr
  clear hr
  have L1 := Blk.new w 61 [.int .i64 i.id, .int .i64 i.kind, .int .i64 i.len, .slice ta i.trims.length tc, .slice ka i.talks.length kc, .int .i64 i.artist, .int .i64 i.tempo, .int .i64 i.lang]
  have u1 := (Upd.refl [] w).alloc (.cells #[.int .i64 i.id, .int .i64 i.kind, .int .i64 i.len, .slice ta i.trims.length tc, .slice ka i.talks.length kc, .int .i64 i.artist, .int .i64 i.tempo, .int .i64 i.lang] 61)
  have VA := isCut_it i ta tc ka kc ca cn cc cut _ (hT.upd u1 hn (by simp)) (hK.upd u1 hn (by simp)) (Nat.le_trans hn u1.size) hm hm2 (ints_upd hC u1 hn1 (by simp)) (Nat.le_trans hn1 u1.size) hm3
  obtain ⟨q, hq⟩ : ∃ q, decide (ItOk i ∧ CutOk i.trims.length cut) = q := ⟨_, rfl⟩
  rw [hq] at VA
  rw [htn, hkn] at VA u1 L1 ⊢
  have HQ := hide hq
  have HTN := hide htn
  have HT := hide hT
  have HC := hide hC.form.2
  have HCN := hide hC.form.1
  have k0 := L1.cell 0
  have k1 := L1.cell 1
  have k2 := L1.cell 2
  have k3 := L1.cell 3
  have k4 := L1.cell 4
  have k5 := L1.cell 5
  have k6 := L1.cell 6
  have k7 := L1.cell 7
  have HV := hide VA
  have U1 := hide u1
  have hcm : cn ≤ 9223372036854775807 := by unfold maxLen at hm3; omega
  clear hT hK hm hm2 hC VA u1 L1 htn hkn hq
  go_enter Try.func35, Try.ntmps35
  go_wp2_with fail
  refine HV.out.mono ?_
  rintro e w1 ⟨rfl, u⟩
  have U2 := hide (U1.out.trans u (by simp))
  have m2 := keepc _ _ _ _ u k2
  have m3 := keepc _ _ _ _ u k3
  have M3 := hide m3
  clear u k0 k1 k2 k3 k4 k5 k6 k7
  cases q with
  | false =>
    obtain rfl := HR.out.symm.trans (if_neg (of_decide_eq_false HQ.out))
    go_wp2_with fail
    go_ret2
    exact ⟨rfl, U2.out⟩
  | true =>
  have hQ := of_decide_eq_true HQ.out
  have hcn4 : cn ≤ 4 := by have := hQ.2.2; have := HCN.out; omega
  have hlen := hQ.1.1.2.2
  have HIT := hide hQ
  obtain ⟨hlen1, hlen2⟩ := hlen
  clear hQ
  go_wp2_with fail
  go_loopw [6, 17] (fun s6 s17 wr => ∃ (k : Nat) (v : Int), k ≤ cn ∧ s17 = .int .i64 k ∧ s6 = .int .i64 v ∧ Hid (v = cutLen i (cut.take k)) ∧ (-3600 * (k : Int) ≤ v ∧ v ≤ 3600) ∧ Hid (Upd [] w1 wr)) (fun _ k _ => cn - (intOf k).toNat)
  case atStart => exact ⟨0, i.len, Nat.zero_le _, rfl, rfl, hide (by rw [List.take_zero]; rfl), by omega, Upd.refl _ _⟩
  case round =>
    obtain ⟨k, v, hk, rfl, rfl, hv, ⟨hv1, hv2⟩, hu⟩ := hrel
    obtain ⟨wo, rfl⟩ : ∃ wo : World, wo = wr := ⟨_, rfl⟩
    by_cases hkl : k < cn
    · obtain ⟨x, hx⟩ : ∃ x, cut[k]? = some x := ⟨_, List.getElem?_eq_getElem (by have := HCN.out; omega)⟩
      have hxi := (HIT.out.2.1 k (by have := HCN.out; omega)).1
      rw [hx] at hxi
      obtain ⟨xn, rfl⟩ : ∃ xn : Nat, x = (xn : Int) := ⟨x.toNat, by have := hxi.1; simp at this; omega⟩
      have hxt : xn < tn := by have := hxi.2; have := HTN.out; simp at *; omega
      obtain ⟨s, hs⟩ : ∃ s, i.trims[xn]? = some s := ⟨_, List.getElem?_eq_getElem (by have := HTN.out; omega)⟩
      obtain ⟨b, o, ea, hb, c0, c1⟩ := (HT.out.upd (U2.out.trans hu.out (by simp)) hn (by simp)) xn s hs
      subst ea
      obtain ⟨cb, co, eb, hcb, hxc⟩ := HC.out k _ hx
      subst eb
      have d0 := keepc _ _ _ _ (U2.out.trans hu.out (by simp)) hxc
      have d1 := keepc _ _ _ _ hu.out M3.out
      obtain ⟨hi1, hi2, hi3⟩ := sp_in HIT.out.1.2.1.1 (List.mem_of_getElem? hs)
      have hki : (k : Int) < cn := by omega
      have hxi2 : (xn : Int) < tn := by omega
      have hw : IntKind.i64.wrap (v - (s.to_ - s.fr)) = v - (s.to_ - s.fr) := Go.IntWalk.i64_in _ (by omega)
      have LN := hide (length_any s.fr s.to_ wo (by omega) (by omega))
      have HST := hide (show cutLen i (cut.take (k + 1)) = v - (s.to_ - s.fr) by
        rw [List.take_add_one, hx, Option.toList_some, cutLen_snoc, ← hv.out]
        unfold spOf
        rw [show (xn : Int).toNat = xn by omega, hs]
        rfl)
      clear hs hb hx hxi hcb hxc
      go_wp2_with fail
      refine LN.out.mono ?_
      rintro e w3 ⟨rfl, u3⟩
      have V3 := hide (hu.out.trans u3 (by simp))
      clear u3
      go_wp2_with fail
      go_roundw
      case rel => exact ⟨k + 1, v - (s.to_ - s.fr), by omega, by go_num, by go_num, HST.out.symm, by omega, V3⟩
      case measure => simp [intOf] <;> omega
    · obtain rfl : k = cn := by omega
      have hki : ¬ (k : Int) < k := by omega
      have hv9 := hv.out
      rw [List.take_of_length_le (by have := HCN.out; omega)] at hv9
      obtain rfl := HR.out.symm.trans (if_pos HIT.out |>.trans (by rfl))
      subst hv9
      have U9 := hide (U2.out.trans hu.out (by simp))
      go_wp2_with fail
      go_ret2
      exact ⟨rfl, U9.out⟩
end Go.Proofs.Yteehjciepccomaa

namespace Go.Proofs.Yteehjciepccomaa
open Go.RowKit
set_option maxRecDepth 100000
set_option maxHeartbeats 20000000

def placeS (trims : List Sp) (cut : List Int) (at_ : Int) : Int := cut.foldl (fun a k => if (spOf trims k).fr ≤ a then a + ((spOf trims k).to_ - (spOf trims k).fr) else a) at_
theorem placeS_snoc (trims : List Sp) (cut : List Int) (at_ k : Int) : placeS trims (cut ++ [k]) at_ = if (spOf trims k).fr ≤ placeS trims cut at_ then placeS trims cut at_ + ((spOf trims k).to_ - (spOf trims k).fr) else placeS trims cut at_ := by
  unfold placeS
  rw [List.foldl_append]
  rfl
theorem cutLen_le {i : It} (h : ItOk i) (cut : List Int) : cutLen i cut ≤ i.len := by
  have hsp : ∀ k : Int, (spOf i.trims k).fr ≤ (spOf i.trims k).to_ := fun k => by
    unfold spOf
    cases hs : i.trims[k.toNat]? with
    | none => show (0 : Int) ≤ 0; omega
    | some s =>
      have := sp_in h.2.1.1 (List.mem_of_getElem? hs)
      have := this.2.1
      show s.fr ≤ s.to_
      omega
  unfold cutLen
  have : ∀ (l : List Int) (v : Int), l.foldl (fun n k => n - ((spOf i.trims k).to_ - (spOf i.trims k).fr)) v ≤ v := by
    intro l
    induction l with
    | nil => intro v; exact Int.le_refl _
    | cons k l ih =>
      intro v
      have h1 := ih (v - ((spOf i.trims k).to_ - (spOf i.trims k).fr))
      have h2 := hsp k
      rw [List.foldl_cons]
      omega
  exact this cut i.len

theorem itemPlace {n₀ n₁ : Nat} (i : It) (ta : Option Addr) (tc : Nat) (ka : Option Addr) (kc : Nat) (ca : Option Addr) (cn cc : Nat) (cut : List Int) (at_ : Int) (w : World) (hT : SpsAt n₀ w ta i.trims) (hK : SpsAt n₀ w ka i.talks) (hn : n₀ ≤ w.heap.size) (hm : i.trims.length ≤ maxLen) (hm2 : i.talks.length ≤ maxLen)
    (hC : Ints n₁ w (.slice ca cn cc) cut) (hn1 : n₁ ≤ w.heap.size) (hm3 : cn ≤ maxLen) :
    Calls Try.prog 38 #[.agg #[.int .i64 i.id, .int .i64 i.kind, .int .i64 i.len, .slice ta i.trims.length tc, .slice ka i.talks.length kc, .int .i64 i.artist, .int .i64 i.tempo, .int .i64 i.lang], .slice ca cn cc, .int .i64 at_] w fun e w' => e = .returned (if (ItOk i ∧ CutOk i.trims.length cut) ∧ 0 ≤ at_ ∧ at_ < cutLen i cut then .tuple #[.int .i64 (placeS i.trims cut at_), .int .i64 0] else .tuple #[.int .i64 0, .int .i64 70]) ∧ Upd [] w w' := by
  obtain ⟨tn, htn⟩ : ∃ n, i.trims.length = n := ⟨_, rfl⟩
  obtain ⟨kn, hkn⟩ : ∃ n, i.talks.length = n := ⟨_, rfl⟩
  obtain ⟨r, hr⟩ : ∃ q, (if (ItOk i ∧ CutOk i.trims.length cut) ∧ 0 ≤ at_ ∧ at_ < cutLen i cut then Value.tuple #[.int .i64 (placeS i.trims cut at_), .int .i64 0] else .tuple #[.int .i64 0, .int .i64 70]) = q := ⟨_, rfl⟩
  rw [hr]
  have HR := hide hr
  clear hr
  have L1 := Blk.new w 61 [.int .i64 i.id, .int .i64 i.kind, .int .i64 i.len, .slice ta i.trims.length tc, .slice ka i.talks.length kc, .int .i64 i.artist, .int .i64 i.tempo, .int .i64 i.lang]
  have u1 := (Upd.refl [] w).alloc (.cells #[.int .i64 i.id, .int .i64 i.kind, .int .i64 i.len, .slice ta i.trims.length tc, .slice ka i.talks.length kc, .int .i64 i.artist, .int .i64 i.tempo, .int .i64 i.lang] 61)
  have VA := itemLength i ta tc ka kc ca cn cc cut _ (hT.upd u1 hn (by simp)) (hK.upd u1 hn (by simp)) (Nat.le_trans hn u1.size) hm hm2 (ints_upd hC u1 hn1 (by simp)) (Nat.le_trans hn1 u1.size) hm3
  have HTN := hide htn
  have HT := hide hT
  have HC := hide hC.form.2
  have HCN := hide hC.form.1
  have hcm : cn ≤ 9223372036854775807 := by unfold maxLen at hm3; omega
  obtain ⟨cl, hcl⟩ : ∃ v, cutLen i cut = v := ⟨_, rfl⟩
  by_cases hq : ItOk i ∧ CutOk i.trims.length cut
  case neg =>
    rw [if_neg hq] at VA
    obtain rfl := HR.out.symm.trans (if_neg (fun h => hq h.1))
    rw [htn, hkn] at VA u1 L1 ⊢
    have HV := hide VA
    have U1 := hide u1
    have k0 := L1.cell 0
    have k1 := L1.cell 1
    have k2 := L1.cell 2
    have k3 := L1.cell 3
    have k4 := L1.cell 4
    have k5 := L1.cell 5
    have k6 := L1.cell 6
    have k7 := L1.cell 7
    clear hT hK hm hm2 hC VA u1 L1 htn hkn hq
    go_enter Try.func38, Try.ntmps38
    go_wp2_with fail
    refine HV.out.mono ?_
    rintro e w1 ⟨rfl, u⟩
    have U2 := hide (U1.out.trans u (by simp))
    clear u
    go_wp2_with fail
    go_ret2
    exact ⟨rfl, U2.out⟩
  rw [if_pos hq, hcl] at VA
  rw [htn, hkn] at VA u1 L1 ⊢
  have HV := hide VA
  have U1 := hide u1
  have k0 := L1.cell 0
  have k1 := L1.cell 1
  have k2 := L1.cell 2
  have k3 := L1.cell 3
  have k4 := L1.cell 4
  have k5 := L1.cell 5
  have k6 := L1.cell 6
  have k7 := L1.cell 7
  have HIT := hide hq
  have HCL := hide hcl
  clear hT hK hm hm2 hC VA u1 L1 htn hkn hq hcl
  go_enter Try.func38, Try.ntmps38
  go_wp2_with fail
  refine HV.out.mono ?_
  rintro e w1 ⟨rfl, u⟩
  have U2 := hide (U1.out.trans u (by simp))
  have M3 := hide (keepc _ _ _ _ u k3)
  clear u k0 k1 k2 k3 k4 k5 k6 k7
  by_cases g1 : at_ < 0
  · obtain rfl := HR.out.symm.trans (if_neg (fun h => by have := h.2.1; omega))
    go_wp2_with fail
    go_ret2
    exact ⟨rfl, U2.out⟩
  by_cases g2 : cl ≤ at_
  · obtain rfl := HR.out.symm.trans (if_neg (fun h => by have := h.2.2; rw [HCL.out] at this; omega))
    go_wp2_with fail
    go_ret2
    exact ⟨rfl, U2.out⟩
  have hcn4 : cn ≤ 4 := by have := HIT.out.2.2; have := HCN.out; omega
  have hat : at_ ≤ 3600 := by have := cutLen_le HIT.out.1 cut; have := HCL.out; have := HIT.out.1.1.2.2; omega
  have hlen2 := HIT.out.1.1.2.2.2
  go_wp2_with fail
  go_loopw [2, 31] (fun s2 s31 wr => ∃ (k : Nat) (v : Int), k ≤ cn ∧ s31 = .int .i64 k ∧ s2 = .int .i64 v ∧ Hid (v = placeS i.trims (cut.take k) at_) ∧ (0 ≤ v ∧ v ≤ 3600 + 3600 * (k : Int)) ∧ Hid (Upd [] w1 wr)) (fun _ k _ => cn - (intOf k).toNat)
  case atStart => exact ⟨0, at_, Nat.zero_le _, rfl, rfl, hide (by rw [List.take_zero]; rfl), by omega, Upd.refl _ _⟩
  case round =>
    obtain ⟨k, v, hk, rfl, rfl, hv, ⟨hv1, hv2⟩, hu⟩ := hrel
    obtain ⟨wo, rfl⟩ : ∃ wo : World, wo = wr := ⟨_, rfl⟩
    by_cases hkl : k < cn
    · obtain ⟨x, hx⟩ : ∃ x, cut[k]? = some x := ⟨_, List.getElem?_eq_getElem (by have := HCN.out; omega)⟩
      have hxi := (HIT.out.2.1 k (by have := HCN.out; omega)).1
      rw [hx] at hxi
      obtain ⟨xn, rfl⟩ : ∃ xn : Nat, x = (xn : Int) := ⟨x.toNat, by have := hxi.1; simp at this; omega⟩
      have hxt : xn < tn := by have := hxi.2; have := HTN.out; simp at *; omega
      obtain ⟨s, hs⟩ : ∃ s, i.trims[xn]? = some s := ⟨_, List.getElem?_eq_getElem (by have := HTN.out; omega)⟩
      obtain ⟨b, o, ea, hb, c0, c1⟩ := (HT.out.upd (U2.out.trans hu.out (by simp)) hn (by simp)) xn s hs
      subst ea
      obtain ⟨cb, co, eb, hcb, hxc⟩ := HC.out k _ hx
      subst eb
      have d0 := keepc _ _ _ _ (U2.out.trans hu.out (by simp)) hxc
      have d1 := keepc _ _ _ _ hu.out M3.out
      obtain ⟨hi1, hi2, hi3⟩ := sp_in HIT.out.1.2.1.1 (List.mem_of_getElem? hs)
      have hki : (k : Int) < cn := by omega
      have hxi2 : (xn : Int) < tn := by omega
      have hw : IntKind.i64.wrap (v + (s.to_ - s.fr)) = v + (s.to_ - s.fr) := Go.IntWalk.i64_in _ (by omega)
      have LN := hide (length_any s.fr s.to_ wo (by omega) (by omega))
      have HST := hide (show placeS i.trims (cut.take (k + 1)) at_ = if s.fr ≤ v then v + (s.to_ - s.fr) else v by
        rw [List.take_add_one, hx, Option.toList_some, placeS_snoc, ← hv.out]
        unfold spOf
        rw [show (xn : Int).toNat = xn by omega, hs]
        rfl)
      clear hs hb hx hxi hcb hxc
      by_cases g3 : s.fr ≤ v
      · go_wp2_with fail
        refine LN.out.mono ?_
        rintro e w3 ⟨rfl, u3⟩
        have V3 := hide (hu.out.trans u3 (by simp))
        clear u3
        go_wp2_with fail
        go_roundw
        case rel => exact ⟨k + 1, v + (s.to_ - s.fr), by omega, by go_num, by go_num, hide (by rw [HST.out, if_pos g3]), by omega, V3⟩
        case measure => simp [intOf] <;> omega
      · go_wp2_with fail
        go_roundw
        case rel => exact ⟨k + 1, v, by omega, by go_num, by go_num, hide (by rw [HST.out, if_neg g3]), by omega, hu⟩
        case measure => simp [intOf] <;> omega
    · obtain rfl : k = cn := by omega
      have hki : ¬ (k : Int) < k := by omega
      have hv9 := hv.out
      rw [List.take_of_length_le (by have := HCN.out; omega)] at hv9
      obtain rfl := HR.out.symm.trans (if_pos ⟨HIT.out, by omega, by rw [HCL.out]; omega⟩)
      subst hv9
      have U9 := hide (U2.out.trans hu.out (by simp))
      go_wp2_with fail
      go_ret2
      exact ⟨rfl, U9.out⟩
end Go.Proofs.Yteehjciepccomaa
