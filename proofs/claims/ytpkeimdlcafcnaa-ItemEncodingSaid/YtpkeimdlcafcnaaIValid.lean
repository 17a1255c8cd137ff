/-
  item.Valid.
-/
import Derived.Test.YtpkeimdlcafcnaaIOrd
import Derived.Deep.CutBlock
namespace Go.Proofs.Ytpkeimdlcafcnaa
open Go.RowKit
set_option maxRecDepth 100000
set_option maxHeartbeats 20000000

def SongOk (i : It) : Prop := (0 ≤ i.artist ∧ i.artist ≤ 99) ∧ (1 ≤ i.tempo ∧ i.tempo ≤ 5) ∧ (1 ≤ i.lang ∧ i.lang ≤ 4)
instance (i : It) : Decidable (SongOk i) := by unfold SongOk; infer_instance
theorem sp_in {n : Int} {l : List Sp} (h : SpsOk n l) {s : Sp} (hs : s ∈ l) : SpIn n s := by
  obtain ⟨k, hk, he⟩ := List.mem_iff_getElem.1 hs
  have := (h.1 k hk).1
  rwa [List.getElem?_eq_getElem hk, he] at this

theorem valid_it {n₀ : Nat} (i : It) (ta : Option Addr) (tc : Nat) (ka : Option Addr) (kc : Nat) (w : World) (hT : SpsAt n₀ w ta i.trims) (hK : SpsAt n₀ w ka i.talks) (hn : n₀ ≤ w.heap.size) (hm : i.trims.length ≤ maxLen) (hm2 : i.talks.length ≤ maxLen) :
    Calls Try.prog 12 #[.agg #[.int .i64 i.id, .int .i64 i.kind, .int .i64 i.len, .slice ta i.trims.length tc, .slice ka i.talks.length kc, .int .i64 i.artist, .int .i64 i.tempo, .int .i64 i.lang]] w fun e w' => e = .returned (.bool (decide (ItOk i))) ∧ Upd [] w w' := by
  obtain ⟨r, hr⟩ : ∃ r, decide (ItOk i) = r := ⟨_, rfl⟩
  rw [hr]
  have HR := hide hr
  have NO := hide (show ∀ q : Prop, (ItOk i → q) → ¬ q → r = false from fun q h1 h2 => by
    rw [← hr]
    exact decide_eq_false fun h => h2 (h1 h))
  clear hr
  obtain ⟨tn, htn⟩ : ∃ n, i.trims.length = n := ⟨_, rfl⟩
  obtain ⟨kn, hkn⟩ : ∃ n, i.talks.length = n := ⟨_, rfl⟩
  have L1 := Blk.new w 24 [.int .i64 i.id, .int .i64 i.kind, .int .i64 i.len, .slice ta i.trims.length tc, .slice ka i.talks.length kc, .int .i64 i.artist, .int .i64 i.tempo, .int .i64 i.lang]
  have U1 := hide ((Upd.refl [] w).alloc (.cells #[.int .i64 i.id, .int .i64 i.kind, .int .i64 i.len, .slice ta i.trims.length tc, .slice ka i.talks.length kc, .int .i64 i.artist, .int .i64 i.tempo, .int .i64 i.lang] 24))
  rw [htn, hkn] at L1 U1 ⊢
  have KC := hide (fun (W : World) (hW : Upd [] (w.alloc (.cells #[.int .i64 i.id, .int .i64 i.kind, .int .i64 i.len, .slice ta tn tc, .slice ka kn kc, .int .i64 i.artist, .int .i64 i.tempo, .int .i64 i.lang] 24)) W) (j : Nat) (v : Value) (hv : [Value.int .i64 i.id, .int .i64 i.kind, .int .i64 i.len, .slice ta tn tc, .slice ka kn kc, .int .i64 i.artist, .int .i64 i.tempo, .int .i64 i.lang][j]? = some v) => keepc _ W ⟨w.heap.size, j, none⟩ v hW ((L1.cell j).trans hv))
  have k0 := L1.cell 0
  have k1 := L1.cell 1
  have k2 := L1.cell 2
  have k3 := L1.cell 3
  have k4 := L1.cell 4
  have HTN := hide htn
  have HKN := hide hkn
  have HT := hide hT
  have HK := hide hK
  have OT := hide (show ∀ W, Upd [] w W → W.cell? ⟨w.heap.size, 2, none⟩ = some (.int .i64 i.len) → Calls Try.prog 43 #[.slice ta tn tc, .int .i64 4, .func (.func 41) #[] #[.pointer (some ⟨w.heap.size, 0, none⟩)], .func (.func 42) #[] #[]] W fun e w' => e = .returned (.bool (decide (SpsOk i.len i.trims))) ∧ Upd [] W w' from fun W hW hc => by
    rw [← htn]
    exact ordered_sp ta tc i.trims i.len w.heap.size W (hT.upd hW hn (by simp)) hm hc)
  have OK' := hide (show ∀ W, Upd [] w W → W.cell? ⟨w.heap.size, 2, none⟩ = some (.int .i64 i.len) → Calls Try.prog 43 #[.slice ka kn kc, .int .i64 4, .func (.func 41) #[] #[.pointer (some ⟨w.heap.size, 0, none⟩)], .func (.func 42) #[] #[]] W fun e w' => e = .returned (.bool (decide (SpsOk i.len i.talks))) ∧ Upd [] W w' from fun W hW hc => by
    rw [← hkn]
    exact ordered_sp ka kc i.talks i.len w.heap.size W (hK.upd hW hn (by simp)) hm2 hc)
  have htm : tn ≤ 9223372036854775807 := by unfold maxLen at hm; omega
  have hkm : kn ≤ 9223372036854775807 := by unfold maxLen at hm2; omega
  clear hT hK htn hkn L1 hm hm2
  go_enter Try.func12, Try.ntmps12
  by_cases d1 : i.id < 0
  · obtain rfl : r = false := NO.out _ (fun h => h.1.1.1) (by omega)
    go_wp2_with fail
    go_ret
    exact ⟨rfl, U1.out⟩
  by_cases d2 : 200 ≤ i.id
  · obtain rfl : r = false := NO.out _ (fun h => h.1.1.2) (by omega)
    go_wp2_with fail
    go_ret
    exact ⟨rfl, U1.out⟩
  by_cases d3 : i.kind < 1
  · obtain rfl : r = false := NO.out _ (fun h => h.1.2.1.1) (by omega)
    go_wp2_with fail
    go_ret
    exact ⟨rfl, U1.out⟩
  by_cases d4 : 5 < i.kind
  · obtain rfl : r = false := NO.out _ (fun h => h.1.2.1.2) (by omega)
    go_wp2_with fail
    go_ret
    exact ⟨rfl, U1.out⟩
  by_cases d5 : i.len < 1
  · obtain rfl : r = false := NO.out _ (fun h => h.1.2.2.1) (by omega)
    go_wp2_with fail
    go_ret
    exact ⟨rfl, U1.out⟩
  by_cases d6 : 3600 < i.len
  · obtain rfl : r = false := NO.out _ (fun h => h.1.2.2.2) (by omega)
    go_wp2_with fail
    go_ret
    exact ⟨rfl, U1.out⟩
  have D := hide (show (0 ≤ i.id ∧ i.id < 200) ∧ (1 ≤ i.kind ∧ i.kind ≤ 5) ∧ (1 ≤ i.len ∧ i.len ≤ 3600) by omega)
  have hmf : ∀ (fn : Fn) (first cap : Array Value) (w : World), (Instr.makeFunc fn first cap).run Try.prog w = .ok (.func fn first cap) w := fun _ _ _ _ => rfl
  go_wp2_with fail
  obtain ⟨q1, hq1⟩ : ∃ q, decide (SpsOk i.len i.trims) = q := ⟨_, rfl⟩
  have OT1 := OT.out _ U1.out k2
  rw [hq1] at OT1
  have HQ1 := hide hq1
  clear hq1
  refine OT1.mono ?_
  clear OT1
  rintro e w1 ⟨rfl, u1⟩
  have V1 := hide u1
  have UW1 := hide (U1.out.trans u1 (by simp))
  have m2 := KC.out w1 u1 2 _ rfl
  have m4 := KC.out w1 u1 4 _ rfl
  clear u1
  cases q1 with
  | false =>
    obtain rfl : r = false := NO.out _ (fun h => h.2.1.1) (of_decide_eq_false HQ1.out)
    go_wp2_with fail
    go_ret
    exact ⟨rfl, UW1.out⟩
  | true =>
  go_wp2_with fail
  obtain ⟨q2, hq2⟩ : ∃ q, decide (SpsOk i.len i.talks) = q := ⟨_, rfl⟩
  have OT1 := OK'.out _ UW1.out m2
  rw [hq2] at OT1
  have HQ2 := hide hq2
  clear hq2
  refine OT1.mono ?_
  clear OT1
  rintro e w2 ⟨rfl, u2⟩
  have V2 := hide (V1.out.trans u2 (by simp))
  have UW2 := hide (UW1.out.trans u2 (by simp))
  have n2 := KC.out w2 V2.out 2 _ rfl
  have n3 := KC.out w2 V2.out 3 _ rfl
  clear u2 m2 m4 k0 k1 k2 k3 k4
  cases q2 with
  | false =>
    obtain rfl : r = false := NO.out _ (fun h => h.2.1.2) (of_decide_eq_false HQ2.out)
    go_wp2_with fail
    go_ret
    exact ⟨rfl, UW2.out⟩
  | true =>
  have hn4 : tn ≤ 4 := by have := (of_decide_eq_true HQ1.out).2; have := HTN.out; omega
  go_wp2_with fail
  go_loopw [5, 57] (fun s5 s57 wr => ∃ (k : Nat) (v : Int), k ≤ tn ∧ s57 = .int .i64 k ∧ s5 = .int .i64 v ∧ Hid (v = i.len - sumSp (i.trims.take k)) ∧ (-100000 ≤ v ∧ v ≤ 100000) ∧ (-3600 * (k : Int) ≤ v ∧ v ≤ 3600) ∧ Hid (Upd [] w2 wr)) (fun _ k _ => tn - (intOf k).toNat)
  case atStart => exact ⟨0, i.len, Nat.zero_le _, rfl, rfl, hide (by rw [List.take_zero, sumSp_nil]; omega), by have := D.out; omega, by have := D.out; omega, Upd.refl _ _⟩
  case round =>
    obtain ⟨k, v, hk, rfl, rfl, hv, ⟨hv1, hv2⟩, ⟨hv3, hv4⟩, hu⟩ := hrel
    obtain ⟨wo, rfl⟩ : ∃ wo : World, wo = wr := ⟨_, rfl⟩
    by_cases hkl : k < tn
    · obtain ⟨s, hs⟩ : ∃ s, i.trims[k]? = some s := ⟨_, List.getElem?_eq_getElem (by have := HTN.out; omega)⟩
      obtain ⟨b, o, ea, hb, c0, c1⟩ := (HT.out.upd (UW2.out.trans hu.out (by simp)) hn (by simp)) k s hs
      subst ea
      have hin := sp_in (of_decide_eq_true HQ1.out) (List.mem_of_getElem? hs)
      have hl36 := D.out.2.2.2
      obtain ⟨hi1, hi2, hi3⟩ := hin
      have HS := hide hs
      have hki : (k : Int) < tn := by omega
      have L2 := Blk.new wo 53 [.int .i64 s.fr, .int .i64 s.to_]
      have x0 := L2.cell 0
      have x1 := L2.cell 1
      have UB := hide ((Upd.refl [] wo).alloc (.cells #[.int .i64 s.fr, .int .i64 s.to_] 53))
      have hw : IntKind.i64.wrap (v - (s.to_ - s.fr)) = v - (s.to_ - s.fr) := Go.IntWalk.i64_in _ (by omega)
      have LN := hide (fun W => length_any s.fr s.to_ W (by omega) (by omega))
      clear hs hb L2
      go_wp2_with fail
      refine (LN.out _).mono ?_
      rintro e w3 ⟨rfl, u3⟩
      have V3 := hide ((hu.out.trans UB.out (by simp)).trans u3 (by simp))
      clear u3
      go_wp2_with fail
      go_roundw
      case rel => exact ⟨k + 1, v - (s.to_ - s.fr), by omega, by go_num, by go_num, hide (by rw [List.take_add_one, HS.out, Option.toList_some, sumSp_snoc, hv.out]; omega), by omega, by omega, V3⟩
      case measure => simp [intOf] <;> omega
    · obtain rfl : k = tn := by omega
      have hki : ¬ (k : Int) < k := by omega
      have hv9 := hv.out
      rw [List.take_of_length_le (by have := HTN.out; omega)] at hv9
      have HV := hide hv9
      have UW3 := hide (UW2.out.trans hu.out (by simp))
      have z1 := KC.out wo (V2.out.trans hu.out (by simp)) 1 _ rfl
      have z5 := KC.out wo (V2.out.trans hu.out (by simp)) 5 _ rfl
      have z6 := KC.out wo (V2.out.trans hu.out (by simp)) 6 _ rfl
      have z7 := KC.out wo (V2.out.trans hu.out (by simp)) 7 _ rfl
      clear hv9 hv
      obtain ⟨sg, hsg⟩ : ∃ q, decide (SongOk i) = q := ⟨_, rfl⟩
      have HSG := hide hsg
      go_upto_region 13 with fail
      go_cut [8] from 66 to 93 (fun s8 wx => s8 = .bool sg ∧ wo = wx)
      case first =>
        by_cases e1 : 0 ≤ i.artist
        · by_cases e2 : i.artist ≤ 99
          · by_cases e3 : 1 ≤ i.tempo
            · by_cases e4 : i.tempo ≤ 5
              · by_cases e5 : 1 ≤ i.lang
                · by_cases e6 : i.lang ≤ 4
                  · obtain rfl : sg = true := by rw [← hsg]; exact decide_eq_true ⟨⟨e1, e2⟩, ⟨e3, e4⟩, ⟨e5, e6⟩⟩
                    clear hsg
                    go_wp2_with fail
                    go_meet
                    exact ⟨rfl, rfl⟩
                  · obtain rfl : sg = false := by rw [← hsg]; exact decide_eq_false (fun h => e6 (h.2.2.2))
                    clear hsg
                    go_wp2_with fail
                    go_meet
                    exact ⟨rfl, rfl⟩
                · obtain rfl : sg = false := by rw [← hsg]; exact decide_eq_false (fun h => e5 (h.2.2.1))
                  clear hsg
                  go_wp2_with fail
                  go_meet
                  exact ⟨rfl, rfl⟩
              · obtain rfl : sg = false := by rw [← hsg]; exact decide_eq_false (fun h => e4 (h.2.1.2))
                clear hsg
                go_wp2_with fail
                go_meet
                exact ⟨rfl, rfl⟩
            · obtain rfl : sg = false := by rw [← hsg]; exact decide_eq_false (fun h => e3 (h.2.1.1))
              clear hsg
              go_wp2_with fail
              go_meet
              exact ⟨rfl, rfl⟩
          · obtain rfl : sg = false := by rw [← hsg]; exact decide_eq_false (fun h => e2 (h.1.2))
            clear hsg
            go_wp2_with fail
            go_meet
            exact ⟨rfl, rfl⟩
        · obtain rfl : sg = false := by rw [← hsg]; exact decide_eq_false (fun h => e1 (h.1.1))
          clear hsg
          go_wp2_with fail
          go_meet
          exact ⟨rfl, rfl⟩
      case rest =>
        obtain ⟨rfl, rfl⟩ := hcut
        clear hsg
        obtain ⟨kd, hkd⟩ : ∃ x, i.kind = x := ⟨_, rfl⟩
        obtain ⟨ar, har⟩ : ∃ x, i.artist = x := ⟨_, rfl⟩
        obtain ⟨te, hte⟩ : ∃ x, i.tempo = x := ⟨_, rfl⟩
        obtain ⟨la, hla⟩ : ∃ x, i.lang = x := ⟨_, rfl⟩
        have z1' := (show wo.cell? ⟨w.heap.size, 1, none⟩ = some (.int .i64 kd) by rw [← hkd]; exact z1)
        have z5' := (show wo.cell? ⟨w.heap.size, 5, none⟩ = some (.int .i64 ar) by rw [← har]; exact z5)
        have z6' := (show wo.cell? ⟨w.heap.size, 6, none⟩ = some (.int .i64 te) by rw [← hte]; exact z6)
        have z7' := (show wo.cell? ⟨w.heap.size, 7, none⟩ = some (.int .i64 la) by rw [← hla]; exact z7)
        have IFF := hide (show ItOk i ↔ 0 < v ∧ ((kd = 1 ∧ SongOk i) ∨ (kd ≠ 1 ∧ ar = 0 ∧ te = 0 ∧ la = 0)) by
          have h1 := D.out
          have h2 := of_decide_eq_true HQ1.out
          have h3 := of_decide_eq_true HQ2.out
          have h4 := HV.out
          unfold ItOk KindOk SongOk
          rw [hkd, har, hte, hla] at *
          constructor
          · rintro ⟨_, _, h5, h6⟩
            exact ⟨by omega, h6⟩
          · rintro ⟨h5, h6⟩
            exact ⟨h1, ⟨h2, h3⟩, by omega, h6⟩)
        have YES := hide (show (0 < v ∧ ((kd = 1 ∧ SongOk i) ∨ (kd ≠ 1 ∧ ar = 0 ∧ te = 0 ∧ la = 0))) → r = true from fun h => by
          rw [← HR.out]
          exact decide_eq_true (IFF.out.2 h))
        have NOT := hide (show ¬ (0 < v ∧ ((kd = 1 ∧ SongOk i) ∨ (kd ≠ 1 ∧ ar = 0 ∧ te = 0 ∧ la = 0))) → r = false from fun h => by
          rw [← HR.out]
          exact decide_eq_false (fun h2 => h (IFF.out.1 h2)))
        clear z1 z5 z6 z7 hkd har hte hla
        by_cases g1 : 0 < v
        · by_cases g2 : kd = 1
          · subst g2
            cases sg with
            | true =>
              obtain rfl := YES.out ⟨g1, .inl ⟨rfl, of_decide_eq_true HSG.out⟩⟩
              go_wp2_with fail
              go_ret
              exact ⟨rfl, UW3.out⟩
            | false =>
              obtain rfl := NOT.out (by
                rintro ⟨_, ⟨_, h⟩ | ⟨h, _⟩⟩
                · exact of_decide_eq_false HSG.out h
                · exact h rfl)
              go_wp2_with fail
              go_ret
              exact ⟨rfl, UW3.out⟩
          · have g2b : (kd == 1) = false := by simpa using g2
            have g2c : (kd != 1) = true := by simpa using g2
            have G2 := hide g2
            clear g2
            by_cases g3 : ar = 0
            · subst g3
              by_cases g4 : te = 0
              · subst g4
                by_cases g5 : la = 0
                · subst g5
                  obtain rfl := YES.out ⟨g1, .inr ⟨G2.out, rfl, rfl, rfl⟩⟩
                  go_wp2_with fail
                  go_ret
                  exact ⟨rfl, UW3.out⟩
                · obtain rfl := NOT.out (by rintro ⟨_, ⟨h, _⟩ | ⟨_, _, _, h⟩⟩; exact G2.out h; exact g5 h)
                  have g5b : (la == 0) = false := by simpa using g5
                  clear g5
                  go_wp2_with fail
                  go_ret
                  exact ⟨rfl, UW3.out⟩
              · obtain rfl := NOT.out (by rintro ⟨_, ⟨h, _⟩ | ⟨_, _, h, _⟩⟩; exact G2.out h; exact g4 h)
                have g4b : (te == 0) = false := by simpa using g4
                clear g4
                go_wp2_with fail
                go_ret
                exact ⟨rfl, UW3.out⟩
            · obtain rfl := NOT.out (by rintro ⟨_, ⟨h, _⟩ | ⟨_, h, _⟩⟩; exact G2.out h; exact g3 h)
              have g3b : (ar == 0) = false := by simpa using g3
              clear g3
              go_wp2_with fail
              go_ret
              exact ⟨rfl, UW3.out⟩
        · obtain rfl := NOT.out (fun h => g1 h.1)
          go_wp2_with fail
          go_ret
          exact ⟨rfl, UW3.out⟩
end Go.Proofs.Ytpkeimdlcafcnaa
