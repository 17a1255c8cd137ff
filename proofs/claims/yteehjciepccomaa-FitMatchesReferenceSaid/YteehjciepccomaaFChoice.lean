/-
  Choice: some choice of the pieces' lengths.
-/
import Derived.Test.YteehjciepccomaaFOpen
import Derived.Deep.RegionHeld3
namespace Go.Proofs.Yteehjciepccomaa
open Go.RowKit
set_option maxRecDepth 100000
set_option maxHeartbeats 1000000

theorem own_base_up {w : World} {base base' e size n : Nat} {v : Value} {xs : List Value} (h : w.ownsRow base e size v n xs) (hb : ∀ q, v.ownBlock = some q → base' ≤ q) : w.ownsRow base' e size v n xs := by
  refine ⟨h.1, ?_⟩
  rcases h.2 with h | ⟨g, cap, cur, h1, h2, h3⟩
  · exact .inl h
  · exact .inr ⟨g, cap, cur, h1, hb g (by rw [h1]; rfl), h3⟩

theorem choice_any {n₀ n₁ : Nat} (a : Option Addr) (c : Nat) (l : List Pc) (ca : Option Addr) (cn cc : Nat) (xs : List Int) (w : World) (hI : PcsAt n₀ w a l) (hn : n₀ ≤ w.heap.size) (hl : l.length ≤ 20) (hok : ∀ p ∈ l, PcOk p)
    (hJ : Ints n₁ w (.slice ca cn cc) xs) (hn1 : n₁ ≤ w.heap.size) (hm : cn ≤ maxLen) (hwf : ∀ x ∈ xs, (Lit.int .i64 x).wf = true) :
    Calls Try.prog 27 #[.slice a l.length c, .slice ca cn cc] w fun e w' => ∃ A c' ch, e = .returned (.slice A ch.length c') ∧ Ints w'.heap.size w' (.slice A ch.length c') ch ∧ ch.length = l.length ∧ Upd [] w w' := by
  have hcm : cn ≤ 9223372036854775807 := by unfold maxLen at hm; omega
  obtain ⟨len, hlen⟩ : ∃ len, l.length = len := ⟨_, rfl⟩
  rw [hlen] at hl ⊢
  have HLEN := hide hlen
  have HI := hide hI
  have HJ := hide hJ
  have HJL := hide hJ.form.1
  have HOK := hide hok
  have HWF := hide hwf
  clear hI hJ hok hwf hlen hm
  go_enter Try.func27, Try.ntmps27
  go_wp2_with fail
  go_loopw [5, 6] (fun s i wr => ∃ (k : Nat) (A : Option Addr) (c' : Nat) (ch : List Int), k ≤ len ∧ ch.length = k ∧ i = .int .i64 k ∧ s = .slice A k c' ∧ Hid (Upd [] w wr) ∧ Hid (wr.ownsRow w.heap.size 3 1 (.slice A k c') k (ch.map (Value.int .i64))))
    (fun _ i _ => len - (intOf i).toNat)
  case atStart => exact ⟨0, none, 0, [], Nat.zero_le _, rfl, rfl, rfl, Upd.refl _ _, World.ownsRow_nil _ _ _ _⟩
  case round =>
    obtain ⟨k, A, c', ch, hk, hck, rfl, rfl, hu, hrow⟩ := hrel
    have HCK := hide hck
    clear hck
    by_cases hlt : k < len
    · obtain ⟨p, hp⟩ : ∃ p, l[k]? = some p := ⟨_, List.getElem?_eq_getElem (by have := HLEN.out; omega)⟩
      have hpk := HOK.out p (List.mem_of_getElem? hp)
      obtain ⟨b, o, pa, pn, pc, ea, hb, hi, hpm, c0, c1, c2⟩ := (HI.out.upd hu.out hn (by simp)) k p hp
      have hpl := hi.form.1
      have hpn1 : 1 ≤ pn := by have := hpk.1.1; omega
      have hpn8 : pn ≤ 8 := by have := hpk.1.2; omega
      -- the number that picks
      obtain ⟨x, hxw, hx⟩ : ∃ x : Int, (Lit.int .i64 x).wf = true ∧ (k < cn → xs[k]? = some x) ∧ (¬ k < cn → x = 0) := by
        by_cases hc : k < cn
        · have hx : xs[k]? = some (xs[k]'(by have := HJL.out; omega)) := List.getElem?_eq_getElem _
          exact ⟨_, HWF.out _ (List.mem_of_getElem? hx), fun _ => hx, fun h => absurd hc h⟩
        · exact ⟨0, by decide, fun h => absurd h hc, fun _ => rfl⟩
      have PK := hide (fun W => rpick_any x (pn : Int) W hxw (by omega) (by omega))
      obtain ⟨y, hy⟩ : ∃ y : Nat, pickN x (pn : Int) = (y : Int) := ⟨(pickN x (pn : Int)).toNat, by have := pickN_lt x (n := (pn : Int)) (by omega); omega⟩
      have hyb : y < pn := by have := pickN_lt x (n := (pn : Int)) (by omega); omega
      have PK' := PK.out
      simp only [hy] at PK'
      have QK := hide PK'
      have hyi : (y : Int) < (pn : Int) := by omega
      obtain ⟨z, hz⟩ : ∃ z, p.lens[y]? = some z := ⟨_, List.getElem?_eq_getElem (by omega)⟩
      obtain ⟨gb, go, eb, hgb, hzc⟩ := hi.form.2 y z hz
      subst ea eb
      have O1 := hide (show ∀ u ∈ [Value.int .i64 z], u.oneCell' = true by simp [Value.oneCell'])
      have O3 := hide (show k + 1 ≤ maxLen by unfold maxLen; omega)
      have O4 := hide (show (k + 1) * 8 ≤ 140737488355328 by omega)
      have OB := hide (hrow.out.drew.alloc (.cells #[.int .i64 z] 3))
      have e0 : wr.drew.cell? ⟨b, o + k * 3, none⟩ = some (.slice (some ⟨gb, go, none⟩) pn pc) := c0
      have e1 : wr.drew.cell? ⟨gb, go + y, none⟩ = some (.int .i64 z) := hzc
      have HSZ := hide hu.out.size
      have hwr := hide (show w.heap.size ≤ wr.drew.heap.size from hu.out.size)
      have q0 : (wr.drew.alloc (.cells #[.int .i64 z] 3)).cell? ⟨b, o + k * 3, none⟩ = some (.slice (some ⟨gb, go, none⟩) pn pc) := (((Upd.refl [] wr.drew).alloc _).cell (p := ⟨b, o + k * 3, none⟩) (Nat.lt_of_lt_of_le (Nat.lt_of_lt_of_le hb hn) hwr.out) (by simp)).trans e0
      have q1 : (wr.drew.alloc (.cells #[.int .i64 z] 3)).cell? ⟨gb, go + y, none⟩ = some (.int .i64 z) := (((Upd.refl [] wr.drew).alloc _).cell (p := ⟨gb, go + y, none⟩) (Nat.lt_of_lt_of_le (Nat.lt_of_lt_of_le hgb hn) hwr.out) (by simp)).trans e1
      have HB := hide (show b < wr.drew.heap.size ∧ b ∉ (A.map (·.block)).toList ∧ gb < wr.drew.heap.size ∧ gb ∉ (A.map (·.block)).toList from
        ⟨Nat.lt_of_lt_of_le (Nat.lt_of_lt_of_le hb hn) hwr.out, fun hm => by have := (row_lt hrow.out b (by rw [ownBlock_slice]; simpa using hm)).1; omega, Nat.lt_of_lt_of_le (Nat.lt_of_lt_of_le hgb hn) hwr.out, fun hm => by have := (row_lt hrow.out gb (by rw [ownBlock_slice]; simpa using hm)).1; omega⟩)
      clear PK PK' hy hp hpk hb hgb hi hpm hpl hz c1 c2
      by_cases hc : k < cn
      · obtain ⟨xb, xo, ex, hxc⟩ := HJ.out.at_ hu.out hn1 (hx.1 hc)
        subst ex
        have hci : (k : Int) < cn := by omega
        clear hx hxw
        go_wp2_with fail
        refine wp_region_held_drew (S := (fun w' => w'.cell? ⟨b, o + k * 3, none⟩ = some (.slice (some ⟨gb, go, none⟩) pn pc) ∧ w'.cell? ⟨gb, go + y, none⟩ = some (.int .i64 z))) (by kernel_rfl) (by exact ⟨e0, e1⟩) (fun hHeld => ?_)
        refine wpAnyH_take (i := 0) (oi := ?oi0P) (v := ?v0P) ?oi0_0P (by kernel_rfl) ?ff0P ?rr0P ?hq0P (Or.inl ⟨?hw0P, ?hy0P⟩) (by assumption) ?rest0P
        case oi0_0P =>
          conv =>
            lhs
            whnf
            arg 1
            whnf
        case hq0P => exact fun _ _ _ h => h
        case ff0P => kernel_rfl
        case rr0P => kernel_rfl
        case hw0P => rfl
        case hy0P =>
          intro w hSw
          (try dsimp only at hSw)
          first
          | (go_simp; done)
          | (go_simp; with_reducible rfl)
        try simp only [Act.put, List.setIfInBounds_toArray, List.set_cons_zero, List.set_cons_succ]
        refine wpAnyH_take (i := 1) (oi := ?oi1P) (v := ?v1P) ?oi0_1P (by kernel_rfl) ?ff1P ?rr1P ?hq1P (Or.inl ⟨?hw1P, ?hy1P⟩) (by assumption) ?rest1P
        case oi0_1P =>
          conv =>
            lhs
            whnf
            arg 1
            whnf
        case hq1P => exact fun _ _ _ h => h
        case ff1P => kernel_rfl
        case rr1P => kernel_rfl
        case hw1P => rfl
        case hy1P =>
          intro w hSw
          (try dsimp only at hSw)
          first
          | (go_simp; done)
          | (go_simp; with_reducible rfl)
        try simp only [Act.put, List.setIfInBounds_toArray, List.set_cons_zero, List.set_cons_succ]
        refine wpAnyH_take (i := 2) (oi := ?oi2P) (v := ?v2P) ?oi0_2P (by kernel_rfl) ?ff2P ?rr2P ?hq2P (Or.inl ⟨?hw2P, ?hy2P⟩) (by assumption) ?rest2P
        case oi0_2P =>
          conv =>
            lhs
            whnf
            arg 1
            whnf
        case hq2P => exact fun _ _ _ h => h
        case ff2P => kernel_rfl
        case rr2P => kernel_rfl
        case hw2P => rfl
        case hy2P =>
          intro w hSw
          (try dsimp only at hSw)
          first
          | (go_simp; done)
          | (go_simp; with_reducible rfl)
        try simp only [Act.put, List.setIfInBounds_toArray, List.set_cons_zero, List.set_cons_succ]
        refine wpAnyH_take (i := 3) (oi := ?oi3P) (v := ?v3P) ?oi0_3P (by kernel_rfl) ?ff3P ?rr3P ?hq3P (Or.inl ⟨?hw3P, ?hy3P⟩) (by assumption) ?rest3P
        case oi0_3P =>
          conv =>
            lhs
            whnf
            arg 1
            whnf
        case hq3P => exact fun _ _ _ h => h
        case ff3P => kernel_rfl
        case rr3P => kernel_rfl
        case hw3P => rfl
        case hy3P =>
          intro w hSw
          (try dsimp only at hSw)
          first
          | (go_simp; done)
          | (go_simp; with_reducible rfl)
        try simp only [Act.put, List.setIfInBounds_toArray, List.set_cons_zero, List.set_cons_succ]
        refine wpAnyH_take (i := 4) (oi := ?oi4P) (v := ?v4P) ?oi0_4P (by kernel_rfl) ?ff4P ?rr4P ?hq4P (Or.inl ⟨?hw4P, ?hy4P⟩) (by assumption) ?rest4P
        case oi0_4P =>
          conv =>
            lhs
            whnf
            arg 1
            whnf
        case hq4P => exact fun _ _ _ h => h
        case ff4P => kernel_rfl
        case rr4P => kernel_rfl
        case hw4P => rfl
        case hy4P =>
          intro w hSw
          (try dsimp only at hSw)
          first
          | (go_simp; done)
          | (go_simp; with_reducible rfl)
        try simp only [Act.put, List.setIfInBounds_toArray, List.set_cons_zero, List.set_cons_succ]
        refine wpAnyH_take (i := 5) (oi := ?oi5P) (v := ?v5P) ?oi0_5P (by kernel_rfl) ?ff5P ?rr5P ?hq5P (Or.inl ⟨?hw5P, ?hy5P⟩) (by assumption) ?rest5P
        case oi0_5P =>
          conv =>
            lhs
            whnf
            arg 1
            whnf
        case hq5P => exact fun _ _ _ h => h
        case ff5P => kernel_rfl
        case rr5P => kernel_rfl
        case hw5P => rfl
        case hy5P =>
          intro w hSw
          (try dsimp only at hSw)
          first
          | (go_simp; done)
          | (go_simp; with_reducible rfl)
        try simp only [Act.put, List.setIfInBounds_toArray, List.set_cons_zero, List.set_cons_succ]
        refine wpAnyH_take (i := 6) (oi := ?oi6P) (v := ?v6P) ?oi0_6P (by kernel_rfl) ?ff6P ?rr6P ?hq6P (Or.inl ⟨?hw6P, ?hy6P⟩) (by assumption) ?rest6P
        case oi0_6P =>
          conv =>
            lhs
            whnf
            arg 1
            whnf
        case hq6P => exact fun _ _ _ h => h
        case ff6P => kernel_rfl
        case rr6P => kernel_rfl
        case hw6P => rfl
        case hy6P =>
          intro w hSw
          (try dsimp only at hSw)
          first
          | (go_simp; done)
          | (go_simp; with_reducible rfl)
        try simp only [Act.put, List.setIfInBounds_toArray, List.set_cons_zero, List.set_cons_succ]
        refine wpAnyH_take (i := 7) (oi := ?oi7P) (v := ?v7P) ?oi0_7P (by kernel_rfl) ?ff7P ?rr7P ?hq7P (Or.inl ⟨?hw7P, ?hy7P⟩) (by assumption) ?rest7P
        case oi0_7P =>
          conv =>
            lhs
            whnf
            arg 1
            whnf
        case hq7P => exact fun _ _ _ h => h
        case ff7P => kernel_rfl
        case rr7P => kernel_rfl
        case hw7P => rfl
        case hy7P =>
          intro w hSw
          (try dsimp only at hSw)
          first
          | (go_simp; done)
          | (go_simp; with_reducible rfl)
        try simp only [Act.put, List.setIfInBounds_toArray, List.set_cons_zero, List.set_cons_succ]
        refine wpAnyH_take (i := 8) (oi := ?oi8P) (v := ?v8P) ?oi0_8P (by kernel_rfl) ?ff8P ?rr8P ?hq8P (Or.inl ⟨?hw8P, ?hy8P⟩) (by assumption) ?rest8P
        case oi0_8P =>
          conv =>
            lhs
            whnf
            arg 1
            whnf
        case hq8P => exact fun _ _ _ h => h
        case ff8P => kernel_rfl
        case rr8P => kernel_rfl
        case hw8P => rfl
        case hy8P =>
          intro w hSw
          (try dsimp only at hSw)
          first
          | (go_simp; done)
          | (go_simp; with_reducible rfl)
        try simp only [Act.put, List.setIfInBounds_toArray, List.set_cons_zero, List.set_cons_succ]
        refine wpAnyH_take (i := 9) (oi := ?oi9P) (v := ?v9P) ?oi0_9P (by kernel_rfl) ?ff9P ?rr9P ?hq9P (Or.inl ⟨?hw9P, ?hy9P⟩) (by assumption) ?rest9P
        case oi0_9P =>
          conv =>
            lhs
            whnf
            arg 1
            whnf
        case hq9P => exact fun _ _ _ h => h
        case ff9P => kernel_rfl
        case rr9P => kernel_rfl
        case hw9P => rfl
        case hy9P =>
          intro w hSw
          (try dsimp only at hSw)
          first
          | (go_simp; done)
          | (go_simp; with_reducible rfl)
        try simp only [Act.put, List.setIfInBounds_toArray, List.set_cons_zero, List.set_cons_succ]
        refine wpAnyH_take (i := 10) (oi := ?oi10P) (v := ?v10P) ?oi0_10P (by kernel_rfl) ?ff10P ?rr10P ?hq10P (Or.inl ⟨?hw10P, ?hy10P⟩) (by assumption) ?rest10P
        case oi0_10P =>
          conv =>
            lhs
            whnf
            arg 1
            whnf
        case hq10P => exact fun _ _ _ h => h
        case ff10P => kernel_rfl
        case rr10P => kernel_rfl
        case hw10P => rfl
        case hy10P =>
          intro w hSw
          (try dsimp only at hSw)
          first
          | (go_simp; done)
          | (go_simp; with_reducible rfl)
        try simp only [Act.put, List.setIfInBounds_toArray, List.set_cons_zero, List.set_cons_succ]
        refine wpAnyH_take (i := 11) (oi := ?oi11P) (v := ?v11P) ?oi0_11P (by kernel_rfl) ?ff11P ?rr11P ?hq11P (Or.inl ⟨?hw11P, ?hy11P⟩) (by assumption) ?rest11P
        case oi0_11P =>
          conv =>
            lhs
            whnf
            arg 1
            whnf
        case hq11P => exact fun _ _ _ h => h
        case ff11P => kernel_rfl
        case rr11P => kernel_rfl
        case hw11P => rfl
        case hy11P =>
          intro w hSw
          (try dsimp only at hSw)
          first
          | (go_simp; done)
          | (go_simp; with_reducible rfl)
        try simp only [Act.put, List.setIfInBounds_toArray, List.set_cons_zero, List.set_cons_succ]
        refine wpAnyH_take (i := 12) (oi := ?oi12P) (v := ?v12P) ?oi0_12P (by kernel_rfl) ?ff12P ?rr12P ?hq12P (Or.inl ⟨?hw12P, ?hy12P⟩) (by assumption) ?rest12P
        case oi0_12P =>
          conv =>
            lhs
            whnf
            arg 1
            whnf
        case hq12P => exact fun _ _ _ h => h
        case ff12P => kernel_rfl
        case rr12P => kernel_rfl
        case hw12P => rfl
        case hy12P =>
          intro w hSw
          (try dsimp only at hSw)
          first
          | (go_simp; done)
          | (go_simp; with_reducible rfl)
        try simp only [Act.put, List.setIfInBounds_toArray, List.set_cons_zero, List.set_cons_succ]
        refine wpAnyH_ready (rs := [13]) (by kernel_rfl) (by simp) (AllReadyH.cons (o := ?oi13P) ?oi0_13P (fun K hK => ?_) AllReadyH.nil)
        case oi0_13P =>
          conv =>
            lhs
            whnf
            arg 1
            whnf
        go_simp
        go_at_call 40
        have TT := QK.out wr.drew
        with_reducible (refine TT.mono ?_)
        clear TT
        rintro e w' ⟨rfl, rfl⟩
        (try dsimp only)
        refine hK.out _ _ (by exact ⟨e0, e1⟩) (fun hHeld => ?_)
        clear hK K
        try simp only [Act.put, List.setIfInBounds_toArray, List.set_cons_zero, List.set_cons_succ]
        refine wpAnyH_take (i := 14) (oi := ?oi14P) (v := ?v14P) ?oi0_14P (by kernel_rfl) ?ff14P ?rr14P ?hq14P (Or.inl ⟨?hw14P, ?hy14P⟩) (by assumption) ?rest14P
        case oi0_14P =>
          conv =>
            lhs
            whnf
            arg 1
            whnf
        case hq14P => exact fun _ _ _ h => h
        case ff14P => kernel_rfl
        case rr14P => kernel_rfl
        case hw14P => rfl
        case hy14P =>
          intro w hSw
          (try dsimp only at hSw)
          first
          | (go_simp; done)
          | (go_simp; with_reducible rfl)
        try simp only [Act.put, List.setIfInBounds_toArray, List.set_cons_zero, List.set_cons_succ]
        refine wpAnyH_take (i := 15) (oi := ?oi15P) (v := ?v15P) ?oi0_15P (by kernel_rfl) ?ff15P ?rr15P ?hq15P (Or.inl ⟨?hw15P, ?hy15P⟩) (by assumption) ?rest15P
        case oi0_15P =>
          conv =>
            lhs
            whnf
            arg 1
            whnf
        case hq15P => exact fun _ _ _ h => h
        case ff15P => kernel_rfl
        case rr15P => kernel_rfl
        case hw15P => rfl
        case hy15P =>
          intro w hSw
          (try dsimp only at hSw)
          first
          | (go_simp; done)
          | (go_simp; with_reducible rfl)
        try simp only [Act.put, List.setIfInBounds_toArray, List.set_cons_zero, List.set_cons_succ]
        refine wpAnyH_ready (rs := [16]) (by kernel_rfl) (by simp) (AllReadyH.cons (o := ?oi16P) ?oi0_16P (fun K hK => ?_) AllReadyH.nil)
        case oi0_16P =>
          conv =>
            lhs
            whnf
            arg 1
            whnf
        go_simp
        (try dsimp only)
        refine hK.out _ _ (by exact ⟨q0, q1⟩) (fun hHeld => ?_)
        clear hK K
        try simp only [Act.put, List.setIfInBounds_toArray, List.set_cons_zero, List.set_cons_succ]
        refine wpAnyH_ready (rs := [17]) (by kernel_rfl) (by simp) (AllReadyH.cons (o := ?oi17P) ?oi0_17P (fun K hK => ?_) AllReadyH.nil)
        case oi0_17P =>
          conv =>
            lhs
            whnf
            arg 1
            whnf
        refine step_append_row rfl (.tmp 22) (.tmp 38) _ rfl 3 _ 1 8 Try.underlying24 info_int rfl (by decide) A k c' (ch.map (Value.int .i64)) rfl (own_less OB.out (Nat.zero_le _)) ⟨wr.drew.heap.size, 0, none⟩ 1 1 [.int .i64 z] rfl rfl (cell_one_new _ _ _) O1.out O3.out O4.out ?_
        intro A2 c2 w9 h9 u9 a9
        have H9 := hide h9
        have U9 := hide u9
        have A9 := hide a9
        have f0 : w9.cell? ⟨b, o + k * 3, none⟩ = some (.slice (some ⟨gb, go, none⟩) pn pc) := (u9.cell (p := ⟨b, o + k * 3, none⟩) (Nat.lt_of_lt_of_le HB.out.1 (by simp)) (HB.out.2.1)).trans q0
        have f1 : w9.cell? ⟨gb, go + y, none⟩ = some (.int .i64 z) := (u9.cell (p := ⟨gb, go + y, none⟩) (Nat.lt_of_lt_of_le HB.out.2.2.1 (by simp)) (HB.out.2.2.2)).trans q1
        clear h9 u9 a9
        refine hK.out _ _ (by exact ⟨f0, f1⟩) (fun hHeld => ?_)
        clear hK K
        try simp only [Act.put, List.setIfInBounds_toArray, List.set_cons_zero, List.set_cons_succ]
        refine wpAnyH_take (i := 18) (oi := ?oi18P) (v := ?v18P) ?oi0_18P (by kernel_rfl) ?ff18P ?rr18P ?hq18P (Or.inl ⟨?hw18P, ?hy18P⟩) (by assumption) ?rest18P
        case oi0_18P =>
          conv =>
            lhs
            whnf
            arg 1
            whnf
        case hq18P => exact fun _ _ _ h => h
        case ff18P => kernel_rfl
        case rr18P => kernel_rfl
        case hw18P => rfl
        case hy18P =>
          intro w hSw
          (try dsimp only at hSw)
          first
          | (go_simp; done)
          | (go_simp; with_reducible rfl)
        try simp only [Act.put, List.setIfInBounds_toArray, List.set_cons_zero, List.set_cons_succ]
        refine wpAnyH_done (by kernel_rfl) ?_ _
        have hA : ∀ q ∈ (A.map (·.block)).toList, w.heap.size ≤ q := fun q hq => (row_lt hrow.out q (by rw [ownBlock_slice]; simpa using hq)).1
        have V1 := hide (show Upd [] w w9 from (((hu.out.drew).alloc (.cells #[.int .i64 z] 3)).trans U9.out (fun q hq => .inr (hA q hq))))
        have V2 := hide (show w9.ownsRow w.heap.size 3 1 (.slice A2 (k + 1) c2) (k + 1) ((ch ++ [z]).map (Value.int .i64)) from own_base_up (base := 0) (by rw [List.map_append]; exact H9.out) (fun q hq => by
          rw [ownBlock_slice] at hq
          rcases A9.out with e | e
          · rw [e] at hq; exact hA q (by simp [hq])
          · rw [e] at hq; cases hq; exact Nat.le_trans hwr.out (show wr.heap.size ≤ (wr.alloc (.cells #[.int .i64 z] 3)).heap.size by rw [World.size_alloc]; omega)))
        go_wp2_with fail
        go_roundw
        case rel => exact ⟨k + 1, A2, c2, ch ++ [z], by omega, by have := HCK.out; simp; omega, by go_num, rfl, V1, V2⟩
        case measure => simp [intOf] <;> omega
      · have hci : ¬ (k : Int) < cn := by omega
        obtain rfl := hx.2 hc
        clear hx hxw
        go_wp2_with fail
        refine wp_region_held_drew (S := (fun w' => w'.cell? ⟨b, o + k * 3, none⟩ = some (.slice (some ⟨gb, go, none⟩) pn pc) ∧ w'.cell? ⟨gb, go + y, none⟩ = some (.int .i64 z))) (by kernel_rfl) (by exact ⟨e0, e1⟩) (fun hHeld => ?_)
        refine wpAnyH_take (i := 0) (oi := ?oi0Q) (v := ?v0Q) ?oi0_0Q (by kernel_rfl) ?ff0Q ?rr0Q ?hq0Q (Or.inl ⟨?hw0Q, ?hy0Q⟩) (by assumption) ?rest0Q
        case oi0_0Q =>
          conv =>
            lhs
            whnf
            arg 1
            whnf
        case hq0Q => exact fun _ _ _ h => h
        case ff0Q => kernel_rfl
        case rr0Q => kernel_rfl
        case hw0Q => rfl
        case hy0Q =>
          intro w hSw
          (try dsimp only at hSw)
          first
          | (go_simp; done)
          | (go_simp; with_reducible rfl)
        try simp only [Act.put, List.setIfInBounds_toArray, List.set_cons_zero, List.set_cons_succ]
        refine wpAnyH_take (i := 1) (oi := ?oi1Q) (v := ?v1Q) ?oi0_1Q (by kernel_rfl) ?ff1Q ?rr1Q ?hq1Q (Or.inl ⟨?hw1Q, ?hy1Q⟩) (by assumption) ?rest1Q
        case oi0_1Q =>
          conv =>
            lhs
            whnf
            arg 1
            whnf
        case hq1Q => exact fun _ _ _ h => h
        case ff1Q => kernel_rfl
        case rr1Q => kernel_rfl
        case hw1Q => rfl
        case hy1Q =>
          intro w hSw
          (try dsimp only at hSw)
          first
          | (go_simp; done)
          | (go_simp; with_reducible rfl)
        try simp only [Act.put, List.setIfInBounds_toArray, List.set_cons_zero, List.set_cons_succ]
        refine wpAnyH_take (i := 2) (oi := ?oi2Q) (v := ?v2Q) ?oi0_2Q (by kernel_rfl) ?ff2Q ?rr2Q ?hq2Q (Or.inl ⟨?hw2Q, ?hy2Q⟩) (by assumption) ?rest2Q
        case oi0_2Q =>
          conv =>
            lhs
            whnf
            arg 1
            whnf
        case hq2Q => exact fun _ _ _ h => h
        case ff2Q => kernel_rfl
        case rr2Q => kernel_rfl
        case hw2Q => rfl
        case hy2Q =>
          intro w hSw
          (try dsimp only at hSw)
          first
          | (go_simp; done)
          | (go_simp; with_reducible rfl)
        try simp only [Act.put, List.setIfInBounds_toArray, List.set_cons_zero, List.set_cons_succ]
        refine wpAnyH_take (i := 3) (oi := ?oi3Q) (v := ?v3Q) ?oi0_3Q (by kernel_rfl) ?ff3Q ?rr3Q ?hq3Q (Or.inl ⟨?hw3Q, ?hy3Q⟩) (by assumption) ?rest3Q
        case oi0_3Q =>
          conv =>
            lhs
            whnf
            arg 1
            whnf
        case hq3Q => exact fun _ _ _ h => h
        case ff3Q => kernel_rfl
        case rr3Q => kernel_rfl
        case hw3Q => rfl
        case hy3Q =>
          intro w hSw
          (try dsimp only at hSw)
          first
          | (go_simp; done)
          | (go_simp; with_reducible rfl)
        try simp only [Act.put, List.setIfInBounds_toArray, List.set_cons_zero, List.set_cons_succ]
        refine wpAnyH_take (i := 4) (oi := ?oi4Q) (v := ?v4Q) ?oi0_4Q (by kernel_rfl) ?ff4Q ?rr4Q ?hq4Q (Or.inl ⟨?hw4Q, ?hy4Q⟩) (by assumption) ?rest4Q
        case oi0_4Q =>
          conv =>
            lhs
            whnf
            arg 1
            whnf
        case hq4Q => exact fun _ _ _ h => h
        case ff4Q => kernel_rfl
        case rr4Q => kernel_rfl
        case hw4Q => rfl
        case hy4Q =>
          intro w hSw
          (try dsimp only at hSw)
          first
          | (go_simp; done)
          | (go_simp; with_reducible rfl)
        try simp only [Act.put, List.setIfInBounds_toArray, List.set_cons_zero, List.set_cons_succ]
        refine wpAnyH_take (i := 5) (oi := ?oi5Q) (v := ?v5Q) ?oi0_5Q (by kernel_rfl) ?ff5Q ?rr5Q ?hq5Q (Or.inl ⟨?hw5Q, ?hy5Q⟩) (by assumption) ?rest5Q
        case oi0_5Q =>
          conv =>
            lhs
            whnf
            arg 1
            whnf
        case hq5Q => exact fun _ _ _ h => h
        case ff5Q => kernel_rfl
        case rr5Q => kernel_rfl
        case hw5Q => rfl
        case hy5Q =>
          intro w hSw
          (try dsimp only at hSw)
          first
          | (go_simp; done)
          | (go_simp; with_reducible rfl)
        try simp only [Act.put, List.setIfInBounds_toArray, List.set_cons_zero, List.set_cons_succ]
        refine wpAnyH_take (i := 6) (oi := ?oi6Q) (v := ?v6Q) ?oi0_6Q (by kernel_rfl) ?ff6Q ?rr6Q ?hq6Q (Or.inl ⟨?hw6Q, ?hy6Q⟩) (by assumption) ?rest6Q
        case oi0_6Q =>
          conv =>
            lhs
            whnf
            arg 1
            whnf
        case hq6Q => exact fun _ _ _ h => h
        case ff6Q => kernel_rfl
        case rr6Q => kernel_rfl
        case hw6Q => rfl
        case hy6Q =>
          intro w hSw
          (try dsimp only at hSw)
          first
          | (go_simp; done)
          | (go_simp; with_reducible rfl)
        try simp only [Act.put, List.setIfInBounds_toArray, List.set_cons_zero, List.set_cons_succ]
        refine wpAnyH_take (i := 7) (oi := ?oi7Q) (v := ?v7Q) ?oi0_7Q (by kernel_rfl) ?ff7Q ?rr7Q ?hq7Q (Or.inl ⟨?hw7Q, ?hy7Q⟩) (by assumption) ?rest7Q
        case oi0_7Q =>
          conv =>
            lhs
            whnf
            arg 1
            whnf
        case hq7Q => exact fun _ _ _ h => h
        case ff7Q => kernel_rfl
        case rr7Q => kernel_rfl
        case hw7Q => rfl
        case hy7Q =>
          intro w hSw
          (try dsimp only at hSw)
          first
          | (go_simp; done)
          | (go_simp; with_reducible rfl)
        try simp only [Act.put, List.setIfInBounds_toArray, List.set_cons_zero, List.set_cons_succ]
        refine wpAnyH_take (i := 8) (oi := ?oi8Q) (v := ?v8Q) ?oi0_8Q (by kernel_rfl) ?ff8Q ?rr8Q ?hq8Q (Or.inl ⟨?hw8Q, ?hy8Q⟩) (by assumption) ?rest8Q
        case oi0_8Q =>
          conv =>
            lhs
            whnf
            arg 1
            whnf
        case hq8Q => exact fun _ _ _ h => h
        case ff8Q => kernel_rfl
        case rr8Q => kernel_rfl
        case hw8Q => rfl
        case hy8Q =>
          intro w hSw
          (try dsimp only at hSw)
          first
          | (go_simp; done)
          | (go_simp; with_reducible rfl)
        try simp only [Act.put, List.setIfInBounds_toArray, List.set_cons_zero, List.set_cons_succ]
        refine wpAnyH_take (i := 9) (oi := ?oi9Q) (v := ?v9Q) ?oi0_9Q (by kernel_rfl) ?ff9Q ?rr9Q ?hq9Q (Or.inl ⟨?hw9Q, ?hy9Q⟩) (by assumption) ?rest9Q
        case oi0_9Q =>
          conv =>
            lhs
            whnf
            arg 1
            whnf
        case hq9Q => exact fun _ _ _ h => h
        case ff9Q => kernel_rfl
        case rr9Q => kernel_rfl
        case hw9Q => rfl
        case hy9Q =>
          intro w hSw
          (try dsimp only at hSw)
          first
          | (go_simp; done)
          | (go_simp; with_reducible rfl)
        try simp only [Act.put, List.setIfInBounds_toArray, List.set_cons_zero, List.set_cons_succ]
        refine wpAnyH_take (i := 10) (oi := ?oi10Q) (v := ?v10Q) ?oi0_10Q (by kernel_rfl) ?ff10Q ?rr10Q ?hq10Q (Or.inl ⟨?hw10Q, ?hy10Q⟩) (by assumption) ?rest10Q
        case oi0_10Q =>
          conv =>
            lhs
            whnf
            arg 1
            whnf
        case hq10Q => exact fun _ _ _ h => h
        case ff10Q => kernel_rfl
        case rr10Q => kernel_rfl
        case hw10Q => rfl
        case hy10Q =>
          intro w hSw
          (try dsimp only at hSw)
          first
          | (go_simp; done)
          | (go_simp; with_reducible rfl)
        try simp only [Act.put, List.setIfInBounds_toArray, List.set_cons_zero, List.set_cons_succ]
        refine wpAnyH_take (i := 11) (oi := ?oi11Q) (v := ?v11Q) ?oi0_11Q (by kernel_rfl) ?ff11Q ?rr11Q ?hq11Q (Or.inl ⟨?hw11Q, ?hy11Q⟩) (by assumption) ?rest11Q
        case oi0_11Q =>
          conv =>
            lhs
            whnf
            arg 1
            whnf
        case hq11Q => exact fun _ _ _ h => h
        case ff11Q => kernel_rfl
        case rr11Q => kernel_rfl
        case hw11Q => rfl
        case hy11Q =>
          intro w hSw
          (try dsimp only at hSw)
          first
          | (go_simp; done)
          | (go_simp; with_reducible rfl)
        try simp only [Act.put, List.setIfInBounds_toArray, List.set_cons_zero, List.set_cons_succ]
        refine wpAnyH_take (i := 12) (oi := ?oi12Q) (v := ?v12Q) ?oi0_12Q (by kernel_rfl) ?ff12Q ?rr12Q ?hq12Q (Or.inl ⟨?hw12Q, ?hy12Q⟩) (by assumption) ?rest12Q
        case oi0_12Q =>
          conv =>
            lhs
            whnf
            arg 1
            whnf
        case hq12Q => exact fun _ _ _ h => h
        case ff12Q => kernel_rfl
        case rr12Q => kernel_rfl
        case hw12Q => rfl
        case hy12Q =>
          intro w hSw
          (try dsimp only at hSw)
          first
          | (go_simp; done)
          | (go_simp; with_reducible rfl)
        try simp only [Act.put, List.setIfInBounds_toArray, List.set_cons_zero, List.set_cons_succ]
        refine wpAnyH_ready (rs := [13]) (by kernel_rfl) (by simp) (AllReadyH.cons (o := ?oi13Q) ?oi0_13Q (fun K hK => ?_) AllReadyH.nil)
        case oi0_13Q =>
          conv =>
            lhs
            whnf
            arg 1
            whnf
        go_simp
        go_at_call 40
        have TT := QK.out wr.drew
        with_reducible (refine TT.mono ?_)
        clear TT
        rintro e w' ⟨rfl, rfl⟩
        (try dsimp only)
        refine hK.out _ _ (by exact ⟨e0, e1⟩) (fun hHeld => ?_)
        clear hK K
        try simp only [Act.put, List.setIfInBounds_toArray, List.set_cons_zero, List.set_cons_succ]
        refine wpAnyH_take (i := 14) (oi := ?oi14Q) (v := ?v14Q) ?oi0_14Q (by kernel_rfl) ?ff14Q ?rr14Q ?hq14Q (Or.inl ⟨?hw14Q, ?hy14Q⟩) (by assumption) ?rest14Q
        case oi0_14Q =>
          conv =>
            lhs
            whnf
            arg 1
            whnf
        case hq14Q => exact fun _ _ _ h => h
        case ff14Q => kernel_rfl
        case rr14Q => kernel_rfl
        case hw14Q => rfl
        case hy14Q =>
          intro w hSw
          (try dsimp only at hSw)
          first
          | (go_simp; done)
          | (go_simp; with_reducible rfl)
        try simp only [Act.put, List.setIfInBounds_toArray, List.set_cons_zero, List.set_cons_succ]
        refine wpAnyH_take (i := 15) (oi := ?oi15Q) (v := ?v15Q) ?oi0_15Q (by kernel_rfl) ?ff15Q ?rr15Q ?hq15Q (Or.inl ⟨?hw15Q, ?hy15Q⟩) (by assumption) ?rest15Q
        case oi0_15Q =>
          conv =>
            lhs
            whnf
            arg 1
            whnf
        case hq15Q => exact fun _ _ _ h => h
        case ff15Q => kernel_rfl
        case rr15Q => kernel_rfl
        case hw15Q => rfl
        case hy15Q =>
          intro w hSw
          (try dsimp only at hSw)
          first
          | (go_simp; done)
          | (go_simp; with_reducible rfl)
        try simp only [Act.put, List.setIfInBounds_toArray, List.set_cons_zero, List.set_cons_succ]
        refine wpAnyH_ready (rs := [16]) (by kernel_rfl) (by simp) (AllReadyH.cons (o := ?oi16Q) ?oi0_16Q (fun K hK => ?_) AllReadyH.nil)
        case oi0_16Q =>
          conv =>
            lhs
            whnf
            arg 1
            whnf
        go_simp
        (try dsimp only)
        refine hK.out _ _ (by exact ⟨q0, q1⟩) (fun hHeld => ?_)
        clear hK K
        try simp only [Act.put, List.setIfInBounds_toArray, List.set_cons_zero, List.set_cons_succ]
        refine wpAnyH_ready (rs := [17]) (by kernel_rfl) (by simp) (AllReadyH.cons (o := ?oi17Q) ?oi0_17Q (fun K hK => ?_) AllReadyH.nil)
        case oi0_17Q =>
          conv =>
            lhs
            whnf
            arg 1
            whnf
        refine step_append_row rfl (.tmp 22) (.tmp 38) _ rfl 3 _ 1 8 Try.underlying24 info_int rfl (by decide) A k c' (ch.map (Value.int .i64)) rfl (own_less OB.out (Nat.zero_le _)) ⟨wr.drew.heap.size, 0, none⟩ 1 1 [.int .i64 z] rfl rfl (cell_one_new _ _ _) O1.out O3.out O4.out ?_
        intro A2 c2 w9 h9 u9 a9
        have H9 := hide h9
        have U9 := hide u9
        have A9 := hide a9
        have f0 : w9.cell? ⟨b, o + k * 3, none⟩ = some (.slice (some ⟨gb, go, none⟩) pn pc) := (u9.cell (p := ⟨b, o + k * 3, none⟩) (Nat.lt_of_lt_of_le HB.out.1 (by simp)) (HB.out.2.1)).trans q0
        have f1 : w9.cell? ⟨gb, go + y, none⟩ = some (.int .i64 z) := (u9.cell (p := ⟨gb, go + y, none⟩) (Nat.lt_of_lt_of_le HB.out.2.2.1 (by simp)) (HB.out.2.2.2)).trans q1
        clear h9 u9 a9
        refine hK.out _ _ (by exact ⟨f0, f1⟩) (fun hHeld => ?_)
        clear hK K
        try simp only [Act.put, List.setIfInBounds_toArray, List.set_cons_zero, List.set_cons_succ]
        refine wpAnyH_take (i := 18) (oi := ?oi18Q) (v := ?v18Q) ?oi0_18Q (by kernel_rfl) ?ff18Q ?rr18Q ?hq18Q (Or.inl ⟨?hw18Q, ?hy18Q⟩) (by assumption) ?rest18Q
        case oi0_18Q =>
          conv =>
            lhs
            whnf
            arg 1
            whnf
        case hq18Q => exact fun _ _ _ h => h
        case ff18Q => kernel_rfl
        case rr18Q => kernel_rfl
        case hw18Q => rfl
        case hy18Q =>
          intro w hSw
          (try dsimp only at hSw)
          first
          | (go_simp; done)
          | (go_simp; with_reducible rfl)
        try simp only [Act.put, List.setIfInBounds_toArray, List.set_cons_zero, List.set_cons_succ]
        refine wpAnyH_done (by kernel_rfl) ?_ _
        have hA : ∀ q ∈ (A.map (·.block)).toList, w.heap.size ≤ q := fun q hq => (row_lt hrow.out q (by rw [ownBlock_slice]; simpa using hq)).1
        have V1 := hide (show Upd [] w w9 from (((hu.out.drew).alloc (.cells #[.int .i64 z] 3)).trans U9.out (fun q hq => .inr (hA q hq))))
        have V2 := hide (show w9.ownsRow w.heap.size 3 1 (.slice A2 (k + 1) c2) (k + 1) ((ch ++ [z]).map (Value.int .i64)) from own_base_up (base := 0) (by rw [List.map_append]; exact H9.out) (fun q hq => by
          rw [ownBlock_slice] at hq
          rcases A9.out with e | e
          · rw [e] at hq; exact hA q (by simp [hq])
          · rw [e] at hq; cases hq; exact Nat.le_trans hwr.out (show wr.heap.size ≤ (wr.alloc (.cells #[.int .i64 z] 3)).heap.size by rw [World.size_alloc]; omega)))
        go_wp2_with fail
        go_roundw
        case rel => exact ⟨k + 1, A2, c2, ch ++ [z], by omega, by have := HCK.out; simp; omega, by go_num, rfl, V1, V2⟩
        case measure => simp [intOf] <;> omega
    · obtain rfl : k = len := by omega
      obtain ⟨wo, rfl⟩ : ∃ wo : World, wo = wr := ⟨_, rfl⟩
      have hrow2 := hrow.out
      rw [← HCK.out] at hrow2
      have h2 := own_ints hrow2
      rw [HCK.out] at h2
      have H2 := hide h2
      clear hrow2 h2
      go_wp2_with fail
      go_ret
      exact ⟨A, c', ch, by rw [HCK.out]; rfl, by rw [HCK.out]; exact H2.out, HCK.out, hu.out⟩
end Go.Proofs.Yteehjciepccomaa
