/-
  best's closure 'least': the least cost from a piece and a second on, remembered in a table.
-/
import Derived.Test.YteehjciepccomaaZ11FitItemsRow
import Derived.Deep.RegionHeld3

namespace Go.Proofs.Yteehjciepccomaa
open Go.RowKit
set_option maxRecDepth 100000
set_option maxHeartbeats 1000000

/-- The table: cell (i, s) holds 0, or the least cost from there on plus 1. -/
def Known (w : World) (gk : Nat) (total : Int) (l : List Pc) : Prop := ∃ cs : List Value, Blk w gk 107 cs ∧
  ∀ i s, i ≤ l.length → s ≤ 3600 → ∃ v : Int, cs[i * 3601 + s]? = some (.int .i64 v) ∧ (v = 0 ∨ v = leastS total (l.drop i) (s : Int) + 1)
theorem Known.upd {w w' : World} {gk : Nat} {total : Int} {l : List Pc} {ls : List Nat} (h : Known w gk total l) (hu : Upd ls w w') (hg : gk ∉ ls) : Known w' gk total l := by
  obtain ⟨cs, h1, h2⟩ := h
  exact ⟨cs, h1.upd hu hg, h2⟩
theorem Known.put {w : World} {gk : Nat} {total : Int} {l : List Pc} (h : Known w gk total l) (i s : Nat) (hs : s ≤ 3600) : Known (w.setCell ⟨gk, i * 3601 + s, none⟩ (.int .i64 (leastS total (l.drop i) (s : Int) + 1))) gk total l := by
  obtain ⟨cs, h1, h2⟩ := h
  refine ⟨_, h1.set_ (i * 3601 + s) _, fun j t hj ht => ?_⟩
  obtain ⟨v, hv, hc⟩ := h2 j t hj ht
  by_cases e : i * 3601 + s = j * 3601 + t
  · obtain ⟨rfl, rfl⟩ : i = j ∧ s = t := by omega
    refine ⟨_, ?_, .inr rfl⟩
    rw [List.getElem?_set, if_pos rfl, if_pos (List.getElem?_eq_some_iff.1 hv).1]
  · exact ⟨v, by rw [List.getElem?_set, if_neg e]; exact hv, hc⟩

/-- What the closure has captured. -/
structure Env (n₀ bt bl bk bf gk : Nat) (a : Option Addr) (c ck : Nat) (total : Int) (l : List Pc) (w : World) : Prop where
  pcs : PcsAt n₀ w a l
  n0 : n₀ ≤ w.heap.size
  kn : Known w gk total l
  Bt : Blk w bt 3 [.int .i64 total]
  Bl : Blk w bl 22 [.slice a l.length c]
  Bk : Blk w bk 106 [.slice (some ⟨gk, 0, none⟩) (l.length + 1) ck]
  Bf : Blk w bf 32 [.func (.func 71) #[] #[.pointer (some ⟨bt, 0, none⟩), .pointer (some ⟨bl, 0, none⟩), .pointer (some ⟨bk, 0, none⟩), .pointer (some ⟨bf, 0, none⟩)]]
  nk : n₀ ≤ gk
  ne : gk ≠ bt ∧ gk ≠ bl ∧ gk ≠ bk ∧ gk ≠ bf
section
variable {n₀ bt bl bk bf gk : Nat} {a : Option Addr} {c ck : Nat} {total : Int} {l : List Pc} {w w' : World}
theorem Env.upd (h : Env n₀ bt bl bk bf gk a c ck total l w) (hu : Upd [] w w') : Env n₀ bt bl bk bf gk a c ck total l w' :=
  ⟨h.pcs.upd hu h.n0 (by simp), Nat.le_trans h.n0 hu.size, h.kn.upd hu (by simp), h.Bt.upd hu (by simp), h.Bl.upd hu (by simp), h.Bk.upd hu (by simp), h.Bf.upd hu (by simp), h.nk, h.ne⟩
theorem Env.put (h : Env n₀ bt bl bk bf gk a c ck total l w) (i s : Nat) (hs : s ≤ 3600) : Env n₀ bt bl bk bf gk a c ck total l (w.setCell ⟨gk, i * 3601 + s, none⟩ (.int .i64 (leastS total (l.drop i) (s : Int) + 1))) := by
  obtain ⟨n1, n2, n3, n4⟩ := h.ne
  have hu : Upd [gk] w (w.setCell ⟨gk, i * 3601 + s, none⟩ (.int .i64 (leastS total (l.drop i) (s : Int) + 1))) := (Upd.refl [gk] w).setCell (p := ⟨gk, _, none⟩) (.inl (by simp)) _
  exact ⟨h.pcs.upd hu h.n0 (by simp [h.nk]), Nat.le_trans h.n0 hu.size, h.kn.put i s hs, h.Bt.upd hu (by simp; omega), h.Bl.upd hu (by simp; omega), h.Bk.upd hu (by simp; omega), h.Bf.upd hu (by simp; omega), h.nk, h.ne⟩
end

theorem least_any {n₀ bt bl bk bf gk : Nat} {a : Option Addr} {c ck : Nat} {total : Int} {l : List Pc} (hV : ValidS l total) : ∀ (m i : Nat) (s : Nat) (w : World), i + m = l.length → s ≤ 1000000 → Env n₀ bt bl bk bf gk a c ck total l w →
    Calls Try.prog 71 #[.int .i64 (i : Int), .int .i64 (s : Int), .pointer (some ⟨bt, 0, none⟩), .pointer (some ⟨bl, 0, none⟩), .pointer (some ⟨bk, 0, none⟩), .pointer (some ⟨bf, 0, none⟩)] w fun e w' =>
      e = .returned (.int .i64 (leastS total (l.drop i) (s : Int))) ∧ Env n₀ bt bl bk bf gk a c ck total l w' ∧ Upd [gk] w w' := by
  obtain ⟨hl20, ⟨ht1, ht2⟩, hok⟩ := hV
  have HOK := hide hok
  obtain ⟨len, hlen⟩ : ∃ len, l.length = len := ⟨_, rfl⟩
  rw [hlen] at hl20 ⊢
  have HLEN := hide hlen
  clear hok hlen
  intro m
  induction m with
  | zero =>
    intro i s w him hs he
    obtain rfl : i = len := by omega
    have k0 := he.Bt.cell 0
    have k1 := he.Bl.cell 0
    rw [HLEN.out] at k1
    have HE := hide he
    clear he
    have HD := hide (show l.drop i = [] from List.drop_of_length_le (by have := HLEN.out; omega))
    rw [HD.out]
    by_cases h1 : total < (s : Int)
    · obtain ⟨v, hv⟩ : ∃ v, leastS total [] (s : Int) = v := ⟨_, rfl⟩
      rw [hv]
      have HV := hide hv
      clear hv
      go_enter Try.func71, Try.ntmps71
      go_wp2_with fail
      go_ret
      exact ⟨by rw [← HV.out, leastS_far _ h1]; rfl, HE.out, Upd.refl _ _⟩
    · by_cases h2 : (s : Int) < total
      · obtain ⟨v, hv⟩ : ∃ v, leastS total [] (s : Int) = v := ⟨_, rfl⟩
        rw [hv]
        have HV := hide hv
        clear hv
        go_enter Try.func71, Try.ntmps71
        go_wp2_with fail
        go_ret
        exact ⟨by rw [← HV.out, leastS_nil, if_neg (by omega)]; rfl, HE.out, Upd.refl _ _⟩
      · obtain ⟨v, hv⟩ : ∃ v, leastS total [] (s : Int) = v := ⟨_, rfl⟩
        rw [hv]
        have HV := hide hv
        clear hv
        go_enter Try.func71, Try.ntmps71
        go_wp2_with fail
        go_ret
        exact ⟨by rw [← HV.out, leastS_nil, if_pos (by omega)]; rfl, HE.out, Upd.refl _ _⟩
  | succ m ih =>
    intro i s w him hs he
    have IH := hide ih
    clear ih
    have k0 := he.Bt.cell 0
    have k1 := he.Bl.cell 0
    have k2 := he.Bk.cell 0
    rw [HLEN.out] at k1 k2
    have HE := hide he
    have hil : ¬ (i : Int) = len := by omega
    have hil2 : i < len := by omega
    obtain ⟨p, hp⟩ : ∃ p, l[i]? = some p := ⟨_, List.getElem?_eq_getElem (by have := HLEN.out; omega)⟩
    have HD := hide (show l.drop i = p :: l.drop (i + 1) by
      have hlk : i < l.length := by have := HLEN.out; omega
      rw [List.drop_eq_getElem_cons hlk]
      congr 1
      rw [List.getElem?_eq_getElem hlk] at hp
      simpa using hp)
    obtain ⟨v, hv⟩ : ∃ v, leastS total (l.drop i) (s : Int) = v := ⟨_, rfl⟩
    rw [hv]
    have HV := hide hv
    have HP := hide hp
    have hvb := leastS_bounds total (l.drop i) (s : Int)
    rw [hv] at hvb
    obtain ⟨hv1, hv2⟩ := hvb
    unfold never at hv2
    clear hv hp
    by_cases h1 : total < (s : Int)
    · clear he
      go_enter Try.func71, Try.ntmps71
      go_wp2_with fail
      go_ret
      exact ⟨by rw [← HV.out, leastS_far _ h1]; rfl, HE.out, Upd.refl _ _⟩
    have hs2 : s ≤ 3600 := by omega
    obtain ⟨cs, hcs, hkc⟩ := he.kn
    obtain ⟨q, hq, hqv⟩ := hkc i s (by have := HLEN.out; omega) hs2
    have k3 : w.cell? ⟨gk, i * 3601 + s, none⟩ = some (.int .i64 q) := (hcs.cell _).trans hq
    have k4 := hcs.frozen (i * 3601 + s)
    rw [HV.out] at hqv
    have HQ := hide hqv
    clear hcs hkc hq hqv he
    by_cases hq0 : 0 < q
    · have hqq : q - 1 = v := by rcases HQ.out with h | h <;> omega
      have hqb : q ≤ 1099511627777 := by omega
      have HQQ := hide hqq
      clear hqq
      go_enter Try.func71, Try.ntmps71
      go_wp2_with fail
      go_ret
      exact ⟨by rw [← HQQ.out]; rfl, HE.out, Upd.refl _ _⟩
    obtain ⟨b, o, pa, pn, pc, ea, hb, hi, hpm, c0, c1, c2⟩ := HE.out.pcs i p HP.out
    subst ea
    have hpk := HOK.out p (List.mem_of_getElem? HP.out)
    have M := meets_any p (.slice pa pn pc) (s : Int) w rfl
    obtain ⟨x, hx⟩ : ∃ x, meetsS p (s : Int) = x := ⟨_, rfl⟩
    rw [hx] at M
    have ME := hide M
    have HX := hide hx
    have HI := hide hi
    have HPK := hide hpk
    have HBN0 := hide (show b < w.heap.size from Nat.lt_of_lt_of_le hb HE.out.n0)
    have HNE := hide (show b ≠ gk by have := HE.out.nk; omega)
    have hlv := HV.out
    rw [HD.out, leastS, if_neg h1, hx] at hlv
    have HLV := hide hlv
    clear M hx hi hpk hb hpm hlv
    cases x with
    | false =>
      go_enter Try.func71, Try.ntmps71
      go_wp2_with fail
      refine ME.out.mono ?_
      rintro e w1 ⟨rfl, u1⟩
      have E1 := hide (HE.out.upd u1)
      have U1 := hide (u1.mono (l' := [gk]) (by simp))
      obtain ⟨cs, hcs, hkc⟩ := E1.out.kn
      obtain ⟨q1, hq1, _⟩ := hkc i s (by have := HLEN.out; omega) hs2
      have j2 := (hcs.cell (i * 3601 + s)).trans hq1
      have j0 := E1.out.Bk.cell 0
      have j1 := hcs.frozen (i * 3601 + s)
      rw [HLEN.out] at j0
      have hvn : v = 1099511627776 := by have := HLV.out; simp only [Bool.false_eq_true, if_false] at this; exact this.symm
      subst hvn
      have E2 := hide (by have := E1.out.put i s hs2; rwa [HV.out] at this)
      have U2 := hide ((U1.out).setCell (p := ⟨gk, i * 3601 + s, none⟩) (.inl (by simp)) (.int .i64 (1099511627776 + 1)))
      clear u1 hcs hkc hq1
      go_wp2_with fail
      go_ret
      exact ⟨rfl, E2.out, U2.out⟩
    | true =>
      have hlen := HI.out.form.1
      have HPL := hide hlen
      have hpn : pn ≤ 8 := by have := HPK.out.1.2; omega
      have hw := HPK.out.2.1
      obtain ⟨hw1, hw2⟩ := hw
      have HM := hide (show ∀ k : Nat, k ≤ 20 → True from fun _ _ => trivial)
      clear hlen
      go_enter Try.func71, Try.ntmps71
      go_wp2_with fail
      refine ME.out.mono ?_
      rintro e w1 ⟨rfl, u1⟩
      have E1 := hide (HE.out.upd u1)
      have U1 := hide (u1.mono (l' := [gk]) (by simp))
      have HBN1 := hide (show b < w1.heap.size from Nat.lt_of_lt_of_le HBN0.out u1.size)
      have i1 := E1.out.Bl.cell 0
      rw [HLEN.out] at i1
      have d0 := (u1.cell (p := ⟨b, o + i * 3, none⟩) HBN0.out (by simp)).trans c0
      have d1 := (u1.cell (p := ⟨b, o + i * 3 + 1, none⟩) HBN0.out (by simp)).trans c1
      clear u1
      go_wp2_with fail
      go_loopw [9, 51] (fun x j wr => ∃ (k : Nat) (C : Int), k ≤ pn ∧ j = .int .i64 k ∧ x = .int .i64 C ∧ (0 ≤ C ∧ C ≤ 1099511627776) ∧ Hid (C = (p.lens.take k).foldl (fun c n => min c (awayS n p.want + leastS total (l.drop (i + 1)) ((s : Int) + n))) never) ∧ Hid (Env n₀ bt bl bk bf gk (some ⟨b, o, none⟩) c ck total l wr) ∧ Hid (Upd [gk] w1 wr))
        (fun _ j _ => pn - (intOf j).toNat)
      case atStart => exact ⟨0, 1099511627776, Nat.zero_le _, rfl, rfl, by omega, rfl, E1, Upd.refl _ _⟩
      case round =>
        obtain ⟨k, C, hk, rfl, rfl, ⟨hC1, hC2⟩, hC, hE, hu⟩ := hrel
        by_cases hlt : k < pn
        · obtain ⟨n, hnn⟩ : ∃ n, p.lens[k]? = some n := ⟨_, List.getElem?_eq_getElem (by have := HPL.out; omega)⟩
          have hnb := len_ok HPK.out (List.mem_of_getElem? hnn)
          obtain ⟨hn1, hn2⟩ := hnb
          obtain ⟨nb, no, eb, hnl, hnc⟩ := (HI.out.upd (U1.out.trans hu.out (by simp)) HE.out.n0 (by simp [HE.out.nk])).form.2 k n hnn
          subst eb
          have x0 := hE.out.Bl.cell 0
          have x1 := hE.out.Bf.cell 0
          have x2 := (hu.out.cell (p := ⟨b, o + i * 3 + 1, none⟩) HBN1.out (by simpa using HNE.out)).trans d1
          rw [HLEN.out] at x0
          have HBN := hide (show b < wr.drew.heap.size from Nat.lt_of_lt_of_le HBN1.out hu.out.size)
          obtain ⟨aw, haw⟩ : ∃ aw, awayS n p.want = aw := ⟨_, rfl⟩
          have hab : 0 ≤ aw ∧ aw ≤ 3600 := by rw [← haw]; unfold awayS; omega
          obtain ⟨ha1, ha2⟩ := hab
          have A := fun W => away_any n p.want W (by omega) (by omega)
          rw [haw] at A
          have AW := hide A
          obtain ⟨sn, hsn⟩ : ∃ sn : Nat, (s : Int) + n = (sn : Int) := ⟨s + n.toNat, by omega⟩
          obtain ⟨lv, hlv⟩ : ∃ lv, leastS total (l.drop (i + 1)) (sn : Int) = lv := ⟨_, rfl⟩
          have hlb := leastS_bounds total (l.drop (i + 1)) (sn : Int)
          rw [hlv] at hlb
          unfold never at hlb
          obtain ⟨hl1, hl2⟩ := hlb
          have L := IH.out (i + 1) sn wr.drew (by omega) (by omega) (hE.out.upd ((Upd.refl [] wr).drew))
          rw [hlv, ← hsn, show (((i + 1 : Nat)) : Int) = (i : Int) + 1 by omega] at L
          have IHC := hide L
          have HNXT := hide (show (p.lens.take (k + 1)).foldl (fun c n => min c (awayS n p.want + leastS total (l.drop (i + 1)) ((s : Int) + n))) never = min C (aw + lv) by
            rw [List.take_add_one, hnn, Option.toList_some, List.foldl_append, ← hC.out, List.foldl_cons, List.foldl_nil, haw, hsn, hlv])
          have hwA : IntKind.i64.wrap ((i : Int) + 1) = (i : Int) + 1 := Go.IntWalk.i64_in _ (by omega)
          have hwB : IntKind.i64.wrap ((s : Int) + n) = (s : Int) + n := Go.IntWalk.i64_in _ (by omega)
          have hwC : IntKind.i64.wrap (aw + lv) = aw + lv := Go.IntWalk.i64_in _ (by omega)
          clear A L haw hlv hnn hsn hnl
          by_cases hmin : C ≤ aw + lv
          · go_wp2_with fail
            refine wp_region_held_drew (S := (fun w' => w'.cell? ⟨bl, 0, none⟩ = some (.slice (some ⟨b, o, none⟩) len c) ∧ w'.cell? ⟨b, o + i * 3 + 1, none⟩ = some (.int .i64 p.want) ∧ w'.cell? ⟨bf, 0, none⟩ = some (.func (.func 71) #[] #[.pointer (some ⟨bt, 0, none⟩), .pointer (some ⟨bl, 0, none⟩), .pointer (some ⟨bk, 0, none⟩), .pointer (some ⟨bf, 0, none⟩)]))) (by kernel_rfl) (by exact ⟨x0, x2, x1⟩) (fun hHeld => ?_)
            refine wpAnyH_take (i := 0) (oi := ?oi0P) (v := ?v0P) ?oi0_0P (by kernel_rfl) ?ff0P ?rr0P ?hq0P (Or.inl ⟨?hw0P, ?hy0P⟩) (by assumption) ?rest0P
            case oi0_0P =>
              conv =>
                lhs
                whnf
                arg 1
                whnf
            case hq0P => exact fun _ _ _ h => h
            case ff0P => kernel_rfl
            case rr0P => kernel_rfl
            case hw0P => rfl
            case hy0P =>
              intro w hSw
              (try dsimp only at hSw)
              first
              | (go_simp; done)
              | (go_simp; with_reducible rfl)
            try simp only [Act.put, List.setIfInBounds_toArray, List.set_cons_zero, List.set_cons_succ]
            refine wpAnyH_take (i := 1) (oi := ?oi1P) (v := ?v1P) ?oi0_1P (by kernel_rfl) ?ff1P ?rr1P ?hq1P (Or.inl ⟨?hw1P, ?hy1P⟩) (by assumption) ?rest1P
            case oi0_1P =>
              conv =>
                lhs
                whnf
                arg 1
                whnf
            case hq1P => exact fun _ _ _ h => h
            case ff1P => kernel_rfl
            case rr1P => kernel_rfl
            case hw1P => rfl
            case hy1P =>
              intro w hSw
              (try dsimp only at hSw)
              first
              | (go_simp; done)
              | (go_simp; with_reducible rfl)
            try simp only [Act.put, List.setIfInBounds_toArray, List.set_cons_zero, List.set_cons_succ]
            refine wpAnyH_take (i := 2) (oi := ?oi2P) (v := ?v2P) ?oi0_2P (by kernel_rfl) ?ff2P ?rr2P ?hq2P (Or.inl ⟨?hw2P, ?hy2P⟩) (by assumption) ?rest2P
            case oi0_2P =>
              conv =>
                lhs
                whnf
                arg 1
                whnf
            case hq2P => exact fun _ _ _ h => h
            case ff2P => kernel_rfl
            case rr2P => kernel_rfl
            case hw2P => rfl
            case hy2P =>
              intro w hSw
              (try dsimp only at hSw)
              first
              | (go_simp; done)
              | (go_simp; with_reducible rfl)
            try simp only [Act.put, List.setIfInBounds_toArray, List.set_cons_zero, List.set_cons_succ]
            refine wpAnyH_take (i := 3) (oi := ?oi3P) (v := ?v3P) ?oi0_3P (by kernel_rfl) ?ff3P ?rr3P ?hq3P (Or.inl ⟨?hw3P, ?hy3P⟩) (by assumption) ?rest3P
            case oi0_3P =>
              conv =>
                lhs
                whnf
                arg 1
                whnf
            case hq3P => exact fun _ _ _ h => h
            case ff3P => kernel_rfl
            case rr3P => kernel_rfl
            case hw3P => rfl
            case hy3P =>
              intro w hSw
              (try dsimp only at hSw)
              first
              | (go_simp; done)
              | (go_simp; with_reducible rfl)
            try simp only [Act.put, List.setIfInBounds_toArray, List.set_cons_zero, List.set_cons_succ]
            refine wpAnyH_take (i := 4) (oi := ?oi4P) (v := ?v4P) ?oi0_4P (by kernel_rfl) ?ff4P ?rr4P ?hq4P (Or.inl ⟨?hw4P, ?hy4P⟩) (by assumption) ?rest4P
            case oi0_4P =>
              conv =>
                lhs
                whnf
                arg 1
                whnf
            case hq4P => exact fun _ _ _ h => h
            case ff4P => kernel_rfl
            case rr4P => kernel_rfl
            case hw4P => rfl
            case hy4P =>
              intro w hSw
              (try dsimp only at hSw)
              first
              | (go_simp; done)
              | (go_simp; with_reducible rfl)
            try simp only [Act.put, List.setIfInBounds_toArray, List.set_cons_zero, List.set_cons_succ]
            refine wpAnyH_take (i := 5) (oi := ?oi5P) (v := ?v5P) ?oi0_5P (by kernel_rfl) ?ff5P ?rr5P ?hq5P (Or.inl ⟨?hw5P, ?hy5P⟩) (by assumption) ?rest5P
            case oi0_5P =>
              conv =>
                lhs
                whnf
                arg 1
                whnf
            case hq5P => exact fun _ _ _ h => h
            case ff5P => kernel_rfl
            case rr5P => kernel_rfl
            case hw5P => rfl
            case hy5P =>
              intro w hSw
              (try dsimp only at hSw)
              first
              | (go_simp; done)
              | (go_simp; with_reducible rfl)
            try simp only [Act.put, List.setIfInBounds_toArray, List.set_cons_zero, List.set_cons_succ]
            refine wpAnyH_take (i := 6) (oi := ?oi6P) (v := ?v6P) ?oi0_6P (by kernel_rfl) ?ff6P ?rr6P ?hq6P (Or.inl ⟨?hw6P, ?hy6P⟩) (by assumption) ?rest6P
            case oi0_6P =>
              conv =>
                lhs
                whnf
                arg 1
                whnf
            case hq6P => exact fun _ _ _ h => h
            case ff6P => kernel_rfl
            case rr6P => kernel_rfl
            case hw6P => rfl
            case hy6P =>
              intro w hSw
              (try dsimp only at hSw)
              first
              | (go_simp; done)
              | (go_simp; with_reducible rfl)
            try simp only [Act.put, List.setIfInBounds_toArray, List.set_cons_zero, List.set_cons_succ]
            refine wpAnyH_take (i := 8) (oi := ?oi8P) (v := ?v8P) ?oi0_8P (by kernel_rfl) ?ff8P ?rr8P ?hq8P (Or.inl ⟨?hw8P, ?hy8P⟩) (by assumption) ?rest8P
            case oi0_8P =>
              conv =>
                lhs
                whnf
                arg 1
                whnf
            case hq8P => exact fun _ _ _ h => h
            case ff8P => kernel_rfl
            case rr8P => kernel_rfl
            case hw8P => rfl
            case hy8P =>
              intro w hSw
              (try dsimp only at hSw)
              first
              | (go_simp; done)
              | (go_simp; with_reducible rfl)
            try simp only [Act.put, List.setIfInBounds_toArray, List.set_cons_zero, List.set_cons_succ]
            refine wpAnyH_take (i := 9) (oi := ?oi9P) (v := ?v9P) ?oi0_9P (by kernel_rfl) ?ff9P ?rr9P ?hq9P (Or.inl ⟨?hw9P, ?hy9P⟩) (by assumption) ?rest9P
            case oi0_9P =>
              conv =>
                lhs
                whnf
                arg 1
                whnf
            case hq9P => exact fun _ _ _ h => h
            case ff9P => kernel_rfl
            case rr9P => kernel_rfl
            case hw9P => rfl
            case hy9P =>
              intro w hSw
              (try dsimp only at hSw)
              first
              | (go_simp; done)
              | (go_simp; with_reducible rfl)
            try simp only [Act.put, List.setIfInBounds_toArray, List.set_cons_zero, List.set_cons_succ]
            refine wpAnyH_take (i := 10) (oi := ?oi10P) (v := ?v10P) ?oi0_10P (by kernel_rfl) ?ff10P ?rr10P ?hq10P (Or.inl ⟨?hw10P, ?hy10P⟩) (by assumption) ?rest10P
            case oi0_10P =>
              conv =>
                lhs
                whnf
                arg 1
                whnf
            case hq10P => exact fun _ _ _ h => h
            case ff10P => kernel_rfl
            case rr10P => kernel_rfl
            case hw10P => rfl
            case hy10P =>
              intro w hSw
              (try dsimp only at hSw)
              first
              | (go_simp; done)
              | (go_simp; with_reducible rfl)
            try simp only [Act.put, List.setIfInBounds_toArray, List.set_cons_zero, List.set_cons_succ]
            refine wpAnyH_take (i := 11) (oi := ?oi11P) (v := ?v11P) ?oi0_11P (by kernel_rfl) ?ff11P ?rr11P ?hq11P (Or.inl ⟨?hw11P, ?hy11P⟩) (by assumption) ?rest11P
            case oi0_11P =>
              conv =>
                lhs
                whnf
                arg 1
                whnf
            case hq11P => exact fun _ _ _ h => h
            case ff11P => kernel_rfl
            case rr11P => kernel_rfl
            case hw11P => rfl
            case hy11P =>
              intro w hSw
              (try dsimp only at hSw)
              first
              | (go_simp; done)
              | (go_simp; with_reducible rfl)
            try simp only [Act.put, List.setIfInBounds_toArray, List.set_cons_zero, List.set_cons_succ]
            refine wpAnyH_take (i := 12) (oi := ?oi12P) (v := ?v12P) ?oi0_12P (by kernel_rfl) ?ff12P ?rr12P ?hq12P (Or.inl ⟨?hw12P, ?hy12P⟩) (by assumption) ?rest12P
            case oi0_12P =>
              conv =>
                lhs
                whnf
                arg 1
                whnf
            case hq12P => exact fun _ _ _ h => h
            case ff12P => kernel_rfl
            case rr12P => kernel_rfl
            case hw12P => rfl
            case hy12P =>
              intro w hSw
              (try dsimp only at hSw)
              first
              | (go_simp; done)
              | (go_simp; with_reducible rfl)
            try simp only [Act.put, List.setIfInBounds_toArray, List.set_cons_zero, List.set_cons_succ]
            refine wpAnyH_take (i := 13) (oi := ?oi13P) (v := ?v13P) ?oi0_13P (by kernel_rfl) ?ff13P ?rr13P ?hq13P (Or.inl ⟨?hw13P, ?hy13P⟩) (by assumption) ?rest13P
            case oi0_13P =>
              conv =>
                lhs
                whnf
                arg 1
                whnf
            case hq13P => exact fun _ _ _ h => h
            case ff13P => kernel_rfl
            case rr13P => kernel_rfl
            case hw13P => rfl
            case hy13P =>
              intro w hSw
              (try dsimp only at hSw)
              first
              | (go_simp; done)
              | (go_simp; with_reducible rfl)
            try simp only [Act.put, List.setIfInBounds_toArray, List.set_cons_zero, List.set_cons_succ]
            refine wpAnyH_ready (rs := [7]) (by kernel_rfl) (by simp) (AllReadyH.cons (o := ?oi7P) ?oi0_7P (fun K hK => ?_) AllReadyH.nil)
            case oi0_7P =>
              conv =>
                lhs
                whnf
                arg 1
                whnf
            go_simp
            go_at_call 57
            have TT := AW.out wr.drew
            with_reducible (refine TT.mono ?_)
            clear TT
            rintro e w' ⟨rfl, rfl⟩
            (try dsimp only)
            refine hK.out _ _ (by exact ⟨x0, x2, x1⟩) (fun hHeld => ?_)
            clear hK K
            try simp only [Act.put, List.setIfInBounds_toArray, List.set_cons_zero, List.set_cons_succ]
            refine wpAnyH_ready (rs := [14]) (by kernel_rfl) (by simp) (AllReadyH.cons (o := ?oi14P) ?oi0_14P (fun K hK => ?_) AllReadyH.nil)
            case oi0_14P =>
              conv =>
                lhs
                whnf
                arg 1
                whnf
            go_simp
            go_at_call 71
            have TT := IHC.out
            with_reducible (refine TT.mono ?_)
            clear TT
            rintro e w4 ⟨rfl, d4, u4⟩
            have H4 := hide d4
            have U4 := hide (hu.out.trans ((Upd.refl [gk] wr).drew.trans u4 (by simp)) (by simp))
            have y0 := d4.Bl.cell 0
            have y1 := d4.Bf.cell 0
            have y2 : w4.cell? ⟨b, o + i * 3 + 1, none⟩ = some (.int .i64 p.want) := (u4.cell (p := ⟨b, o + i * 3 + 1, none⟩) HBN.out (by simpa using HNE.out)).trans x2
            rw [HLEN.out] at y0
            clear d4 u4
            (try dsimp only)
            refine hK.out _ _ (by exact ⟨y0, y2, y1⟩) (fun hHeld => ?_)
            clear hK K
            try simp only [Act.put, List.setIfInBounds_toArray, List.set_cons_zero, List.set_cons_succ]
            refine wpAnyH_take (i := 15) (oi := ?oi15P) (v := ?v15P) ?oi0_15P (by kernel_rfl) ?ff15P ?rr15P ?hq15P (Or.inl ⟨?hw15P, ?hy15P⟩) (by assumption) ?rest15P
            case oi0_15P =>
              conv =>
                lhs
                whnf
                arg 1
                whnf
            case hq15P => exact fun _ _ _ h => h
            case ff15P => kernel_rfl
            case rr15P => kernel_rfl
            case hw15P => rfl
            case hy15P =>
              intro w hSw
              (try dsimp only at hSw)
              first
              | (go_simp; done)
              | (go_simp; with_reducible rfl)
            try simp only [Act.put, List.setIfInBounds_toArray, List.set_cons_zero, List.set_cons_succ]
            refine wpAnyH_take (i := 16) (oi := ?oi16P) (v := ?v16P) ?oi0_16P (by kernel_rfl) ?ff16P ?rr16P ?hq16P (Or.inl ⟨?hw16P, ?hy16P⟩) (by assumption) ?rest16P
            case oi0_16P =>
              conv =>
                lhs
                whnf
                arg 1
                whnf
            case hq16P => exact fun _ _ _ h => h
            case ff16P => kernel_rfl
            case rr16P => kernel_rfl
            case hw16P => rfl
            case hy16P =>
              intro w hSw
              (try dsimp only at hSw)
              first
              | (go_simp; done)
              | (go_simp; with_reducible rfl)
            try simp only [Act.put, List.setIfInBounds_toArray, List.set_cons_zero, List.set_cons_succ]
            refine wpAnyH_take (i := 17) (oi := ?oi17P) (v := ?v17P) ?oi0_17P (by kernel_rfl) ?ff17P ?rr17P ?hq17P (Or.inl ⟨?hw17P, ?hy17P⟩) (by assumption) ?rest17P
            case oi0_17P =>
              conv =>
                lhs
                whnf
                arg 1
                whnf
            case hq17P => exact fun _ _ _ h => h
            case ff17P => kernel_rfl
            case rr17P => kernel_rfl
            case hw17P => rfl
            case hy17P =>
              intro w hSw
              (try dsimp only at hSw)
              first
              | (go_simp; done)
              | (go_simp; with_reducible rfl)
            try simp only [Act.put, List.setIfInBounds_toArray, List.set_cons_zero, List.set_cons_succ]
            refine wpAnyH_done (by kernel_rfl) ?_ _
            go_wp2_with fail
            go_roundw
            case rel => exact ⟨k + 1, C, by omega, by go_num, by go_num, by omega, by rw [HNXT.out]; show C = min C (aw + lv); omega, H4, U4⟩
            case measure => simp [intOf] <;> omega
          · go_wp2_with fail
            refine wp_region_held_drew (S := (fun w' => w'.cell? ⟨bl, 0, none⟩ = some (.slice (some ⟨b, o, none⟩) len c) ∧ w'.cell? ⟨b, o + i * 3 + 1, none⟩ = some (.int .i64 p.want) ∧ w'.cell? ⟨bf, 0, none⟩ = some (.func (.func 71) #[] #[.pointer (some ⟨bt, 0, none⟩), .pointer (some ⟨bl, 0, none⟩), .pointer (some ⟨bk, 0, none⟩), .pointer (some ⟨bf, 0, none⟩)]))) (by kernel_rfl) (by exact ⟨x0, x2, x1⟩) (fun hHeld => ?_)
            refine wpAnyH_take (i := 0) (oi := ?oi0Q) (v := ?v0Q) ?oi0_0Q (by kernel_rfl) ?ff0Q ?rr0Q ?hq0Q (Or.inl ⟨?hw0Q, ?hy0Q⟩) (by assumption) ?rest0Q
            case oi0_0Q =>
              conv =>
                lhs
                whnf
                arg 1
                whnf
            case hq0Q => exact fun _ _ _ h => h
            case ff0Q => kernel_rfl
            case rr0Q => kernel_rfl
            case hw0Q => rfl
            case hy0Q =>
              intro w hSw
              (try dsimp only at hSw)
              first
              | (go_simp; done)
              | (go_simp; with_reducible rfl)
            try simp only [Act.put, List.setIfInBounds_toArray, List.set_cons_zero, List.set_cons_succ]
            refine wpAnyH_take (i := 1) (oi := ?oi1Q) (v := ?v1Q) ?oi0_1Q (by kernel_rfl) ?ff1Q ?rr1Q ?hq1Q (Or.inl ⟨?hw1Q, ?hy1Q⟩) (by assumption) ?rest1Q
            case oi0_1Q =>
              conv =>
                lhs
                whnf
                arg 1
                whnf
            case hq1Q => exact fun _ _ _ h => h
            case ff1Q => kernel_rfl
            case rr1Q => kernel_rfl
            case hw1Q => rfl
            case hy1Q =>
              intro w hSw
              (try dsimp only at hSw)
              first
              | (go_simp; done)
              | (go_simp; with_reducible rfl)
            try simp only [Act.put, List.setIfInBounds_toArray, List.set_cons_zero, List.set_cons_succ]
            refine wpAnyH_take (i := 2) (oi := ?oi2Q) (v := ?v2Q) ?oi0_2Q (by kernel_rfl) ?ff2Q ?rr2Q ?hq2Q (Or.inl ⟨?hw2Q, ?hy2Q⟩) (by assumption) ?rest2Q
            case oi0_2Q =>
              conv =>
                lhs
                whnf
                arg 1
                whnf
            case hq2Q => exact fun _ _ _ h => h
            case ff2Q => kernel_rfl
            case rr2Q => kernel_rfl
            case hw2Q => rfl
            case hy2Q =>
              intro w hSw
              (try dsimp only at hSw)
              first
              | (go_simp; done)
              | (go_simp; with_reducible rfl)
            try simp only [Act.put, List.setIfInBounds_toArray, List.set_cons_zero, List.set_cons_succ]
            refine wpAnyH_take (i := 3) (oi := ?oi3Q) (v := ?v3Q) ?oi0_3Q (by kernel_rfl) ?ff3Q ?rr3Q ?hq3Q (Or.inl ⟨?hw3Q, ?hy3Q⟩) (by assumption) ?rest3Q
            case oi0_3Q =>
              conv =>
                lhs
                whnf
                arg 1
                whnf
            case hq3Q => exact fun _ _ _ h => h
            case ff3Q => kernel_rfl
            case rr3Q => kernel_rfl
            case hw3Q => rfl
            case hy3Q =>
              intro w hSw
              (try dsimp only at hSw)
              first
              | (go_simp; done)
              | (go_simp; with_reducible rfl)
            try simp only [Act.put, List.setIfInBounds_toArray, List.set_cons_zero, List.set_cons_succ]
            refine wpAnyH_take (i := 4) (oi := ?oi4Q) (v := ?v4Q) ?oi0_4Q (by kernel_rfl) ?ff4Q ?rr4Q ?hq4Q (Or.inl ⟨?hw4Q, ?hy4Q⟩) (by assumption) ?rest4Q
            case oi0_4Q =>
              conv =>
                lhs
                whnf
                arg 1
                whnf
            case hq4Q => exact fun _ _ _ h => h
            case ff4Q => kernel_rfl
            case rr4Q => kernel_rfl
            case hw4Q => rfl
            case hy4Q =>
              intro w hSw
              (try dsimp only at hSw)
              first
              | (go_simp; done)
              | (go_simp; with_reducible rfl)
            try simp only [Act.put, List.setIfInBounds_toArray, List.set_cons_zero, List.set_cons_succ]
            refine wpAnyH_take (i := 5) (oi := ?oi5Q) (v := ?v5Q) ?oi0_5Q (by kernel_rfl) ?ff5Q ?rr5Q ?hq5Q (Or.inl ⟨?hw5Q, ?hy5Q⟩) (by assumption) ?rest5Q
            case oi0_5Q =>
              conv =>
                lhs
                whnf
                arg 1
                whnf
            case hq5Q => exact fun _ _ _ h => h
            case ff5Q => kernel_rfl
            case rr5Q => kernel_rfl
            case hw5Q => rfl
            case hy5Q =>
              intro w hSw
              (try dsimp only at hSw)
              first
              | (go_simp; done)
              | (go_simp; with_reducible rfl)
            try simp only [Act.put, List.setIfInBounds_toArray, List.set_cons_zero, List.set_cons_succ]
            refine wpAnyH_take (i := 6) (oi := ?oi6Q) (v := ?v6Q) ?oi0_6Q (by kernel_rfl) ?ff6Q ?rr6Q ?hq6Q (Or.inl ⟨?hw6Q, ?hy6Q⟩) (by assumption) ?rest6Q
            case oi0_6Q =>
              conv =>
                lhs
                whnf
                arg 1
                whnf
            case hq6Q => exact fun _ _ _ h => h
            case ff6Q => kernel_rfl
            case rr6Q => kernel_rfl
            case hw6Q => rfl
            case hy6Q =>
              intro w hSw
              (try dsimp only at hSw)
              first
              | (go_simp; done)
              | (go_simp; with_reducible rfl)
            try simp only [Act.put, List.setIfInBounds_toArray, List.set_cons_zero, List.set_cons_succ]
            refine wpAnyH_take (i := 8) (oi := ?oi8Q) (v := ?v8Q) ?oi0_8Q (by kernel_rfl) ?ff8Q ?rr8Q ?hq8Q (Or.inl ⟨?hw8Q, ?hy8Q⟩) (by assumption) ?rest8Q
            case oi0_8Q =>
              conv =>
                lhs
                whnf
                arg 1
                whnf
            case hq8Q => exact fun _ _ _ h => h
            case ff8Q => kernel_rfl
            case rr8Q => kernel_rfl
            case hw8Q => rfl
            case hy8Q =>
              intro w hSw
              (try dsimp only at hSw)
              first
              | (go_simp; done)
              | (go_simp; with_reducible rfl)
            try simp only [Act.put, List.setIfInBounds_toArray, List.set_cons_zero, List.set_cons_succ]
            refine wpAnyH_take (i := 9) (oi := ?oi9Q) (v := ?v9Q) ?oi0_9Q (by kernel_rfl) ?ff9Q ?rr9Q ?hq9Q (Or.inl ⟨?hw9Q, ?hy9Q⟩) (by assumption) ?rest9Q
            case oi0_9Q =>
              conv =>
                lhs
                whnf
                arg 1
                whnf
            case hq9Q => exact fun _ _ _ h => h
            case ff9Q => kernel_rfl
            case rr9Q => kernel_rfl
            case hw9Q => rfl
            case hy9Q =>
              intro w hSw
              (try dsimp only at hSw)
              first
              | (go_simp; done)
              | (go_simp; with_reducible rfl)
            try simp only [Act.put, List.setIfInBounds_toArray, List.set_cons_zero, List.set_cons_succ]
            refine wpAnyH_take (i := 10) (oi := ?oi10Q) (v := ?v10Q) ?oi0_10Q (by kernel_rfl) ?ff10Q ?rr10Q ?hq10Q (Or.inl ⟨?hw10Q, ?hy10Q⟩) (by assumption) ?rest10Q
            case oi0_10Q =>
              conv =>
                lhs
                whnf
                arg 1
                whnf
            case hq10Q => exact fun _ _ _ h => h
            case ff10Q => kernel_rfl
            case rr10Q => kernel_rfl
            case hw10Q => rfl
            case hy10Q =>
              intro w hSw
              (try dsimp only at hSw)
              first
              | (go_simp; done)
              | (go_simp; with_reducible rfl)
            try simp only [Act.put, List.setIfInBounds_toArray, List.set_cons_zero, List.set_cons_succ]
            refine wpAnyH_take (i := 11) (oi := ?oi11Q) (v := ?v11Q) ?oi0_11Q (by kernel_rfl) ?ff11Q ?rr11Q ?hq11Q (Or.inl ⟨?hw11Q, ?hy11Q⟩) (by assumption) ?rest11Q
            case oi0_11Q =>
              conv =>
                lhs
                whnf
                arg 1
                whnf
            case hq11Q => exact fun _ _ _ h => h
            case ff11Q => kernel_rfl
            case rr11Q => kernel_rfl
            case hw11Q => rfl
            case hy11Q =>
              intro w hSw
              (try dsimp only at hSw)
              first
              | (go_simp; done)
              | (go_simp; with_reducible rfl)
            try simp only [Act.put, List.setIfInBounds_toArray, List.set_cons_zero, List.set_cons_succ]
            refine wpAnyH_take (i := 12) (oi := ?oi12Q) (v := ?v12Q) ?oi0_12Q (by kernel_rfl) ?ff12Q ?rr12Q ?hq12Q (Or.inl ⟨?hw12Q, ?hy12Q⟩) (by assumption) ?rest12Q
            case oi0_12Q =>
              conv =>
                lhs
                whnf
                arg 1
                whnf
            case hq12Q => exact fun _ _ _ h => h
            case ff12Q => kernel_rfl
            case rr12Q => kernel_rfl
            case hw12Q => rfl
            case hy12Q =>
              intro w hSw
              (try dsimp only at hSw)
              first
              | (go_simp; done)
              | (go_simp; with_reducible rfl)
            try simp only [Act.put, List.setIfInBounds_toArray, List.set_cons_zero, List.set_cons_succ]
            refine wpAnyH_take (i := 13) (oi := ?oi13Q) (v := ?v13Q) ?oi0_13Q (by kernel_rfl) ?ff13Q ?rr13Q ?hq13Q (Or.inl ⟨?hw13Q, ?hy13Q⟩) (by assumption) ?rest13Q
            case oi0_13Q =>
              conv =>
                lhs
                whnf
                arg 1
                whnf
            case hq13Q => exact fun _ _ _ h => h
            case ff13Q => kernel_rfl
            case rr13Q => kernel_rfl
            case hw13Q => rfl
            case hy13Q =>
              intro w hSw
              (try dsimp only at hSw)
              first
              | (go_simp; done)
              | (go_simp; with_reducible rfl)
            try simp only [Act.put, List.setIfInBounds_toArray, List.set_cons_zero, List.set_cons_succ]
            refine wpAnyH_ready (rs := [7]) (by kernel_rfl) (by simp) (AllReadyH.cons (o := ?oi7Q) ?oi0_7Q (fun K hK => ?_) AllReadyH.nil)
            case oi0_7Q =>
              conv =>
                lhs
                whnf
                arg 1
                whnf
            go_simp
            go_at_call 57
            have TT := AW.out wr.drew
            with_reducible (refine TT.mono ?_)
            clear TT
            rintro e w' ⟨rfl, rfl⟩
            (try dsimp only)
            refine hK.out _ _ (by exact ⟨x0, x2, x1⟩) (fun hHeld => ?_)
            clear hK K
            try simp only [Act.put, List.setIfInBounds_toArray, List.set_cons_zero, List.set_cons_succ]
            refine wpAnyH_ready (rs := [14]) (by kernel_rfl) (by simp) (AllReadyH.cons (o := ?oi14Q) ?oi0_14Q (fun K hK => ?_) AllReadyH.nil)
            case oi0_14Q =>
              conv =>
                lhs
                whnf
                arg 1
                whnf
            go_simp
            go_at_call 71
            have TT := IHC.out
            with_reducible (refine TT.mono ?_)
            clear TT
            rintro e w4 ⟨rfl, d4, u4⟩
            have H4 := hide d4
            have U4 := hide (hu.out.trans ((Upd.refl [gk] wr).drew.trans u4 (by simp)) (by simp))
            have y0 := d4.Bl.cell 0
            have y1 := d4.Bf.cell 0
            have y2 : w4.cell? ⟨b, o + i * 3 + 1, none⟩ = some (.int .i64 p.want) := (u4.cell (p := ⟨b, o + i * 3 + 1, none⟩) HBN.out (by simpa using HNE.out)).trans x2
            rw [HLEN.out] at y0
            clear d4 u4
            (try dsimp only)
            refine hK.out _ _ (by exact ⟨y0, y2, y1⟩) (fun hHeld => ?_)
            clear hK K
            try simp only [Act.put, List.setIfInBounds_toArray, List.set_cons_zero, List.set_cons_succ]
            refine wpAnyH_take (i := 15) (oi := ?oi15Q) (v := ?v15Q) ?oi0_15Q (by kernel_rfl) ?ff15Q ?rr15Q ?hq15Q (Or.inl ⟨?hw15Q, ?hy15Q⟩) (by assumption) ?rest15Q
            case oi0_15Q =>
              conv =>
                lhs
                whnf
                arg 1
                whnf
            case hq15Q => exact fun _ _ _ h => h
            case ff15Q => kernel_rfl
            case rr15Q => kernel_rfl
            case hw15Q => rfl
            case hy15Q =>
              intro w hSw
              (try dsimp only at hSw)
              first
              | (go_simp; done)
              | (go_simp; with_reducible rfl)
            try simp only [Act.put, List.setIfInBounds_toArray, List.set_cons_zero, List.set_cons_succ]
            refine wpAnyH_take (i := 16) (oi := ?oi16Q) (v := ?v16Q) ?oi0_16Q (by kernel_rfl) ?ff16Q ?rr16Q ?hq16Q (Or.inl ⟨?hw16Q, ?hy16Q⟩) (by assumption) ?rest16Q
            case oi0_16Q =>
              conv =>
                lhs
                whnf
                arg 1
                whnf
            case hq16Q => exact fun _ _ _ h => h
            case ff16Q => kernel_rfl
            case rr16Q => kernel_rfl
            case hw16Q => rfl
            case hy16Q =>
              intro w hSw
              (try dsimp only at hSw)
              first
              | (go_simp; done)
              | (go_simp; with_reducible rfl)
            try simp only [Act.put, List.setIfInBounds_toArray, List.set_cons_zero, List.set_cons_succ]
            refine wpAnyH_take (i := 17) (oi := ?oi17Q) (v := ?v17Q) ?oi0_17Q (by kernel_rfl) ?ff17Q ?rr17Q ?hq17Q (Or.inl ⟨?hw17Q, ?hy17Q⟩) (by assumption) ?rest17Q
            case oi0_17Q =>
              conv =>
                lhs
                whnf
                arg 1
                whnf
            case hq17Q => exact fun _ _ _ h => h
            case ff17Q => kernel_rfl
            case rr17Q => kernel_rfl
            case hw17Q => rfl
            case hy17Q =>
              intro w hSw
              (try dsimp only at hSw)
              first
              | (go_simp; done)
              | (go_simp; with_reducible rfl)
            try simp only [Act.put, List.setIfInBounds_toArray, List.set_cons_zero, List.set_cons_succ]
            refine wpAnyH_done (by kernel_rfl) ?_ _
            go_wp2_with fail
            go_roundw
            case rel => exact ⟨k + 1, aw + lv, by omega, by go_num, by go_num, by omega, by rw [HNXT.out]; show aw + lv = min C (aw + lv); omega, H4, U4⟩
            case measure => simp [intOf] <;> omega
        · obtain rfl : k = pn := by omega
          obtain ⟨wo, rfl⟩ : ∃ wo : World, wo = wr := ⟨_, rfl⟩
          have hCv : v = C := by
            have h := HLV.out
            have h2 := hC.out
            rw [List.take_of_length_le (by have := HPL.out; omega)] at h2
            simp only [if_true] at h
            rw [← h2] at h
            unfold never at h
            omega
          subst hCv
          obtain ⟨cs, hcs, hkc⟩ := hE.out.kn
          obtain ⟨q1, hq1, _⟩ := hkc i s (by have := HLEN.out; omega) hs2
          have z2 := (hcs.cell (i * 3601 + s)).trans hq1
          have z0 := hE.out.Bk.cell 0
          have z1 := hcs.frozen (i * 3601 + s)
          rw [HLEN.out] at z0
          have E2 := hide (by have := hE.out.put i s hs2; rwa [HV.out] at this)
          have U2 := hide ((U1.out.trans hu.out (by simp)).setCell (p := ⟨gk, i * 3601 + s, none⟩) (.inl (by simp)) (.int .i64 (v + 1)))
          clear hcs hkc hq1
          go_wp2_with fail
          go_ret
          exact ⟨rfl, E2.out, U2.out⟩
end Go.Proofs.Yteehjciepccomaa
