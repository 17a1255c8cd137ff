/-
  best, Resume, Solve.
  Resume and Solve.
  The plain law of the best choice.
-/
import Derived.Test.YteehjciepccomaaZ12FitItemsRow
import Derived.WalkMore
import Derived.Laws.EntriesVeiled
import Derived.Deep.LoopGhost

namespace Go.Proofs.Yteehjciepccomaa
open Go.RowKit
set_option maxRecDepth 100000
set_option maxHeartbeats 1000000

theorem info_line : (Try.prog.info? 107).map (fun i => (i.zero, i.size, i.bytes)) = some (some (.agg (Array.replicate 3601 (.int .i64 0))), 3601, 28808) := by kernel_rfl
theorem made_rep (v : Value) (k n j : Nat) (hk : 0 < k) (hj : j < n) : (madeCells (Array.replicate k v) n).toList[j]? = some v := by
  unfold madeCells
  rw [Array.getElem?_toList, Array.getElem?_map, Array.getElem?_range]
  rw [if_pos hj]
  simp only [Option.map_some, Array.size_replicate]
  have h := Nat.mod_lt j hk
  rw [getElem!_pos _ _ (by rw [Array.size_replicate]; exact h), Array.getElem_replicate]
theorem make_table (n : Nat) (hn : n ≤ 100) (w : World) : (Instr.makeSlice 106 (.int .i64 ((n : Int) + 1)) (.int .i64 ((n : Int) + 1))).run Try.prog w = .ok (.slice (some ⟨w.heap.size, 0, none⟩) (n + 1) (n + 1)) (w.alloc (.cells (madeCells (Array.replicate 3601 (.int .i64 0)) ((n + 1) * 3601)) 107)) := by
  obtain ⟨i, hi, hz, hs, hb⟩ := info_parts info_line
  have hr := run_make (P := Try.prog) w 106 107 i (.agg (Array.replicate 3601 (.int .i64 0))) Try.underlying106 hi hz .i64 .i64 ((n : Int) + 1) ((n : Int) + 1) (by omega) (Int.le_refl _) (by rw [hb]; omega) (by omega)
  rw [hr, hs, show ((n : Int) + 1).toNat = n + 1 by omega]
  rfl
theorem known_new (w : World) (total : Int) (l : List Pc) : Known (w.alloc (.cells (madeCells (Array.replicate 3601 (.int .i64 0)) ((l.length + 1) * 3601)) 107)) w.heap.size total l := by
  refine ⟨(madeCells (Array.replicate 3601 (.int .i64 0)) ((l.length + 1) * 3601)).toList, ?_, fun i s hi hs => ⟨0, made_rep _ _ _ _ (by omega) ?_, .inl rfl⟩⟩
  · have := Blk.new w 107 (madeCells (Array.replicate 3601 (.int .i64 0)) ((l.length + 1) * 3601)).toList
    rwa [Array.toArray_toList] at this
  · have : i * 3601 ≤ l.length * 3601 := Nat.mul_le_mul_right _ hi
    omega

theorem Env.far {n₀ bt bl bk bf gk : Nat} {a : Option Addr} {c ck : Nat} {total : Int} {l : List Pc} {w w' : World} {ls : List Nat} (h : Env n₀ bt bl bk bf gk a c ck total l w) (hu : Upd ls w w') (hl : ∀ x ∈ ls, n₀ ≤ x ∧ x ≠ bt ∧ x ≠ bl ∧ x ≠ bk ∧ x ≠ bf ∧ x ≠ gk) : Env n₀ bt bl bk bf gk a c ck total l w' :=
  ⟨h.pcs.upd hu h.n0 (fun x hx => (hl x hx).1), Nat.le_trans h.n0 hu.size, h.kn.upd hu (fun hm => (hl _ hm).2.2.2.2.2 rfl), h.Bt.upd hu (fun hm => (hl _ hm).2.1 rfl), h.Bl.upd hu (fun hm => (hl _ hm).2.2.1 rfl), h.Bk.upd hu (fun hm => (hl _ hm).2.2.2.1 rfl), h.Bf.upd hu (fun hm => (hl _ hm).2.2.2.2.1 rfl), h.nk, h.ne⟩

/-- What best answers: lengths, their cost, whether there are any. -/
def restS (l : List Pc) (total : Int) (k : Nat) (at_ : Int) : List Int × Int × Bool :=
  if never ≤ leastS total (l.drop k) at_ then ([], 0, false) else match bestS total (l.drop k) at_ with
    | some ns => (ns, leastS total (l.drop k) at_, true)
    | none => ([], 0, false)

theorem best_any {n₀ : Nat} (a : Option Addr) (c : Nat) (l : List Pc) (total : Int) (k s : Nat) (w : World) (hI : PcsAt n₀ w a l) (hn : n₀ ≤ w.heap.size) (hV : ValidS l total) (hk : k ≤ l.length) (hs : s ≤ 500000) :
    Calls Try.prog 52 #[.slice a l.length c, .int .i64 total, .int .i64 (k : Int), .int .i64 (s : Int)] w fun e w' => ∃ v, e = .returned (.tuple #[v, .int .i64 (restS l total k s).2.1, .bool (restS l total k s).2.2]) ∧ w'.ownsRow w.heap.size 3 1 v (restS l total k s).1.length ((restS l total k s).1.map (Value.int .i64)) ∧ Below w.heap.size w w' := by
  obtain ⟨ri, hri⟩ : ∃ ri, (restS l total k s).1 = ri := ⟨_, rfl⟩
  obtain ⟨rc, hrc⟩ : ∃ rc, (restS l total k s).2.1 = rc := ⟨_, rfl⟩
  obtain ⟨rb, hrb⟩ : ∃ rb, (restS l total k s).2.2 = rb := ⟨_, rfl⟩
  have HR := hide (show restS l total k s = (ri, rc, rb) by rw [← hri, ← hrc, ← hrb])
  rw [hri, hrc, hrb]
  have HVA := hide hV
  have hl20 := hV.1
  obtain ⟨len, hlen⟩ : ∃ len, l.length = len := ⟨_, rfl⟩
  have hkn : ∀ w : World, Known (w.alloc (.cells (madeCells (Array.replicate 3601 (.int .i64 0)) ((len + 1) * 3601)) 107)) w.heap.size total l := by rw [← hlen]; exact fun w : World => known_new w total l
  rw [hlen] at hl20 hk ⊢
  have hmk := fun W => make_table len (by omega) W
  obtain ⟨K, hK⟩ : ∃ K, madeCells (Array.replicate 3601 (Value.int .i64 0)) ((len + 1) * 3601) = K := ⟨_, rfl⟩
  rw [hK] at hkn hmk
  have HKN := hide hkn
  have HLEN := hide hlen
  have HI := hide hI
  have hmf : ∀ (fn : Fn) (first cap : Array Value) (w : World), (Instr.makeFunc fn first cap).run Try.prog w = .ok (.func fn first cap) w := fun _ _ _ _ => rfl
  have k0 := ((Blk.new w 22 [.slice a len c]).alloc (.cells #[.int .i64 total] 3)).cell 0
  clear hI hV hlen hkn hK hri hrc hrb
  go_enter Try.func52, Try.ntmps52
  go_wp2_with fail
  go_step3
  go_wp2_with fail
  obtain ⟨W6, hW6⟩ : ∃ W6, (((((w.alloc (.cells #[.slice a len c] 22)).alloc (.cells #[.int .i64 total] 3)).alloc (.cells K 107)).alloc (.cells #[.slice (some ⟨w.heap.size + 1 + 1, 0, none⟩) (len + 1) (len + 1)] 106)).alloc (.cells #[.func (.func 71) #[] #[.pointer (some ⟨w.heap.size + 1, 0, none⟩), .pointer (some ⟨w.heap.size, 0, none⟩), .pointer (some ⟨w.heap.size + 1 + 1 + 1, 0, none⟩), .pointer (some ⟨w.heap.size + 1 + 1 + 1 + 1, 0, none⟩)]] 32)) = W6 := ⟨_, rfl⟩
  rw [hW6]
  have hsz : W6.heap.size = w.heap.size + 5 := by rw [← hW6]; simp
  have U6 : Upd [] w W6 := by rw [← hW6]; exact (((((Upd.refl [] w).alloc _).alloc _).alloc _).alloc _).alloc _
  have b5 : Blk W6 (w.heap.size + 1 + 1 + 1 + 1) 32 [.func (.func 71) #[] #[.pointer (some ⟨w.heap.size + 1, 0, none⟩), .pointer (some ⟨w.heap.size, 0, none⟩), .pointer (some ⟨w.heap.size + 1 + 1 + 1, 0, none⟩), .pointer (some ⟨w.heap.size + 1 + 1 + 1 + 1, 0, none⟩)]] := by
    have := Blk.new ((((w.alloc (.cells #[.slice a len c] 22)).alloc (.cells #[.int .i64 total] 3)).alloc (.cells K 107)).alloc (.cells #[.slice (some ⟨w.heap.size + 1 + 1, 0, none⟩) (len + 1) (len + 1)] 106)) 32 [.func (.func 71) #[] #[.pointer (some ⟨w.heap.size + 1, 0, none⟩), .pointer (some ⟨w.heap.size, 0, none⟩), .pointer (some ⟨w.heap.size + 1 + 1 + 1, 0, none⟩), .pointer (some ⟨w.heap.size + 1 + 1 + 1 + 1, 0, none⟩)]]
    rw [hW6] at this
    simpa using this
  have b4 : Blk W6 (w.heap.size + 1 + 1 + 1) 106 [.slice (some ⟨w.heap.size + 1 + 1, 0, none⟩) (len + 1) (len + 1)] := by
    have := (Blk.new (((w.alloc (.cells #[.slice a len c] 22)).alloc (.cells #[.int .i64 total] 3)).alloc (.cells K 107)) 106 [.slice (some ⟨w.heap.size + 1 + 1, 0, none⟩) (len + 1) (len + 1)]).alloc (.cells #[.func (.func 71) #[] #[.pointer (some ⟨w.heap.size + 1, 0, none⟩), .pointer (some ⟨w.heap.size, 0, none⟩), .pointer (some ⟨w.heap.size + 1 + 1 + 1, 0, none⟩), .pointer (some ⟨w.heap.size + 1 + 1 + 1 + 1, 0, none⟩)]] 32)
    rw [hW6] at this
    simpa using this
  have b1 : Blk W6 (w.heap.size + 1) 3 [.int .i64 total] := by
    have := (((Blk.new (w.alloc (.cells #[.slice a len c] 22)) 3 [.int .i64 total]).alloc (.cells K 107)).alloc (.cells #[.slice (some ⟨w.heap.size + 1 + 1, 0, none⟩) (len + 1) (len + 1)] 106)).alloc (.cells #[.func (.func 71) #[] #[.pointer (some ⟨w.heap.size + 1, 0, none⟩), .pointer (some ⟨w.heap.size, 0, none⟩), .pointer (some ⟨w.heap.size + 1 + 1 + 1, 0, none⟩), .pointer (some ⟨w.heap.size + 1 + 1 + 1 + 1, 0, none⟩)]] 32)
    rw [hW6] at this
    simpa using this
  have b0 : Blk W6 w.heap.size 22 [.slice a len c] := by
    have := ((((Blk.new w 22 [.slice a len c]).alloc (.cells #[.int .i64 total] 3)).alloc (.cells K 107)).alloc (.cells #[.slice (some ⟨w.heap.size + 1 + 1, 0, none⟩) (len + 1) (len + 1)] 106)).alloc (.cells #[.func (.func 71) #[] #[.pointer (some ⟨w.heap.size + 1, 0, none⟩), .pointer (some ⟨w.heap.size, 0, none⟩), .pointer (some ⟨w.heap.size + 1 + 1 + 1, 0, none⟩), .pointer (some ⟨w.heap.size + 1 + 1 + 1 + 1, 0, none⟩)]] 32)
    rw [hW6] at this
    exact this
  have bK : Known W6 (w.heap.size + 1 + 1) total l := by
    have := ((HKN.out ((w.alloc (.cells #[.slice a len c] 22)).alloc (.cells #[.int .i64 total] 3))).upd ((Upd.refl [] _).alloc (.cells #[.slice (some ⟨w.heap.size + 1 + 1, 0, none⟩) (len + 1) (len + 1)] 106)) (by simp)).upd ((Upd.refl [] _).alloc (.cells #[.func (.func 71) #[] #[.pointer (some ⟨w.heap.size + 1, 0, none⟩), .pointer (some ⟨w.heap.size, 0, none⟩), .pointer (some ⟨w.heap.size + 1 + 1 + 1, 0, none⟩), .pointer (some ⟨w.heap.size + 1 + 1 + 1 + 1, 0, none⟩)]] 32)) (by simp)
    rw [hW6] at this
    simpa using this
  have E6 := hide (show Env n₀ (w.heap.size + 1) w.heap.size (w.heap.size + 1 + 1 + 1) (w.heap.size + 1 + 1 + 1 + 1) (w.heap.size + 1 + 1) a c (len + 1) total l W6 from
    ⟨HI.out.upd U6 hn (by simp), Nat.le_trans hn U6.size, bK, b1, by rw [HLEN.out]; exact b0, by rw [HLEN.out]; exact b4, b5, by omega, by omega⟩)
  have LL := hide (least_any HVA.out (len - k) k s _ (by have := HLEN.out; omega) (by omega) E6.out)
  have hcb := leastS_bounds total (l.drop k) (s : Int)
  obtain ⟨cost, hcost⟩ : ∃ cost, leastS total (l.drop k) (s : Int) = cost := ⟨_, rfl⟩
  rw [hcost] at LL hcb
  obtain ⟨hc1, hc2⟩ := hcb
  unfold never at hc2
  have hc2b : cost ≤ 9000000000000000000 := by omega
  have HCOST := hide hcost
  have HU6 := hide U6
  clear b5 b4 b1 b0 bK U6 hW6 k0 hmk hmf hcost
  refine LL.out.mono ?_
  rintro e w7 ⟨rfl, e7, u7⟩
  have E7 := hide e7
  have HS7 := hide (show w.heap.size + 5 ≤ w7.heap.size by have := u7.size; rwa [hsz] at this)
  have U7 := hide ((HU6.out.mono (l' := [w.heap.size + 1 + 1]) (by simp)).trans u7 (by simp))
  clear u7
  by_cases hnev : 1099511627776 ≤ cost
  · have hr := HR.out
    unfold restS at hr
    rw [HCOST.out, if_pos (show never ≤ cost from hnev)] at hr
    obtain ⟨rfl, hr2⟩ := Prod.mk.inj hr
    obtain ⟨rfl, rfl⟩ := Prod.mk.inj hr2
    clear hr hr2
    go_wp2_with fail
    (try rw [Exit.noGoto_ret])
    go_ret3
    exact ⟨_, rfl, World.ownsRow_nil _ _ _ _, U7.out.toBelow (Nat.le_refl _) (by simp; omega)⟩
  · have hr := HR.out
    unfold restS at hr
    rw [HCOST.out, if_neg (show ¬ never ≤ cost from hnev)] at hr
    have HR2 := hide hr
    clear hr
    go_wp2_with fail
    go_step3
    go_wp2_with fail
    go_loopg [3, 14, 15] (len - k) (fun g s3 s14 s15 wr => ∃ (j at_ : Nat) (A : Option Addr) (c' : Nat) (done : List Int), g + j = len ∧ at_ ≤ 500000 + 3600 * j ∧ done.length ≤ j ∧ s3 = .int .i64 at_ ∧ s14 = .slice A done.length c' ∧ s15 = .int .i64 j ∧
      Hid (Env n₀ (w.heap.size + 1) w.heap.size (w.heap.size + 1 + 1 + 1) (w.heap.size + 1 + 1 + 1 + 1) (w.heap.size + 1 + 1) a c (len + 1) total l wr) ∧ Hid (Below w.heap.size w wr) ∧ w.heap.size + 5 ≤ wr.heap.size ∧
      Hid (wr.ownsRow (w.heap.size + 5) 3 1 (.slice A done.length c') done.length (done.map (Value.int .i64))) ∧ Hid (bestS total (l.drop k) (s : Int) = (bestS total (l.drop j) (at_ : Int)).map (done ++ ·)))
    case atStart => exact ⟨k, s, none, 0, [], by omega, by omega, Nat.zero_le _, rfl, rfl, rfl, E7, U7.out.toBelow (Nat.le_refl _) (by simp; omega), by have := U7.out.size; have := e7.n0; have := HS7.out; omega, World.ownsRow_nil _ _ _ _, by cases bestS total (l.drop k) (s : Int) <;> rfl⟩
    case round =>
      obtain ⟨j, at_, A, c', done, hg, hat, hdl, rfl, rfl, rfl, hE, hB, hS, hrow, hspec⟩ := hrel
      have x0 := hE.out.Bl.cell 0
      have x1 := hE.out.Bf.cell 0
      rw [HLEN.out] at x0
      cases gk with
      | zero =>
        obtain rfl : j = len := by omega
        obtain ⟨WR, rfl⟩ : ∃ WR : World, WR = wr := ⟨_, rfl⟩
        have hr := HR2.out
        rw [hspec.out, List.drop_of_length_le (by have := HLEN.out; omega)] at hr
        simp only [bestS, Option.map_some, List.append_nil] at hr
        obtain ⟨rfl, hr2⟩ := Prod.mk.inj hr
        obtain ⟨rfl, rfl⟩ := Prod.mk.inj hr2
        clear hr hr2
        go_wp2_with fail
        (try rw [Exit.noGoto_ret])
        go_ret3
        exact ⟨_, rfl, own_less hrow.out (by omega), hB.out⟩
      | succ og =>
        have hjl : (j : Int) < len := by omega
        obtain ⟨p, hp⟩ : ∃ p, l[j]? = some p := ⟨_, List.getElem?_eq_getElem (by have := HLEN.out; omega)⟩
        obtain ⟨b, o, pa, pn, pc, ea, hb, hi, hpm, c0, c1, c2⟩ := hE.out.pcs j p hp
        subst ea
        have HBNW := hide (show b < w.heap.size from Nat.lt_of_lt_of_le hb hn)
        have HNE := hide (show b ≠ w.heap.size + 1 + 1 by have := HBNW.out; omega)
        have hpk := HVA.out.2.2 p (List.mem_of_getElem? hp)
        have HPK := hide hpk
        have hlen := hi.form.1
        have HPL := hide hlen
        have hpn : pn ≤ 8 := by have := hpk.1.2; omega
        have hw := hpk.2.1
        obtain ⟨hw1, hw2⟩ := hw
        have HI2 := hide hi
        have HB0 := hide hB
        have HD := hide (show l.drop j = p :: l.drop (j + 1) by
          have hlk : j < l.length := by have := HLEN.out; omega
          rw [List.drop_eq_getElem_cons hlk]
          congr 1
          rw [List.getElem?_eq_getElem hlk] at hp
          simpa using hp)
        obtain ⟨l0, hl0⟩ : ∃ l0, leastS total (l.drop j) (at_ : Int) = l0 := ⟨_, rfl⟩
        have h0b := leastS_bounds total (l.drop j) (at_ : Int)
        rw [hl0] at h0b
        unfold never at h0b
        obtain ⟨h0a, h0b⟩ := h0b
        have HL0 := hide hl0
        have hsp := hspec.out
        rw [HD.out, bestS, ← HD.out, hl0] at hsp
        have HSP := hide hsp
        have hl20' : len ≤ 20 := hl20
        clear hp hpk hlen hi hb hpm hl0 hsp
        obtain ⟨WO, rfl⟩ : ∃ WO : World, WO = wr := ⟨_, rfl⟩
        go_wp2_with fail
        go_loopg [3, 14, 42] pn (fun g2 s3 s14 s42 wr => ∃ (i : Nat), g2 + i = pn ∧ s3 = .int .i64 at_ ∧ s14 = .slice A done.length c' ∧ s42 = .int .i64 i ∧
          Hid (Env n₀ (w.heap.size + 1) w.heap.size (w.heap.size + 1 + 1 + 1) (w.heap.size + 1 + 1 + 1 + 1) (w.heap.size + 1 + 1) (some ⟨b, o, none⟩) c (len + 1) total l wr) ∧ Hid (Below w.heap.size w wr) ∧ Hid (Below n₀ WO wr) ∧ w.heap.size + 5 ≤ wr.heap.size ∧
          Hid (wr.ownsRow (w.heap.size + 5) 3 1 (.slice A done.length c') done.length (done.map (Value.int .i64))) ∧
          Hid ((p.lens.find? fun n => decide (awayS n p.want + leastS total (l.drop (j + 1)) ((at_ : Int) + n) = l0)) = ((p.lens.drop i).find? fun n => decide (awayS n p.want + leastS total (l.drop (j + 1)) ((at_ : Int) + n) = l0))))
        case atStart => exact ⟨0, by omega, rfl, rfl, rfl, hE, hB, Below.refl _ _, hS, hrow, rfl⟩
        case round =>
          obtain ⟨i, hgi, rfl, rfl, rfl, hE2, hB2, HB3, hS2, hrow2, hfind⟩ := hrel
          clear x0 x1
          have x0 := hE2.out.Bl.cell 0
          have x1 := hE2.out.Bf.cell 0
          rw [HLEN.out] at x0
          obtain ⟨WR, rfl⟩ : ∃ WR : World, WR = wr := ⟨_, rfl⟩
          have x2 : WR.cell? ⟨b, o + j * 3 + 1, none⟩ = some (.int .i64 p.want) := by
            obtain ⟨_, _, pa', pn', pc', e0, h1, h2, h3, d0, d1, d2⟩ := hE2.out.pcs j p (by
              have h := HD.out
              have := List.getElem?_drop (xs := l) (i := j) (j := 0)
              rw [h] at this
              simpa using this.symm)
            obtain ⟨rfl, rfl⟩ := by simpa using e0
            exact d1
          cases gk with
          | zero =>
            obtain rfl : i = pn := by omega
            have hf := hfind.out
            rw [List.drop_of_length_le (show p.lens.length ≤ i by have := HPL.out; omega)] at hf
            have hr := HR2.out
            rw [HSP.out, hf] at hr
            simp only [List.find?_nil, Option.map_none] at hr
            obtain ⟨rfl, hr2⟩ := Prod.mk.inj hr
            obtain ⟨rfl, rfl⟩ := Prod.mk.inj hr2
            clear hr hr2 hf
            go_wp2_with fail
            (try rw [Exit.noGoto_ret])
            go_ret3
            exact ⟨_, rfl, World.ownsRow_nil _ _ _ _, hB2.out⟩
          | succ ig =>
            have hip : (i : Int) < pn := by omega
            obtain ⟨n, hnn⟩ : ∃ n, p.lens[i]? = some n := ⟨_, List.getElem?_eq_getElem (by have := HPL.out; omega)⟩
            have hnb := len_ok HPK.out (List.mem_of_getElem? hnn)
            obtain ⟨hn1, hn2⟩ := hnb
            obtain ⟨nb, no, eb, hnl, hnc⟩ := (HI2.out.below (HB3.out)).form.2 i n hnn
            subst eb
            have HBN := hide (show b < WR.drew.heap.size by have := HBNW.out; show b < WR.heap.size; omega)
            obtain ⟨aw, haw⟩ : ∃ aw, awayS n p.want = aw := ⟨_, rfl⟩
            have hab : 0 ≤ aw ∧ aw ≤ 3600 := by rw [← haw]; unfold awayS; omega
            obtain ⟨ha1, ha2⟩ := hab
            have AA := fun W => away_any n p.want W (by omega) (by omega)
            rw [haw] at AA
            have AW := hide AA
            obtain ⟨sn, hsn⟩ : ∃ sn : Nat, (at_ : Int) + n = (sn : Int) := ⟨at_ + n.toNat, by omega⟩
            obtain ⟨lv, hlv⟩ : ∃ lv, leastS total (l.drop (j + 1)) (sn : Int) = lv := ⟨_, rfl⟩
            have hlb := leastS_bounds total (l.drop (j + 1)) (sn : Int)
            rw [hlv] at hlb
            unfold never at hlb
            obtain ⟨hl1, hl2⟩ := hlb
            have L := least_any HVA.out (len - (j + 1)) (j + 1) sn WR.drew (by have := HLEN.out; omega) (by omega) (hE2.out.upd ((Upd.refl [] WR).drew))
            rw [hlv, ← hsn, show (((j + 1 : Nat)) : Int) = (j : Int) + 1 by omega] at L
            have LN := hide L
            have LC : Hid (∀ W, Env n₀ (w.heap.size + 1) w.heap.size (w.heap.size + 1 + 1 + 1) (w.heap.size + 1 + 1 + 1 + 1) (w.heap.size + 1 + 1) (some ⟨b, o, none⟩) c (len + 1) total l W → Calls Try.prog 71 #[.int .i64 (j : Int), .int .i64 (at_ : Int), .pointer (some ⟨w.heap.size + 1, 0, none⟩), .pointer (some ⟨w.heap.size, 0, none⟩), .pointer (some ⟨w.heap.size + 1 + 1 + 1, 0, none⟩), .pointer (some ⟨w.heap.size + 1 + 1 + 1 + 1, 0, none⟩)] W fun e w' =>
                e = .returned (.int .i64 l0) ∧ Env n₀ (w.heap.size + 1) w.heap.size (w.heap.size + 1 + 1 + 1) (w.heap.size + 1 + 1 + 1 + 1) (w.heap.size + 1 + 1) (some ⟨b, o, none⟩) c (len + 1) total l w' ∧ Upd [w.heap.size + 1 + 1] W w') := fun W hW => by
              have := least_any HVA.out (len - j) j at_ W (by have := HLEN.out; omega) (by omega) hW
              rwa [HL0.out] at this
            have hwA : IntKind.i64.wrap ((j : Int) + 1) = (j : Int) + 1 := Go.IntWalk.i64_in _ (by omega)
            have hwB : IntKind.i64.wrap ((at_ : Int) + n) = (at_ : Int) + n := Go.IntWalk.i64_in _ (by omega)
            have hwC : IntKind.i64.wrap (aw + lv) = aw + lv := Go.IntWalk.i64_in _ (by omega)
            have hdr : p.lens.drop i = n :: p.lens.drop (i + 1) := by
              have hlk : i < p.lens.length := by have := HPL.out; omega
              rw [List.drop_eq_getElem_cons hlk]
              congr 1
              rw [List.getElem?_eq_getElem hlk] at hnn
              simpa using hnn
            have hf0 := hfind.out
            rw [hdr, List.find?_cons, haw, hsn, hlv] at hf0
            have HF := hide hf0
            have HSN := hide hsn
            clear AA L haw hlv hnn hsn hnl hdr hf0
            by_cases heq : aw + lv = l0
            · have HEQ := hide heq
              have hdec : decide (aw + lv = l0) = true := decide_eq_true heq
              have hf1 := HF.out
              rw [hdec] at hf1
              have hs1 := HSP.out
              rw [hf1] at hs1
              have HS1 := hide hs1
              have hbeq : (aw + lv == l0) = true := by simp [heq]
              clear heq hdec hf1 hs1
              go_wp2_with fail
              refine wp_region_held_drew (S := (fun w' => w'.cell? ⟨w.heap.size, 0, none⟩ = some (.slice (some ⟨b, o, none⟩) len c) ∧ w'.cell? ⟨b, o + j * 3 + 1, none⟩ = some (.int .i64 p.want) ∧ w'.cell? ⟨w.heap.size + 1 + 1 + 1 + 1, 0, none⟩ = some (.func (.func 71) #[] #[.pointer (some ⟨w.heap.size + 1, 0, none⟩), .pointer (some ⟨w.heap.size, 0, none⟩), .pointer (some ⟨w.heap.size + 1 + 1 + 1, 0, none⟩), .pointer (some ⟨w.heap.size + 1 + 1 + 1 + 1, 0, none⟩)]))) (by kernel_rfl) (by exact ⟨x0, x2, x1⟩) (fun hHeld => ?_)
              refine wpAnyH_take (i := 0) (oi := ?oi0P) (v := ?v0P) ?oi0_0P (by kernel_rfl) ?ff0P ?rr0P ?hq0P (Or.inl ⟨?hw0P, ?hy0P⟩) (by assumption) ?rest0P
              case oi0_0P =>
                conv =>
                  lhs
                  whnf
                  arg 1
                  whnf
              case hq0P => exact fun _ _ _ h => h
              case ff0P => kernel_rfl
              case rr0P => kernel_rfl
              case hw0P => rfl
              case hy0P =>
                intro w hSw
                (try dsimp only at hSw)
                first
                | (go_simp; done)
                | (go_simp; with_reducible rfl)
              try simp only [Act.put, List.setIfInBounds_toArray, List.set_cons_zero, List.set_cons_succ]
              refine wpAnyH_take (i := 1) (oi := ?oi1P) (v := ?v1P) ?oi0_1P (by kernel_rfl) ?ff1P ?rr1P ?hq1P (Or.inl ⟨?hw1P, ?hy1P⟩) (by assumption) ?rest1P
              case oi0_1P =>
                conv =>
                  lhs
                  whnf
                  arg 1
                  whnf
              case hq1P => exact fun _ _ _ h => h
              case ff1P => kernel_rfl
              case rr1P => kernel_rfl
              case hw1P => rfl
              case hy1P =>
                intro w hSw
                (try dsimp only at hSw)
                first
                | (go_simp; done)
                | (go_simp; with_reducible rfl)
              try simp only [Act.put, List.setIfInBounds_toArray, List.set_cons_zero, List.set_cons_succ]
              refine wpAnyH_take (i := 2) (oi := ?oi2P) (v := ?v2P) ?oi0_2P (by kernel_rfl) ?ff2P ?rr2P ?hq2P (Or.inl ⟨?hw2P, ?hy2P⟩) (by assumption) ?rest2P
              case oi0_2P =>
                conv =>
                  lhs
                  whnf
                  arg 1
                  whnf
              case hq2P => exact fun _ _ _ h => h
              case ff2P => kernel_rfl
              case rr2P => kernel_rfl
              case hw2P => rfl
              case hy2P =>
                intro w hSw
                (try dsimp only at hSw)
                first
                | (go_simp; done)
                | (go_simp; with_reducible rfl)
              try simp only [Act.put, List.setIfInBounds_toArray, List.set_cons_zero, List.set_cons_succ]
              refine wpAnyH_take (i := 3) (oi := ?oi3P) (v := ?v3P) ?oi0_3P (by kernel_rfl) ?ff3P ?rr3P ?hq3P (Or.inl ⟨?hw3P, ?hy3P⟩) (by assumption) ?rest3P
              case oi0_3P =>
                conv =>
                  lhs
                  whnf
                  arg 1
                  whnf
              case hq3P => exact fun _ _ _ h => h
              case ff3P => kernel_rfl
              case rr3P => kernel_rfl
              case hw3P => rfl
              case hy3P =>
                intro w hSw
                (try dsimp only at hSw)
                first
                | (go_simp; done)
                | (go_simp; with_reducible rfl)
              try simp only [Act.put, List.setIfInBounds_toArray, List.set_cons_zero, List.set_cons_succ]
              refine wpAnyH_take (i := 4) (oi := ?oi4P) (v := ?v4P) ?oi0_4P (by kernel_rfl) ?ff4P ?rr4P ?hq4P (Or.inl ⟨?hw4P, ?hy4P⟩) (by assumption) ?rest4P
              case oi0_4P =>
                conv =>
                  lhs
                  whnf
                  arg 1
                  whnf
              case hq4P => exact fun _ _ _ h => h
              case ff4P => kernel_rfl
              case rr4P => kernel_rfl
              case hw4P => rfl
              case hy4P =>
                intro w hSw
                (try dsimp only at hSw)
                first
                | (go_simp; done)
                | (go_simp; with_reducible rfl)
              try simp only [Act.put, List.setIfInBounds_toArray, List.set_cons_zero, List.set_cons_succ]
              refine wpAnyH_take (i := 5) (oi := ?oi5P) (v := ?v5P) ?oi0_5P (by kernel_rfl) ?ff5P ?rr5P ?hq5P (Or.inl ⟨?hw5P, ?hy5P⟩) (by assumption) ?rest5P
              case oi0_5P =>
                conv =>
                  lhs
                  whnf
                  arg 1
                  whnf
              case hq5P => exact fun _ _ _ h => h
              case ff5P => kernel_rfl
              case rr5P => kernel_rfl
              case hw5P => rfl
              case hy5P =>
                intro w hSw
                (try dsimp only at hSw)
                first
                | (go_simp; done)
                | (go_simp; with_reducible rfl)
              try simp only [Act.put, List.setIfInBounds_toArray, List.set_cons_zero, List.set_cons_succ]
              refine wpAnyH_take (i := 7) (oi := ?oi7P) (v := ?v7P) ?oi0_7P (by kernel_rfl) ?ff7P ?rr7P ?hq7P (Or.inl ⟨?hw7P, ?hy7P⟩) (by assumption) ?rest7P
              case oi0_7P =>
                conv =>
                  lhs
                  whnf
                  arg 1
                  whnf
              case hq7P => exact fun _ _ _ h => h
              case ff7P => kernel_rfl
              case rr7P => kernel_rfl
              case hw7P => rfl
              case hy7P =>
                intro w hSw
                (try dsimp only at hSw)
                first
                | (go_simp; done)
                | (go_simp; with_reducible rfl)
              try simp only [Act.put, List.setIfInBounds_toArray, List.set_cons_zero, List.set_cons_succ]
              refine wpAnyH_take (i := 8) (oi := ?oi8P) (v := ?v8P) ?oi0_8P (by kernel_rfl) ?ff8P ?rr8P ?hq8P (Or.inl ⟨?hw8P, ?hy8P⟩) (by assumption) ?rest8P
              case oi0_8P =>
                conv =>
                  lhs
                  whnf
                  arg 1
                  whnf
              case hq8P => exact fun _ _ _ h => h
              case ff8P => kernel_rfl
              case rr8P => kernel_rfl
              case hw8P => rfl
              case hy8P =>
                intro w hSw
                (try dsimp only at hSw)
                first
                | (go_simp; done)
                | (go_simp; with_reducible rfl)
              try simp only [Act.put, List.setIfInBounds_toArray, List.set_cons_zero, List.set_cons_succ]
              refine wpAnyH_take (i := 9) (oi := ?oi9P) (v := ?v9P) ?oi0_9P (by kernel_rfl) ?ff9P ?rr9P ?hq9P (Or.inl ⟨?hw9P, ?hy9P⟩) (by assumption) ?rest9P
              case oi0_9P =>
                conv =>
                  lhs
                  whnf
                  arg 1
                  whnf
              case hq9P => exact fun _ _ _ h => h
              case ff9P => kernel_rfl
              case rr9P => kernel_rfl
              case hw9P => rfl
              case hy9P =>
                intro w hSw
                (try dsimp only at hSw)
                first
                | (go_simp; done)
                | (go_simp; with_reducible rfl)
              try simp only [Act.put, List.setIfInBounds_toArray, List.set_cons_zero, List.set_cons_succ]
              refine wpAnyH_take (i := 10) (oi := ?oi10P) (v := ?v10P) ?oi0_10P (by kernel_rfl) ?ff10P ?rr10P ?hq10P (Or.inl ⟨?hw10P, ?hy10P⟩) (by assumption) ?rest10P
              case oi0_10P =>
                conv =>
                  lhs
                  whnf
                  arg 1
                  whnf
              case hq10P => exact fun _ _ _ h => h
              case ff10P => kernel_rfl
              case rr10P => kernel_rfl
              case hw10P => rfl
              case hy10P =>
                intro w hSw
                (try dsimp only at hSw)
                first
                | (go_simp; done)
                | (go_simp; with_reducible rfl)
              try simp only [Act.put, List.setIfInBounds_toArray, List.set_cons_zero, List.set_cons_succ]
              refine wpAnyH_take (i := 11) (oi := ?oi11P) (v := ?v11P) ?oi0_11P (by kernel_rfl) ?ff11P ?rr11P ?hq11P (Or.inl ⟨?hw11P, ?hy11P⟩) (by assumption) ?rest11P
              case oi0_11P =>
                conv =>
                  lhs
                  whnf
                  arg 1
                  whnf
              case hq11P => exact fun _ _ _ h => h
              case ff11P => kernel_rfl
              case rr11P => kernel_rfl
              case hw11P => rfl
              case hy11P =>
                intro w hSw
                (try dsimp only at hSw)
                first
                | (go_simp; done)
                | (go_simp; with_reducible rfl)
              try simp only [Act.put, List.setIfInBounds_toArray, List.set_cons_zero, List.set_cons_succ]
              refine wpAnyH_take (i := 12) (oi := ?oi12P) (v := ?v12P) ?oi0_12P (by kernel_rfl) ?ff12P ?rr12P ?hq12P (Or.inl ⟨?hw12P, ?hy12P⟩) (by assumption) ?rest12P
              case oi0_12P =>
                conv =>
                  lhs
                  whnf
                  arg 1
                  whnf
              case hq12P => exact fun _ _ _ h => h
              case ff12P => kernel_rfl
              case rr12P => kernel_rfl
              case hw12P => rfl
              case hy12P =>
                intro w hSw
                (try dsimp only at hSw)
                first
                | (go_simp; done)
                | (go_simp; with_reducible rfl)
              try simp only [Act.put, List.setIfInBounds_toArray, List.set_cons_zero, List.set_cons_succ]
              refine wpAnyH_take (i := 15) (oi := ?oi15P) (v := ?v15P) ?oi0_15P (by kernel_rfl) ?ff15P ?rr15P ?hq15P (Or.inl ⟨?hw15P, ?hy15P⟩) (by assumption) ?rest15P
              case oi0_15P =>
                conv =>
                  lhs
                  whnf
                  arg 1
                  whnf
              case hq15P => exact fun _ _ _ h => h
              case ff15P => kernel_rfl
              case rr15P => kernel_rfl
              case hw15P => rfl
              case hy15P =>
                intro w hSw
                (try dsimp only at hSw)
                first
                | (go_simp; done)
                | (go_simp; with_reducible rfl)
              try simp only [Act.put, List.setIfInBounds_toArray, List.set_cons_zero, List.set_cons_succ]
              refine wpAnyH_take (i := 16) (oi := ?oi16P) (v := ?v16P) ?oi0_16P (by kernel_rfl) ?ff16P ?rr16P ?hq16P (Or.inl ⟨?hw16P, ?hy16P⟩) (by assumption) ?rest16P
              case oi0_16P =>
                conv =>
                  lhs
                  whnf
                  arg 1
                  whnf
              case hq16P => exact fun _ _ _ h => h
              case ff16P => kernel_rfl
              case rr16P => kernel_rfl
              case hw16P => rfl
              case hy16P =>
                intro w hSw
                (try dsimp only at hSw)
                first
                | (go_simp; done)
                | (go_simp; with_reducible rfl)
              try simp only [Act.put, List.setIfInBounds_toArray, List.set_cons_zero, List.set_cons_succ]
              refine wpAnyH_take (i := 17) (oi := ?oi17P) (v := ?v17P) ?oi0_17P (by kernel_rfl) ?ff17P ?rr17P ?hq17P (Or.inl ⟨?hw17P, ?hy17P⟩) (by assumption) ?rest17P
              case oi0_17P =>
                conv =>
                  lhs
                  whnf
                  arg 1
                  whnf
              case hq17P => exact fun _ _ _ h => h
              case ff17P => kernel_rfl
              case rr17P => kernel_rfl
              case hw17P => rfl
              case hy17P =>
                intro w hSw
                (try dsimp only at hSw)
                first
                | (go_simp; done)
                | (go_simp; with_reducible rfl)
              try simp only [Act.put, List.setIfInBounds_toArray, List.set_cons_zero, List.set_cons_succ]
              refine wpAnyH_ready (rs := [6]) (by kernel_rfl) (by simp) (AllReadyH.cons (o := ?oi6P) ?oi0_6P (fun K hK => ?_) AllReadyH.nil)
              case oi0_6P =>
                conv =>
                  lhs
                  whnf
                  arg 1
                  whnf
              go_simp
              go_at_call 57
              have TT := AW.out WR.drew
              with_reducible (refine TT.mono ?_)
              clear TT
              rintro e w' ⟨rfl, rfl⟩
              (try dsimp only)
              refine hK.out _ _ (by exact ⟨x0, x2, x1⟩) (fun hHeld => ?_)
              clear hK K
              try simp only [Act.put, List.setIfInBounds_toArray, List.set_cons_zero, List.set_cons_succ]
              refine wpAnyH_ready (rs := [13]) (by kernel_rfl) (by simp) (AllReadyH.cons (o := ?oi13P) ?oi0_13P (fun K hK => ?_) AllReadyH.nil)
              case oi0_13P =>
                conv =>
                  lhs
                  whnf
                  arg 1
                  whnf
              go_simp
              go_at_call 71
              have TT := LN.out
              with_reducible (refine TT.mono ?_)
              clear TT
              rintro e w8 ⟨rfl, d8, u8⟩
              have D8 := hide d8
              have U8 := hide u8
              have y80 := d8.Bl.cell 0
              have y81 := d8.Bf.cell 0
              have y82 : w8.cell? ⟨b, o + j * 3 + 1, none⟩ = some (.int .i64 p.want) := (u8.cell (p := ⟨b, o + j * 3 + 1, none⟩) HBN.out (by simpa using HNE.out)).trans x2
              rw [HLEN.out] at y80
              clear d8 u8
              (try dsimp only)
              refine hK.out _ _ (by exact ⟨y80, y82, y81⟩) (fun hHeld => ?_)
              clear hK K
              try simp only [Act.put, List.setIfInBounds_toArray, List.set_cons_zero, List.set_cons_succ]
              refine wpAnyH_take (i := 14) (oi := ?oi14P) (v := ?v14P) ?oi0_14P (by kernel_rfl) ?ff14P ?rr14P ?hq14P (Or.inl ⟨?hw14P, ?hy14P⟩) (by assumption) ?rest14P
              case oi0_14P =>
                conv =>
                  lhs
                  whnf
                  arg 1
                  whnf
              case hq14P => exact fun _ _ _ h => h
              case ff14P => kernel_rfl
              case rr14P => kernel_rfl
              case hw14P => rfl
              case hy14P =>
                intro w hSw
                (try dsimp only at hSw)
                first
                | (go_simp; done)
                | (go_simp; with_reducible rfl)
              try simp only [Act.put, List.setIfInBounds_toArray, List.set_cons_zero, List.set_cons_succ]
              refine wpAnyH_ready (rs := [18]) (by kernel_rfl) (by simp) (AllReadyH.cons (o := ?oi18P) ?oi0_18P (fun K hK => ?_) AllReadyH.nil)
              case oi0_18P =>
                conv =>
                  lhs
                  whnf
                  arg 1
                  whnf
              go_simp
              go_at_call 71
              have TT := LC.out w8 D8.out
              with_reducible (refine TT.mono ?_)
              clear TT
              rintro e w9 ⟨rfl, d9, u9⟩
              have D9 := hide d9
              have U9 := hide u9
              have y90 := d9.Bl.cell 0
              have y91 := d9.Bf.cell 0
              have y92 : w9.cell? ⟨b, o + j * 3 + 1, none⟩ = some (.int .i64 p.want) := (u9.cell (p := ⟨b, o + j * 3 + 1, none⟩) (Nat.lt_of_lt_of_le HBN.out U8.out.size) (by simpa using HNE.out)).trans y82
              rw [HLEN.out] at y90
              clear d9 u9
              (try dsimp only)
              refine hK.out _ _ (by exact ⟨y90, y92, y91⟩) (fun hHeld => ?_)
              clear hK K
              try simp only [Act.put, List.setIfInBounds_toArray, List.set_cons_zero, List.set_cons_succ]
              refine wpAnyH_take (i := 19) (oi := ?oi19P) (v := ?v19P) ?oi0_19P (by kernel_rfl) ?ff19P ?rr19P ?hq19P (Or.inl ⟨?hw19P, ?hy19P⟩) (by assumption) ?rest19P
              case oi0_19P =>
                conv =>
                  lhs
                  whnf
                  arg 1
                  whnf
              case hq19P => exact fun _ _ _ h => h
              case ff19P => kernel_rfl
              case rr19P => kernel_rfl
              case hw19P => rfl
              case hy19P =>
                intro w hSw
                (try dsimp only at hSw)
                first
                | (go_simp; done)
                | (go_simp; with_reducible rfl)
              try simp only [Act.put, List.setIfInBounds_toArray, List.set_cons_zero, List.set_cons_succ]
              refine wpAnyH_done (by kernel_rfl) ?_ _
              have UU := hide ((((Upd.refl [w.heap.size + 1 + 1] WR).drew).trans U8.out (by simp)).trans U9.out (by simp))
              have hrb : ∀ q, (Value.slice A done.length c').ownBlock = some q → w.heap.size + 5 ≤ q := fun q hq => by
                rcases hrow2.out.2 with ⟨hv, _⟩ | ⟨g, cap, cur, hv, hb, _⟩
                · rw [hv] at hq; simp [Value.ownBlock] at hq
                · rw [hv] at hq
                  obtain rfl : g = q := by simpa [Value.ownBlock] using hq
                  exact hb
              have hs9 := UU.out.size
              have R9 := hide (own_kept hrow2.out UU.out (fun q hq => by have := hrb q hq; simp; omega))
              have HRB := hide hrb
              clear hrb
              have O1 := hide (show ∀ u ∈ [Value.int .i64 n], u.oneCell' = true by simp [Value.oneCell'])
              have O3 := hide (show done.length + 1 ≤ maxLen by unfold maxLen; omega)
              have O4 := hide (show (done.length + 1) * 8 ≤ 140737488355328 by omega)
              have OB := hide (R9.out.alloc (.cells #[.int .i64 n] 3))
              go_wp2_with (at_builtin; refine wpList_append_base rfl (.tmp 66) (.tmp 68) _ rfl (w.heap.size + 5) 3 _ 1 8 Try.underlying24 info_int rfl (by decide) A done.length c' _ rfl OB.out ⟨w9.heap.size, 0, none⟩ 1 1 [.int .i64 n] rfl rfl (cell_one_new _ _ _) O1.out O3.out O4.out (by simp; omega) ?_; intro A' c2 w10 h10 u10 a10; have H10 := hide h10; have U10 := hide u10; clear h10 u10 a10)
              have hrA : ∀ q ∈ (A.map (·.block)).toList, w.heap.size + 5 ≤ q := fun q hq => HRB.out q (by rw [ownBlock_slice]; simpa using hq)
              have ua := (Upd.refl [] w9).alloc (.cells #[.int .i64 n] 3)
              have hsa := ua.size
              have E10 := hide ((D9.out.upd ua).far U10.out (fun q hq => by have := hrA q hq; omega))
              have B10 := hide (((hB2.out.trans (UU.out.toBelow (by omega) (by simp; omega))).trans (ua.toBelow (by omega) (by simp))).trans (U10.out.toBelow (by omega) (fun q hq => by have := hrA q hq; omega)))
              have hs10 := U10.out.size
              go_roundg og
              case rel =>
                refine ⟨j + 1, sn, A', c2, done ++ [n], by omega, by have := HSN.out; omega, by simp; omega, by rw [← HSN.out], by simp, by go_num, E10, B10, by omega, ?_, ?_⟩
                · have := H10.out
                  show World.ownsRow _ _ _ _ _ _ _
                  simpa using this
                · show bestS total (l.drop k) (s : Int) = _
                  have e := HS1.out
                  rw [e]
                  try dsimp only
                  rw [HSN.out]
                  cases bestS total (l.drop (j + 1)) (sn : Int) <;> simp
              case measure => omega
            · have hdec : decide (aw + lv = l0) = false := decide_eq_false heq
              have hf1 := HF.out
              rw [hdec] at hf1
              have HF1 := hide hf1
              have hbeq : (aw + lv == l0) = false := by simp [heq]
              clear hdec hf1
              go_wp2_with fail
              refine wp_region_held_drew (S := (fun w' => w'.cell? ⟨w.heap.size, 0, none⟩ = some (.slice (some ⟨b, o, none⟩) len c) ∧ w'.cell? ⟨b, o + j * 3 + 1, none⟩ = some (.int .i64 p.want) ∧ w'.cell? ⟨w.heap.size + 1 + 1 + 1 + 1, 0, none⟩ = some (.func (.func 71) #[] #[.pointer (some ⟨w.heap.size + 1, 0, none⟩), .pointer (some ⟨w.heap.size, 0, none⟩), .pointer (some ⟨w.heap.size + 1 + 1 + 1, 0, none⟩), .pointer (some ⟨w.heap.size + 1 + 1 + 1 + 1, 0, none⟩)]))) (by kernel_rfl) (by exact ⟨x0, x2, x1⟩) (fun hHeld => ?_)
              refine wpAnyH_take (i := 0) (oi := ?oi0Q) (v := ?v0Q) ?oi0_0Q (by kernel_rfl) ?ff0Q ?rr0Q ?hq0Q (Or.inl ⟨?hw0Q, ?hy0Q⟩) (by assumption) ?rest0Q
              case oi0_0Q =>
                conv =>
                  lhs
                  whnf
                  arg 1
                  whnf
              case hq0Q => exact fun _ _ _ h => h
              case ff0Q => kernel_rfl
              case rr0Q => kernel_rfl
              case hw0Q => rfl
              case hy0Q =>
                intro w hSw
                (try dsimp only at hSw)
                first
                | (go_simp; done)
                | (go_simp; with_reducible rfl)
              try simp only [Act.put, List.setIfInBounds_toArray, List.set_cons_zero, List.set_cons_succ]
              refine wpAnyH_take (i := 1) (oi := ?oi1Q) (v := ?v1Q) ?oi0_1Q (by kernel_rfl) ?ff1Q ?rr1Q ?hq1Q (Or.inl ⟨?hw1Q, ?hy1Q⟩) (by assumption) ?rest1Q
              case oi0_1Q =>
                conv =>
                  lhs
                  whnf
                  arg 1
                  whnf
              case hq1Q => exact fun _ _ _ h => h
              case ff1Q => kernel_rfl
              case rr1Q => kernel_rfl
              case hw1Q => rfl
              case hy1Q =>
                intro w hSw
                (try dsimp only at hSw)
                first
                | (go_simp; done)
                | (go_simp; with_reducible rfl)
              try simp only [Act.put, List.setIfInBounds_toArray, List.set_cons_zero, List.set_cons_succ]
              refine wpAnyH_take (i := 2) (oi := ?oi2Q) (v := ?v2Q) ?oi0_2Q (by kernel_rfl) ?ff2Q ?rr2Q ?hq2Q (Or.inl ⟨?hw2Q, ?hy2Q⟩) (by assumption) ?rest2Q
              case oi0_2Q =>
                conv =>
                  lhs
                  whnf
                  arg 1
                  whnf
              case hq2Q => exact fun _ _ _ h => h
              case ff2Q => kernel_rfl
              case rr2Q => kernel_rfl
              case hw2Q => rfl
              case hy2Q =>
                intro w hSw
                (try dsimp only at hSw)
                first
                | (go_simp; done)
                | (go_simp; with_reducible rfl)
              try simp only [Act.put, List.setIfInBounds_toArray, List.set_cons_zero, List.set_cons_succ]
              refine wpAnyH_take (i := 3) (oi := ?oi3Q) (v := ?v3Q) ?oi0_3Q (by kernel_rfl) ?ff3Q ?rr3Q ?hq3Q (Or.inl ⟨?hw3Q, ?hy3Q⟩) (by assumption) ?rest3Q
              case oi0_3Q =>
                conv =>
                  lhs
                  whnf
                  arg 1
                  whnf
              case hq3Q => exact fun _ _ _ h => h
              case ff3Q => kernel_rfl
              case rr3Q => kernel_rfl
              case hw3Q => rfl
              case hy3Q =>
                intro w hSw
                (try dsimp only at hSw)
                first
                | (go_simp; done)
                | (go_simp; with_reducible rfl)
              try simp only [Act.put, List.setIfInBounds_toArray, List.set_cons_zero, List.set_cons_succ]
              refine wpAnyH_take (i := 4) (oi := ?oi4Q) (v := ?v4Q) ?oi0_4Q (by kernel_rfl) ?ff4Q ?rr4Q ?hq4Q (Or.inl ⟨?hw4Q, ?hy4Q⟩) (by assumption) ?rest4Q
              case oi0_4Q =>
                conv =>
                  lhs
                  whnf
                  arg 1
                  whnf
              case hq4Q => exact fun _ _ _ h => h
              case ff4Q => kernel_rfl
              case rr4Q => kernel_rfl
              case hw4Q => rfl
              case hy4Q =>
                intro w hSw
                (try dsimp only at hSw)
                first
                | (go_simp; done)
                | (go_simp; with_reducible rfl)
              try simp only [Act.put, List.setIfInBounds_toArray, List.set_cons_zero, List.set_cons_succ]
              refine wpAnyH_take (i := 5) (oi := ?oi5Q) (v := ?v5Q) ?oi0_5Q (by kernel_rfl) ?ff5Q ?rr5Q ?hq5Q (Or.inl ⟨?hw5Q, ?hy5Q⟩) (by assumption) ?rest5Q
              case oi0_5Q =>
                conv =>
                  lhs
                  whnf
                  arg 1
                  whnf
              case hq5Q => exact fun _ _ _ h => h
              case ff5Q => kernel_rfl
              case rr5Q => kernel_rfl
              case hw5Q => rfl
              case hy5Q =>
                intro w hSw
                (try dsimp only at hSw)
                first
                | (go_simp; done)
                | (go_simp; with_reducible rfl)
              try simp only [Act.put, List.setIfInBounds_toArray, List.set_cons_zero, List.set_cons_succ]
              refine wpAnyH_take (i := 7) (oi := ?oi7Q) (v := ?v7Q) ?oi0_7Q (by kernel_rfl) ?ff7Q ?rr7Q ?hq7Q (Or.inl ⟨?hw7Q, ?hy7Q⟩) (by assumption) ?rest7Q
              case oi0_7Q =>
                conv =>
                  lhs
                  whnf
                  arg 1
                  whnf
              case hq7Q => exact fun _ _ _ h => h
              case ff7Q => kernel_rfl
              case rr7Q => kernel_rfl
              case hw7Q => rfl
              case hy7Q =>
                intro w hSw
                (try dsimp only at hSw)
                first
                | (go_simp; done)
                | (go_simp; with_reducible rfl)
              try simp only [Act.put, List.setIfInBounds_toArray, List.set_cons_zero, List.set_cons_succ]
              refine wpAnyH_take (i := 8) (oi := ?oi8Q) (v := ?v8Q) ?oi0_8Q (by kernel_rfl) ?ff8Q ?rr8Q ?hq8Q (Or.inl ⟨?hw8Q, ?hy8Q⟩) (by assumption) ?rest8Q
              case oi0_8Q =>
                conv =>
                  lhs
                  whnf
                  arg 1
                  whnf
              case hq8Q => exact fun _ _ _ h => h
              case ff8Q => kernel_rfl
              case rr8Q => kernel_rfl
              case hw8Q => rfl
              case hy8Q =>
                intro w hSw
                (try dsimp only at hSw)
                first
                | (go_simp; done)
                | (go_simp; with_reducible rfl)
              try simp only [Act.put, List.setIfInBounds_toArray, List.set_cons_zero, List.set_cons_succ]
              refine wpAnyH_take (i := 9) (oi := ?oi9Q) (v := ?v9Q) ?oi0_9Q (by kernel_rfl) ?ff9Q ?rr9Q ?hq9Q (Or.inl ⟨?hw9Q, ?hy9Q⟩) (by assumption) ?rest9Q
              case oi0_9Q =>
                conv =>
                  lhs
                  whnf
                  arg 1
                  whnf
              case hq9Q => exact fun _ _ _ h => h
              case ff9Q => kernel_rfl
              case rr9Q => kernel_rfl
              case hw9Q => rfl
              case hy9Q =>
                intro w hSw
                (try dsimp only at hSw)
                first
                | (go_simp; done)
                | (go_simp; with_reducible rfl)
              try simp only [Act.put, List.setIfInBounds_toArray, List.set_cons_zero, List.set_cons_succ]
              refine wpAnyH_take (i := 10) (oi := ?oi10Q) (v := ?v10Q) ?oi0_10Q (by kernel_rfl) ?ff10Q ?rr10Q ?hq10Q (Or.inl ⟨?hw10Q, ?hy10Q⟩) (by assumption) ?rest10Q
              case oi0_10Q =>
                conv =>
                  lhs
                  whnf
                  arg 1
                  whnf
              case hq10Q => exact fun _ _ _ h => h
              case ff10Q => kernel_rfl
              case rr10Q => kernel_rfl
              case hw10Q => rfl
              case hy10Q =>
                intro w hSw
                (try dsimp only at hSw)
                first
                | (go_simp; done)
                | (go_simp; with_reducible rfl)
              try simp only [Act.put, List.setIfInBounds_toArray, List.set_cons_zero, List.set_cons_succ]
              refine wpAnyH_take (i := 11) (oi := ?oi11Q) (v := ?v11Q) ?oi0_11Q (by kernel_rfl) ?ff11Q ?rr11Q ?hq11Q (Or.inl ⟨?hw11Q, ?hy11Q⟩) (by assumption) ?rest11Q
              case oi0_11Q =>
                conv =>
                  lhs
                  whnf
                  arg 1
                  whnf
              case hq11Q => exact fun _ _ _ h => h
              case ff11Q => kernel_rfl
              case rr11Q => kernel_rfl
              case hw11Q => rfl
              case hy11Q =>
                intro w hSw
                (try dsimp only at hSw)
                first
                | (go_simp; done)
                | (go_simp; with_reducible rfl)
              try simp only [Act.put, List.setIfInBounds_toArray, List.set_cons_zero, List.set_cons_succ]
              refine wpAnyH_take (i := 12) (oi := ?oi12Q) (v := ?v12Q) ?oi0_12Q (by kernel_rfl) ?ff12Q ?rr12Q ?hq12Q (Or.inl ⟨?hw12Q, ?hy12Q⟩) (by assumption) ?rest12Q
              case oi0_12Q =>
                conv =>
                  lhs
                  whnf
                  arg 1
                  whnf
              case hq12Q => exact fun _ _ _ h => h
              case ff12Q => kernel_rfl
              case rr12Q => kernel_rfl
              case hw12Q => rfl
              case hy12Q =>
                intro w hSw
                (try dsimp only at hSw)
                first
                | (go_simp; done)
                | (go_simp; with_reducible rfl)
              try simp only [Act.put, List.setIfInBounds_toArray, List.set_cons_zero, List.set_cons_succ]
              refine wpAnyH_take (i := 15) (oi := ?oi15Q) (v := ?v15Q) ?oi0_15Q (by kernel_rfl) ?ff15Q ?rr15Q ?hq15Q (Or.inl ⟨?hw15Q, ?hy15Q⟩) (by assumption) ?rest15Q
              case oi0_15Q =>
                conv =>
                  lhs
                  whnf
                  arg 1
                  whnf
              case hq15Q => exact fun _ _ _ h => h
              case ff15Q => kernel_rfl
              case rr15Q => kernel_rfl
              case hw15Q => rfl
              case hy15Q =>
                intro w hSw
                (try dsimp only at hSw)
                first
                | (go_simp; done)
                | (go_simp; with_reducible rfl)
              try simp only [Act.put, List.setIfInBounds_toArray, List.set_cons_zero, List.set_cons_succ]
              refine wpAnyH_take (i := 16) (oi := ?oi16Q) (v := ?v16Q) ?oi0_16Q (by kernel_rfl) ?ff16Q ?rr16Q ?hq16Q (Or.inl ⟨?hw16Q, ?hy16Q⟩) (by assumption) ?rest16Q
              case oi0_16Q =>
                conv =>
                  lhs
                  whnf
                  arg 1
                  whnf
              case hq16Q => exact fun _ _ _ h => h
              case ff16Q => kernel_rfl
              case rr16Q => kernel_rfl
              case hw16Q => rfl
              case hy16Q =>
                intro w hSw
                (try dsimp only at hSw)
                first
                | (go_simp; done)
                | (go_simp; with_reducible rfl)
              try simp only [Act.put, List.setIfInBounds_toArray, List.set_cons_zero, List.set_cons_succ]
              refine wpAnyH_take (i := 17) (oi := ?oi17Q) (v := ?v17Q) ?oi0_17Q (by kernel_rfl) ?ff17Q ?rr17Q ?hq17Q (Or.inl ⟨?hw17Q, ?hy17Q⟩) (by assumption) ?rest17Q
              case oi0_17Q =>
                conv =>
                  lhs
                  whnf
                  arg 1
                  whnf
              case hq17Q => exact fun _ _ _ h => h
              case ff17Q => kernel_rfl
              case rr17Q => kernel_rfl
              case hw17Q => rfl
              case hy17Q =>
                intro w hSw
                (try dsimp only at hSw)
                first
                | (go_simp; done)
                | (go_simp; with_reducible rfl)
              try simp only [Act.put, List.setIfInBounds_toArray, List.set_cons_zero, List.set_cons_succ]
              refine wpAnyH_ready (rs := [6]) (by kernel_rfl) (by simp) (AllReadyH.cons (o := ?oi6Q) ?oi0_6Q (fun K hK => ?_) AllReadyH.nil)
              case oi0_6Q =>
                conv =>
                  lhs
                  whnf
                  arg 1
                  whnf
              go_simp
              go_at_call 57
              have TT := AW.out WR.drew
              with_reducible (refine TT.mono ?_)
              clear TT
              rintro e w' ⟨rfl, rfl⟩
              (try dsimp only)
              refine hK.out _ _ (by exact ⟨x0, x2, x1⟩) (fun hHeld => ?_)
              clear hK K
              try simp only [Act.put, List.setIfInBounds_toArray, List.set_cons_zero, List.set_cons_succ]
              refine wpAnyH_ready (rs := [13]) (by kernel_rfl) (by simp) (AllReadyH.cons (o := ?oi13Q) ?oi0_13Q (fun K hK => ?_) AllReadyH.nil)
              case oi0_13Q =>
                conv =>
                  lhs
                  whnf
                  arg 1
                  whnf
              go_simp
              go_at_call 71
              have TT := LN.out
              with_reducible (refine TT.mono ?_)
              clear TT
              rintro e w8 ⟨rfl, d8, u8⟩
              have D8 := hide d8
              have U8 := hide u8
              have y80 := d8.Bl.cell 0
              have y81 := d8.Bf.cell 0
              have y82 : w8.cell? ⟨b, o + j * 3 + 1, none⟩ = some (.int .i64 p.want) := (u8.cell (p := ⟨b, o + j * 3 + 1, none⟩) HBN.out (by simpa using HNE.out)).trans x2
              rw [HLEN.out] at y80
              clear d8 u8
              (try dsimp only)
              refine hK.out _ _ (by exact ⟨y80, y82, y81⟩) (fun hHeld => ?_)
              clear hK K
              try simp only [Act.put, List.setIfInBounds_toArray, List.set_cons_zero, List.set_cons_succ]
              refine wpAnyH_take (i := 14) (oi := ?oi14Q) (v := ?v14Q) ?oi0_14Q (by kernel_rfl) ?ff14Q ?rr14Q ?hq14Q (Or.inl ⟨?hw14Q, ?hy14Q⟩) (by assumption) ?rest14Q
              case oi0_14Q =>
                conv =>
                  lhs
                  whnf
                  arg 1
                  whnf
              case hq14Q => exact fun _ _ _ h => h
              case ff14Q => kernel_rfl
              case rr14Q => kernel_rfl
              case hw14Q => rfl
              case hy14Q =>
                intro w hSw
                (try dsimp only at hSw)
                first
                | (go_simp; done)
                | (go_simp; with_reducible rfl)
              try simp only [Act.put, List.setIfInBounds_toArray, List.set_cons_zero, List.set_cons_succ]
              refine wpAnyH_ready (rs := [18]) (by kernel_rfl) (by simp) (AllReadyH.cons (o := ?oi18Q) ?oi0_18Q (fun K hK => ?_) AllReadyH.nil)
              case oi0_18Q =>
                conv =>
                  lhs
                  whnf
                  arg 1
                  whnf
              go_simp
              go_at_call 71
              have TT := LC.out w8 D8.out
              with_reducible (refine TT.mono ?_)
              clear TT
              rintro e w9 ⟨rfl, d9, u9⟩
              have D9 := hide d9
              have U9 := hide u9
              have y90 := d9.Bl.cell 0
              have y91 := d9.Bf.cell 0
              have y92 : w9.cell? ⟨b, o + j * 3 + 1, none⟩ = some (.int .i64 p.want) := (u9.cell (p := ⟨b, o + j * 3 + 1, none⟩) (Nat.lt_of_lt_of_le HBN.out U8.out.size) (by simpa using HNE.out)).trans y82
              rw [HLEN.out] at y90
              clear d9 u9
              (try dsimp only)
              refine hK.out _ _ (by exact ⟨y90, y92, y91⟩) (fun hHeld => ?_)
              clear hK K
              try simp only [Act.put, List.setIfInBounds_toArray, List.set_cons_zero, List.set_cons_succ]
              refine wpAnyH_take (i := 19) (oi := ?oi19Q) (v := ?v19Q) ?oi0_19Q (by kernel_rfl) ?ff19Q ?rr19Q ?hq19Q (Or.inl ⟨?hw19Q, ?hy19Q⟩) (by assumption) ?rest19Q
              case oi0_19Q =>
                conv =>
                  lhs
                  whnf
                  arg 1
                  whnf
              case hq19Q => exact fun _ _ _ h => h
              case ff19Q => kernel_rfl
              case rr19Q => kernel_rfl
              case hw19Q => rfl
              case hy19Q =>
                intro w hSw
                (try dsimp only at hSw)
                first
                | (go_simp; done)
                | (go_simp; with_reducible rfl)
              try simp only [Act.put, List.setIfInBounds_toArray, List.set_cons_zero, List.set_cons_succ]
              refine wpAnyH_done (by kernel_rfl) ?_ _
              have UU := hide ((((Upd.refl [w.heap.size + 1 + 1] WR).drew).trans U8.out (by simp)).trans U9.out (by simp))
              have hrb : ∀ q, (Value.slice A done.length c').ownBlock = some q → w.heap.size + 5 ≤ q := fun q hq => by
                rcases hrow2.out.2 with ⟨hv, _⟩ | ⟨g, cap, cur, hv, hb, _⟩
                · rw [hv] at hq; simp [Value.ownBlock] at hq
                · rw [hv] at hq
                  obtain rfl : g = q := by simpa [Value.ownBlock] using hq
                  exact hb
              have hs9 := UU.out.size
              have R9 := hide (own_kept hrow2.out UU.out (fun q hq => by have := hrb q hq; simp; omega))
              go_wp2_with fail
              go_roundg ig
              case rel =>
                refine ⟨i + 1, by omega, rfl, rfl, by go_num, D9, hB2.out.trans (UU.out.toBelow (by omega) (by simp; omega)), HB3.out.trans (UU.out.toBelow (by have := hE2.out.n0; exact this) (by simp; omega)), by omega, R9, ?_⟩
                exact HF1.out
              case measure => omega
end Go.Proofs.Yteehjciepccomaa

namespace Go.Proofs.Yteehjciepccomaa
open Go.RowKit
set_option maxRecDepth 100000
set_option maxHeartbeats 1000000

def sumS (l : List Int) : Int := l.foldl (· + ·) 0
theorem sumS_snoc (l : List Int) (n : Int) : sumS (l ++ [n]) = sumS l + n := by unfold sumS; rw [List.foldl_append]; rfl
def TookOk (took : List Int) : Prop := ∀ n ∈ took, 0 ≤ n ∧ n ≤ 3600
instance (took : List Int) : Decidable (TookOk took) := by unfold TookOk; infer_instance
/-- What Resume answers. -/
def resumeS (l : List Pc) (total : Int) (took : List Int) : List Int × Int × Int :=
  if ValidS l total ∧ took.length ≤ l.length ∧ TookOk took then
    if (restS l total took.length (sumS took)).2.2 = true then ((restS l total took.length (sumS took)).1, (restS l total took.length (sumS took)).2.1, 0) else ([], 0, 100)
  else ([], 0, 100)

theorem resume_any {n₀ : Nat} (a : Option Addr) (c : Nat) (l : List Pc) (total : Int) (ta : Option Addr) (tn tc : Nat) (took : List Int) (w : World) (hI : PcsAt n₀ w a l) (hJ : Ints n₀ w (.slice ta tn tc) took) (hn : n₀ ≤ w.heap.size) (hm : l.length ≤ maxLen) (hm2 : took.length ≤ maxLen) :
    Calls Try.prog 23 #[.slice a l.length c, .int .i64 total, .slice ta tn tc] w fun e w' => ∃ v, e = .returned (.tuple #[v, .int .i64 (resumeS l total took).2.1, .int .i64 (resumeS l total took).2.2]) ∧ w'.ownsRow w.heap.size 3 1 v (resumeS l total took).1.length ((resumeS l total took).1.map (Value.int .i64)) ∧ Below w.heap.size w w' := by
  obtain ⟨ri, hri⟩ : ∃ ri, (resumeS l total took).1 = ri := ⟨_, rfl⟩
  obtain ⟨rc, hrc⟩ : ∃ rc, (resumeS l total took).2.1 = rc := ⟨_, rfl⟩
  obtain ⟨rb, hrb⟩ : ∃ rb, (resumeS l total took).2.2 = rb := ⟨_, rfl⟩
  have HR := hide (show resumeS l total took = (ri, rc, rb) by rw [← hri, ← hrc, ← hrb])
  rw [hri, hrc, hrb]
  have V := valid_any a c l total w hI hn hm
  have HI := hide hI
  have HJ := hide hJ.form.2
  have hJl := hJ.form.1
  have hlm : l.length ≤ 9223372036854775807 := by unfold maxLen at hm; omega
  have htm : tn ≤ 9223372036854775807 := by unfold maxLen at hm2; omega
  obtain ⟨len, hlen⟩ : ∃ len, l.length = len := ⟨_, rfl⟩
  obtain ⟨x, hx⟩ : ∃ x, decide (ValidS l total) = x := ⟨_, rfl⟩
  rw [hx] at V
  rw [hlen] at V hlm ⊢
  have HX := hide hx
  have HV := hide V
  have HLEN := hide hlen
  have HTL := hide hJl
  clear hI hJ hm hm2 V hlen hx hri hrc hrb hJl
  have NO : Hid (¬ (ValidS l total ∧ took.length ≤ l.length ∧ TookOk took) → ri = [] ∧ rc = 0 ∧ rb = 100) := fun h => by
    have hr := HR.out
    unfold resumeS at hr
    rw [if_neg h] at hr
    obtain ⟨rfl, hr2⟩ := Prod.mk.inj hr
    obtain ⟨rfl, rfl⟩ := Prod.mk.inj hr2
    exact ⟨rfl, rfl, rfl⟩
  go_enter Try.func23, Try.ntmps23
  go_wp2_with fail
  refine HV.out.mono ?_
  rintro e w1 ⟨rfl, u1⟩
  have U1 := hide u1
  clear u1
  cases x with
  | false =>
    obtain ⟨rfl, rfl, rfl⟩ := NO.out (fun h => of_decide_eq_false HX.out h.1)
    go_wp2_with fail
    go_ret3
    exact ⟨_, rfl, World.ownsRow_nil _ _ _ _, U1.out.toBelow (Nat.le_refl _) (by simp)⟩
  | true =>
  by_cases htl : len < tn
  · have htl' : (len : Int) < tn := by omega
    obtain ⟨rfl, rfl, rfl⟩ := NO.out (fun h => by have := h.2.1; have := HLEN.out; have := HTL.out; omega)
    go_wp2_with fail
    go_ret3
    exact ⟨_, rfl, World.ownsRow_nil _ _ _ _, U1.out.toBelow (Nat.le_refl _) (by simp)⟩
  · have htl' : ¬ (len : Int) < tn := by omega
    have hl20 : len ≤ 20 := by have := (of_decide_eq_true HX.out).1; have := HLEN.out; omega
    go_wp2_with fail
    go_loopw [9, 28] (fun s i wr => ∃ (k A : Nat), k ≤ tn ∧ i = .int .i64 k ∧ s = .int .i64 A ∧ A ≤ 3600 * k ∧ wr = w1 ∧ Hid (sumS (took.take k) = (A : Int)) ∧ Hid (∀ n ∈ took.take k, 0 ≤ n ∧ n ≤ 3600))
      (fun _ i _ => tn - (intOf i).toNat)
    case atStart => exact ⟨0, 0, Nat.zero_le _, rfl, rfl, Nat.le_refl _, rfl, rfl, fun n hn => by simp at hn⟩
    case round =>
      obtain ⟨k, A, hk, rfl, rfl, hA, rfl, hsum, hok⟩ := hrel
      by_cases hlt : k < tn
      · obtain ⟨z, hz⟩ : ∃ z, took[k]? = some z := ⟨_, List.getElem?_eq_getElem (by have := HTL.out; omega)⟩
        obtain ⟨b, o, ea, hb, hc⟩ := HJ.out k z hz
        have hc2 := (U1.out.cell (p := ⟨b, o + k, none⟩) (Nat.lt_of_lt_of_le hb hn) (by simp)).trans hc
        subst ea
        have C4 := fun W => isIn_any z 0 3600 W
        obtain ⟨x4, h4⟩ : ∃ r, decide ((0 : Int) ≤ z ∧ z ≤ 3600) = r := ⟨_, rfl⟩
        simp only [h4] at C4
        have D4 := hide C4
        have H4 := hide h4
        have HZ := hide hz
        clear h4 C4 hz hc hb
        go_wp2_with fail
        refine (D4.out _).mono ?_
        rintro e w' ⟨rfl, rfl⟩
        cases x4 with
        | false =>
          obtain ⟨rfl, rfl, rfl⟩ := NO.out (fun h => of_decide_eq_false H4.out (h.2.2 z (List.mem_of_getElem? HZ.out)))
          go_wp2_with fail
          go_ret3
          exact ⟨_, rfl, World.ownsRow_nil _ _ _ _, U1.out.toBelow (Nat.le_refl _) (by simp)⟩
        | true =>
          have hz9 := of_decide_eq_true H4.out
          obtain ⟨hz1, hz2⟩ := hz9
          obtain ⟨zn, rfl⟩ : ∃ zn : Nat, z = (zn : Int) := ⟨z.toNat, by omega⟩
          have hwA : IntKind.i64.wrap ((A : Int) + (zn : Int)) = (A : Int) + (zn : Int) := Go.IntWalk.i64_in _ (by omega)
          go_wp2_with fail
          go_roundw
          case rel => exact ⟨k + 1, A + zn, by omega, by go_num, by go_num, by omega, by first | rfl | trivial, by
            show sumS (took.take (k + 1)) = _
            rw [List.take_add_one, HZ.out, Option.toList_some, sumS_snoc, hsum.out]; omega, fun n hn => by
            rw [List.take_add_one, HZ.out, Option.toList_some, List.mem_append] at hn
            rcases hn with hn | hn
            · exact hok.out n hn
            · simp only [List.mem_singleton] at hn
              subst hn
              exact ⟨hz1, hz2⟩⟩
          case measure => simp [intOf] <;> omega
      · obtain rfl : k = tn := by omega
        have hok2 := hok.out
        have hsum2 := hsum.out
        rw [List.take_of_length_le (by have := HTL.out; omega)] at hok2 hsum2
        have hr := HR.out
        unfold resumeS at hr
        rw [if_pos ⟨of_decide_eq_true HX.out, by have := HLEN.out; have := HTL.out; omega, hok2⟩, hsum2, ← HTL.out] at hr
        have B := best_any a c l total k A wr (HI.out.upd U1.out hn (by simp)) (Nat.le_trans hn U1.out.size) (of_decide_eq_true HX.out) (by have := HLEN.out; omega) (by omega)
        obtain ⟨qi, hqi⟩ : ∃ qi, (restS l total k A).1 = qi := ⟨_, rfl⟩
        obtain ⟨qc, hqc⟩ : ∃ qc, (restS l total k A).2.1 = qc := ⟨_, rfl⟩
        obtain ⟨qb, hqb⟩ : ∃ qb, (restS l total k A).2.2 = qb := ⟨_, rfl⟩
        rw [hqi, hqc, hqb, HLEN.out] at B
        rw [hqi, hqc, hqb] at hr
        have HB := hide B
        have HRR := hide hr
        clear hok2 hsum2 hr B hqi hqc hqb
        go_wp2_with fail
        refine HB.out.mono ?_
        rintro e w5 ⟨v, rfl, r5, b5⟩
        have R5 := hide r5
        have B5 := hide ((U1.out.toBelow (Nat.le_refl _) (by simp)).trans (b5.mono U1.out.size))
        have hs1 := U1.out.size
        clear r5 b5
        cases qb with
        | false =>
          have hr := HRR.out
          rw [if_neg (by simp)] at hr
          obtain ⟨rfl, hr2⟩ := Prod.mk.inj hr
          obtain ⟨rfl, rfl⟩ := Prod.mk.inj hr2
          clear hr hr2
          go_wp2_with fail
          go_ret3
          exact ⟨_, rfl, World.ownsRow_nil _ _ _ _, B5.out⟩
        | true =>
          have hr := HRR.out
          rw [if_pos rfl] at hr
          obtain ⟨rfl, hr2⟩ := Prod.mk.inj hr
          obtain ⟨rfl, rfl⟩ := Prod.mk.inj hr2
          clear hr hr2
          go_wp2_with fail
          go_ret3
          exact ⟨_, rfl, own_less R5.out hs1, B5.out⟩
theorem solve_any {n₀ : Nat} (a : Option Addr) (c : Nat) (l : List Pc) (total : Int) (w : World) (hI : PcsAt n₀ w a l) (hn : n₀ ≤ w.heap.size) (hm : l.length ≤ maxLen) :
    Calls Try.prog 19 #[.slice a l.length c, .int .i64 total] w fun e w' => ∃ v, e = .returned (.tuple #[v, .int .i64 (resumeS l total []).2.1, .int .i64 (resumeS l total []).2.2]) ∧ w'.ownsRow w.heap.size 3 1 v (resumeS l total []).1.length ((resumeS l total []).1.map (Value.int .i64)) ∧ Below w.heap.size w w' := by
  have R := hide (resume_any a c l total none 0 0 [] w hI (.inl ⟨none, 0, rfl, rfl⟩) hn hm (Nat.zero_le _))
  obtain ⟨r, hr⟩ : ∃ r, resumeS l total [] = r := ⟨_, rfl⟩
  rw [hr] at R ⊢
  clear hI hm hr
  go_enter Try.func19, Try.ntmps19
  go_wp2_with fail
  refine R.out.mono ?_
  rintro e w1 ⟨v, rfl, h1, h2⟩
  have H1 := hide h1
  have H2 := hide h2
  clear h1 h2
  go_wp2_with fail
  go_ret3
  exact ⟨v, rfl, H1.out, H2.out⟩
end Go.Proofs.Yteehjciepccomaa

namespace Go.Proofs.Yteehjciepccomaa

theorem cost_bound {l : List Pc} (hok : ∀ p ∈ l, PcOk p) : ∀ {ns : List Int} {total at_ : Int}, fitsS total l at_ ns = true → 0 ≤ costS l ns ∧ costS l ns ≤ 3600 * l.length := by
  induction l with
  | nil => intro ns total at_ h; cases ns <;> simp [costS]
  | cons p l ih =>
    intro ns total at_ h
    cases ns with
    | nil => simp [fitsS] at h
    | cons n ns =>
      simp only [fitsS, Bool.and_eq_true, decide_eq_true_eq] at h
      have h1 := ih (fun q hq => hok q (List.mem_cons_of_mem _ hq)) h.2
      have hp := hok p List.mem_cons_self
      have hn := len_ok hp h.1.2
      have hw := hp.2.1
      have ha : 0 ≤ awayS n p.want ∧ awayS n p.want ≤ 3600 := by unfold awayS; omega
      rw [costS, List.length_cons]
      omega
/-- No choice that fits costs less. -/
theorem least_le {total : Int} {l : List Pc} (hok : ∀ p ∈ l, PcOk p) : ∀ {ns : List Int} {at_ : Int}, 0 ≤ at_ → fitsS total l at_ ns = true → leastS total l at_ ≤ costS l ns := by
  induction l with
  | nil =>
    intro ns at_ _ h
    cases ns with
    | nil => simp only [fitsS, decide_eq_true_eq] at h; rw [leastS, if_pos h]; simp [costS]
    | cons n ns => simp [fitsS] at h
  | cons p l ih =>
    intro ns at_ h0 h
    cases ns with
    | nil => simp [fitsS] at h
    | cons n ns =>
      have h' := h
      simp only [fitsS, Bool.and_eq_true, decide_eq_true_eq] at h
      have hp := hok p List.mem_cons_self
      have hn := len_ok hp h.1.2
      have h1 := ih (fun q hq => hok q (List.mem_cons_of_mem _ hq)) (at_ := at_ + n) (by omega) h.2
      rw [leastS, costS]
      split
      · rename_i hlt
        -- it would end behind the total
        have hb : ∀ (m : List Pc) (hm : ∀ q ∈ m, PcOk q) (ks : List Int) (t : Int), total < t → fitsS total m t ks = false := by
          intro m
          induction m with
          | nil => intro _ ks t ht; cases ks <;> simp [fitsS]; omega
          | cons q m im =>
            intro hm ks t ht
            cases ks with
            | nil => simp [fitsS]
            | cons k ks =>
              cases hk : fitsS total (q :: m) t (k :: ks) with
              | false => rfl
              | true =>
                simp only [fitsS, Bool.and_eq_true, decide_eq_true_eq] at hk
                have hkk := len_ok (hm q List.mem_cons_self) hk.1.2
                have := im (fun r hr => hm r (List.mem_cons_of_mem _ hr)) ks (t + k) (by omega)
                rw [this] at hk
                simp at hk
        rw [hb (p :: l) hok (n :: ns) at_ hlt] at h'
        cases h'
      · rw [if_pos h.1.1]
        have := foldl_min_mem (fun n => awayS n p.want + leastS total l (at_ + n)) p.lens never n h.1.2
        have hmin : min (p.lens.foldl (fun c n => min c (awayS n p.want + leastS total l (at_ + n))) never) never ≤ awayS n p.want + leastS total l (at_ + n) := by omega
        omega
/-- The choice that is taken fits, and costs that much. -/
theorem best_fits {total : Int} {l : List Pc} (hok : ∀ p ∈ l, PcOk p) : ∀ {at_ : Int}, leastS total l at_ < never → ∃ ns, bestS total l at_ = some ns ∧ fitsS total l at_ ns = true ∧ costS l ns = leastS total l at_ := by
  induction l with
  | nil =>
    intro at_ h
    rw [leastS] at h
    by_cases e : at_ = total
    · exact ⟨[], rfl, by simp [fitsS, e], by rw [leastS, if_pos e]; rfl⟩
    · rw [if_neg e] at h; omega
  | cons p l ih =>
    intro at_ h
    have h0 := h
    rw [leastS] at h
    split at h
    · omega
    split at h
    case isFalse => omega
    rename_i hm
    rcases foldl_min_cases (fun n => awayS n p.want + leastS total l (at_ + n)) p.lens never with hc | ⟨n, hn, hc⟩
    · rw [hc] at h; omega
    · have hle : leastS total (p :: l) at_ = awayS n p.want + leastS total l (at_ + n) := by
        rw [leastS]
        rename_i hlt
        rw [if_neg hlt, if_pos hm, hc]
        rw [hc] at h
        show min (awayS n p.want + leastS total l (at_ + n)) never = awayS n p.want + leastS total l (at_ + n)
        omega
      cases hf : p.lens.find? fun n => decide (awayS n p.want + leastS total l (at_ + n) = leastS total (p :: l) at_) with
      | none =>
        have := List.find?_eq_none.1 hf n hn
        simp [hle] at this
      | some k =>
        have hk := List.find?_some hf
        simp only [decide_eq_true_eq] at hk
        have hkm := List.mem_of_find?_eq_some hf
        have hk2 : leastS total l (at_ + k) < never := by have := awayS_nonneg k p.want; omega
        obtain ⟨ks, h1, h2, h3⟩ := ih (fun q hq => hok q (List.mem_cons_of_mem _ hq)) hk2
        refine ⟨k :: ks, ?_, ?_, ?_⟩
        · rw [bestS, hf]
          simp only [h1, Option.map_some]
        · simp only [fitsS, Bool.and_eq_true, decide_eq_true_eq]
          exact ⟨⟨hm, hkm⟩, h2⟩
        · rw [costS, h3, hk]
/-- Whether a list comes before another one. -/
def firstS : List Int → List Int → Bool
  | x :: xs, y :: ys => if x = y then firstS xs ys else decide (x < y)
  | _, _ => false
theorem asc_lt {p : Pc} (hp : PcOk p) : p.lens.Pairwise (· < ·) := by
  rw [List.pairwise_iff_getElem]
  have step : ∀ j, (hj : j + 1 < p.lens.length) → p.lens[j]'(by omega) < p.lens[j + 1] := fun j hj => by
    have := (hp.2.2.2 (j + 1) hj).2
    rcases this with h | h
    · omega
    · rw [show j + 1 - 1 = j from rfl, List.getElem?_eq_getElem (by omega), List.getElem?_eq_getElem hj] at h
      simpa using h
  have all : ∀ d i, (h : i + d + 1 < p.lens.length) → p.lens[i]'(by omega) < p.lens[i + d + 1] := by
    intro d
    induction d with
    | zero => intro i h; exact step i h
    | succ d ih => intro i h; exact Int.lt_trans (ih i (by omega)) (step (i + d + 1) h)
  intro i j hi hj hij
  have := all (j - i - 1) i (by omega)
  simp only [show i + (j - i - 1) + 1 = j by omega] at this
  exact this
/-- Of the choices that cost as little, none comes first. -/
theorem best_first {total : Int} {l : List Pc} (hok : ∀ p ∈ l, PcOk p) : ∀ {at_ : Int} {ns ks : List Int}, 0 ≤ at_ → bestS total l at_ = some ns → fitsS total l at_ ks = true → costS l ks = leastS total l at_ → firstS ks ns = false := by
  induction l with
  | nil =>
    intro at_ ns ks _ hb hf _
    cases ks with
    | nil => rfl
    | cons k ks => simp [fitsS] at hf
  | cons p l ih =>
    intro at_ ns ks h0 hb hf hc
    cases ks with
    | nil => simp [fitsS] at hf
    | cons k ks =>
      have hf' := hf
      simp only [fitsS, Bool.and_eq_true, decide_eq_true_eq] at hf
      have hp := hok p List.mem_cons_self
      have hk := len_ok hp hf.1.2
      have hok' : ∀ q ∈ l, PcOk q := fun q hq => hok q (List.mem_cons_of_mem _ hq)
      have hle := least_le hok' (at_ := at_ + k) (by omega) hf.2
      have hall := least_le hok h0 hf'
      rw [costS] at hc
      -- k does it too
      have hkeq : awayS k p.want + leastS total l (at_ + k) = leastS total (p :: l) at_ := by
        have hge : leastS total (p :: l) at_ ≤ awayS k p.want + leastS total l (at_ + k) := by
          rw [leastS]
          split
          · rename_i hlt
            have := leastS_far l (show total < at_ + k by omega)
            have := awayS_nonneg k p.want
            omega
          · rw [if_pos hf.1.1]
            have := foldl_min_mem (fun n => awayS n p.want + leastS total l (at_ + n)) p.lens never k hf.1.2
            have : min (p.lens.foldl (fun c n => min c (awayS n p.want + leastS total l (at_ + n))) never) never ≤ awayS k p.want + leastS total l (at_ + k) := by omega
            exact this
        omega
      rw [bestS] at hb
      cases hfi : p.lens.find? fun n => decide (awayS n p.want + leastS total l (at_ + n) = leastS total (p :: l) at_) with
      | none => rw [hfi] at hb; cases hb
      | some n =>
        rw [hfi] at hb
        simp only at hb
        cases hbb : bestS total l (at_ + n) with
        | none => rw [hbb] at hb; cases hb
        | some ms =>
          rw [hbb] at hb
          simp only [Option.map_some, Option.some.injEq] at hb
          subst hb
          rw [firstS]
          by_cases e : k = n
          · rw [if_pos e]
            subst e
            exact ih hok' (by omega) hbb hf.2 (by omega)
          · rw [if_neg e]
            refine decide_eq_false (fun hlt => ?_)
            -- n is the first that does it, and the lengths ascend
            obtain ⟨_, xs, ys, hsp, hno⟩ := List.find?_eq_some_iff_append.1 hfi
            have hasc := asc_lt hp
            rw [hsp, List.pairwise_append] at hasc
            have hkm := hf.1.2
            rw [hsp] at hkm
            rcases List.mem_append.1 hkm with h | h
            · have := hno k h
              simp [hkeq] at this
            · rcases List.mem_cons.1 h with h | h
              · exact e h
              · have := (List.pairwise_cons.1 hasc.2.1).1 k h
                omega
end Go.Proofs.Yteehjciepccomaa
